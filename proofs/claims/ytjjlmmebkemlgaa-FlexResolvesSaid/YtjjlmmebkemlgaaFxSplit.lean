/-
The reference's Split, simulated.
-/
import Derived.Test.YtjjlmmebkemlgaaFxAsks
set_option linter.unusedVariables false
set_option linter.unusedSimpArgs false
namespace Go.Ai
open Go.Proofs

open Go.RowKit (wrap64)
open Lf (rd)
/-- What grew is a slice over all of a block. -/
theorem Grown.whole {h : H} {v : S} {n0 : Nat} {l : List Int} (k : Grown h v n0 3 1 (nums l)) (hp : 0 < l.length) : ∃ q, v = .sl q 0 l.length l.length 1 false ∧ Cells h q 3 (nums l) ∧ (n0 ≤ q ∧ q < h.next) ∧ h.may q = true := by
  rcases k with ⟨q, _⟩ | ⟨q, n, rfl, p1, p2, p3, p4, p5, p6⟩
  · have := congrArg List.length q; rw [nums_length, List.length_nil] at this; omega
  · have : n = l.length := by rw [nums_length] at p2; omega
    subst this; exact ⟨q, rfl, p3, ⟨p5, p6⟩, p4⟩
theorem grown_of {h : H} {q n0 : Nat} {l : List Int} (hc : Cells h q 3 (nums l)) (hm : h.may q = true) (h1 : n0 ≤ q) (h2 : q < h.next) (hp : 0 < l.length) : Grown h (.sl q 0 l.length l.length 1 false) n0 3 1 (nums l) :=
  .inr ⟨q, l.length, rfl, hp, by rw [nums_length]; omega, hc, hm, h1, h2⟩
set_option maxRecDepth 100000 in
set_option maxHeartbeats 0 in
theorem split_fn {spec : CallF} (hs : ∀ args h, spec 18 args h = none) {h : H} {v : S} {t : Int} {ws r : List Int} {k : Nat} (ok : Ok h) (hi : IntsAt h v ws) (hne : ws ≠ []) (hlen : ws.length ≤ 64) (hf : Lf.arrasref1_Split.f k t ws = some r) :
    WF Try.prog spec 18 [.one (.i .i64 t), .one v] h fun rv h1 => ∃ x, rv = .one x ∧ Grown h1 x h.next 3 1 (nums r) ∧ Up (· < h.next) h h1 ∧ Ok h1 := by
  obtain ⟨q0, cp, ex, rfl, hq0, hrow⟩ : ∃ b c ex, v = .sl b 0 ws.length c 1 ex ∧ b < h.next ∧ ∀ k x, ws[k]? = some x → h.row b k 1 = some [.i .i64 x] := by
    rcases hi with ⟨q, _⟩ | q
    · exact absurd q hne
    · exact q
  have hpos : 0 < ws.length := List.length_pos_iff.2 hne
  refine WF_of Try.func18 rfl (hs _ _) (by rw [Try.ntmps18]; simp) (by rw [Try.ntmps18]; decide) ?_
  rw [Try.ntmps18, Try.results18]
  simp only [Sl.setMany_cons, Sl.setMany_nil, Nat.zero_add, Nat.reduceAdd]
  unfold Lf.arrasref1_Split.f at hf
  (repeat refine W_seq ?_); refine W_region ?_
  (refine VO ?_)
  refine WO_nil ?_; (repeat refine W_seq ?_)
  refine W_region ?_
  (refine VO ?_)
  refine WO_nil ?_; (repeat refine W_seq ?_)
  refine W_region ?_
  (refine VO ?_)
  refine WO_nil ?_; (repeat refine W_seq ?_)
  refine W_block (W_rounds (fun j T h1 => h1 = h ∧ ∃ x5 x6, Lf.arrasref1_Split.l0 j t ws x5 x6 = some r ∧ T.get 0 = some (.one (.i .i64 t)) ∧ T.get 1 = some (.one (.sl q0 0 ws.length cp 1 ex)) ∧ T.get 5 = some (.one (.i .i64 x5)) ∧ T.get 6 = some (.one (.i .i64 x6))) ?_ k _ _ ⟨rfl, 0, 0, hf, gs, gs, gs, gs⟩)
  clear hf
  rintro j T h1 ⟨rfl, x5, x6, hf, t0, t1, t5, t6⟩
  cases j with
  | zero => cases hf
  | succ j =>
    simp only [Lf.arrasref1_Split.l0] at hf
    (repeat refine W_seq ?_); refine W_region ?_
    iterate 2 (refine VX (by simp only [go_sem, ↓reduceIte, Nat.reduceEqDiff, Nat.reduceAdd, t1, t6]; rfl) ?_)
    (refine VX (ex_len el23 (by simp only [go_sem, ↓reduceIte, Nat.reduceEqDiff, t1, t6]; rfl)) ?_)
    (refine VX (ex_bin (by simp only [go_sem, ↓reduceIte, Nat.reduceEqDiff, t1, t6]; rfl) (by simp only [go_sem, ↓reduceIte, Nat.reduceEqDiff, t1, t6]; rfl) in_lss) ?_)
    refine WO_nil ?_; (repeat refine W_seq ?_)
    refine W_cond (ee) (fun hlt => W_skip ?_) (fun hge => W_exit ?_)
    · have hlt : x6 < (ws.length : Int) := by simpa using hlt
      rw [if_pos hlt] at hf
      obtain ⟨g1, hf⟩ := ite_some hf
      have r1 := hrow x6.toNat _ (rd_at g1 hlt)
      repeat refine W_seq ?_
      refine W_block ?_
      (repeat refine W_seq ?_); refine W_region ?_
      iterate 7 (first | (refine VX (by simp only [go_sem, ↓reduceIte, Nat.reduceEqDiff, Nat.reduceAdd, t1, t5, t6, IX23I g1 hlt]; rfl) ?_) | (refine VX (by simp (disch := first | omega | simp) only [go_sem, ↓reduceIte, Nat.reduceEqDiff, Nat.reduceAdd, t1, t5, t6, IX23I g1 hlt]; rfl) ?_) | (refine VX (by simp (disch := first | omega | simp) only [go_sem, ↓reduceIte, Nat.reduceEqDiff, Nat.reduceAdd, r1, IX23I g1 hlt, t1, t5, t6, IX23I g1 hlt]; rfl) ?_) | (refine VX (ex_bin (by simp only [go_sem, ↓reduceIte, Nat.reduceEqDiff, t1, t5, t6, IX23I g1 hlt]; rfl) (by simp only [go_sem, ↓reduceIte, Nat.reduceEqDiff, t1, t5, t6, IX23I g1 hlt]; rfl) in_add) ?_; (rw [IntWalk.i64_left])))
      refine WO_nil ?_; (repeat refine W_seq ?_)
      refine W_region ?_
      iterate 3 (first | (refine VX (by simp only [go_sem, ↓reduceIte, Nat.reduceEqDiff, Nat.reduceAdd, t6]; rfl) ?_) | (refine VX (ex_bin (by simp only [go_sem, ↓reduceIte, Nat.reduceEqDiff, t6]; rfl) (by simp only [go_sem, ↓reduceIte, Nat.reduceEqDiff, t6]; rfl) in_add) ?_; (rw [IntWalk.i64_left])))
      exact WO_nil ⟨j, Nat.lt_succ_self _, rfl, _, _, hf, gt t0, gt t1, gs, gs⟩
    · have hge : ¬ x6 < (ws.length : Int) := by simpa using hge
      rw [if_neg hge] at hf
      clear hge
      refine ⟨fun _ => ?_, fun hne => absurd rfl hne⟩
      (repeat refine W_seq ?_); refine W_region ?_
      iterate 2 (refine VO ?_)
      refine WO_nil ?_; (repeat refine W_seq ?_)
      refine W_region ?_
      iterate 2 (refine VX (by simp only [go_sem, ↓reduceIte, Nat.reduceEqDiff, Nat.reduceAdd, t0]; rfl) ?_)
      refine WO_nil ?_; (repeat refine W_seq ?_)
      refine W_region ?_
      (refine VO ?_)
      refine WO_nil ?_; (repeat refine W_seq ?_)
      refine W_block (W_rounds (fun j T h2 => ∃ x7 x8 x9 x10 v7 v8, Lf.arrasref1_Split.l1 j t ws x5 x7 x8 x9 x10 = some r ∧ T.get 0 = some (.one (.i .i64 t)) ∧ T.get 1 = some (.one (.sl q0 0 ws.length cp 1 ex)) ∧ T.get 5 = some (.one (.i .i64 x5)) ∧ T.get 7 = some (.one v7) ∧ T.get 8 = some (.one v8) ∧ T.get 9 = some (.one (.i .i64 x9)) ∧ T.get 10 = some (.one (.i .i64 x10)) ∧ (x7.length : Int) = x10 ∧ (x8.length : Int) = x10 ∧ 0 ≤ x10 ∧ x10 ≤ (ws.length : Int) ∧ Grown h2 v7 h1.next 3 1 (nums x7) ∧ Grown h2 v8 h1.next 3 1 (nums x8) ∧ (∀ b, S.blk v7 = some b → S.blk v8 ≠ some b) ∧ Up (· < h1.next) h1 h2 ∧ Ok h2) ?_ j _ _ ⟨[], [], t, 0, .sl0, .sl0, hf, gt t0, gt t1, gt t5, gs, gs, gs, gs, rfl, rfl, by omega, by omega, .nil, .nil, (fun b hb => by cases hb), .refl _ _, ok⟩)
      clear hf t0 t1 t5 t6
      rintro j T h2 ⟨x7, x8, x9, x10, v7, v8, hf, t0, t1, t5, t7, t8, t9, t10, l7, l8, i0, i1, g7, g8, hd, u2, o2⟩
      cases j with
      | zero => cases hf
      | succ j =>
        simp only [Lf.arrasref1_Split.l1] at hf
        have hn2 := u2.next
        (repeat refine W_seq ?_); refine W_region ?_
        iterate 4 (first | (refine VX (by simp only [go_sem, ↓reduceIte, Nat.reduceEqDiff, Nat.reduceAdd, t1, t10]; rfl) ?_) | (refine VX (ex_len el23 (by simp only [go_sem, ↓reduceIte, Nat.reduceEqDiff, t1, t10]; rfl)) ?_) | (refine VX (ex_bin (by simp only [go_sem, ↓reduceIte, Nat.reduceEqDiff, t1, t10]; rfl) (by simp only [go_sem, ↓reduceIte, Nat.reduceEqDiff, t1, t10]; rfl) in_lss) ?_))
        refine WO_nil ?_; (repeat refine W_seq ?_)
        refine W_cond (ee) (fun hlt => W_skip ?_) (fun hge => W_exit ?_)
        · have hlt : x10 < (ws.length : Int) := by simpa using hlt
          rw [if_pos hlt] at hf
          obtain ⟨g1, hf⟩ := ite_some hf
          have hs0 : x5 ≠ 0 := by
            intro e
            rw [if_pos e] at hf; cases hf
          rw [if_neg hs0] at hf
          obtain ⟨g3, hf⟩ := ite_some hf
          obtain ⟨y, hy, hf⟩ := bind_some hf
          cases hy
          obtain ⟨g4, hf⟩ := ite_some hf
          obtain ⟨g5, hf⟩ := ite_some hf
          have hw1 : wrap64 (x10 + 1) = x10 + 1 := IntWalk.wrap64_in _ (by omega)
          have r1 : h2.row q0 x10.toNat 1 = some [.i .i64 (rd ws x10)] := by rw [u2.row hq0]; exact hrow _ _ (rd_at g1 hlt)
          repeat refine W_seq ?_
          refine W_block ?_
          (repeat refine W_seq ?_); refine W_region ?_
          iterate 9 (first | (refine VX (by simp only [go_sem, ↓reduceIte, Nat.reduceEqDiff, Nat.reduceAdd, t0, t1, t5, t7, t10, IX23I g1 hlt]; rfl) ?_) | (refine VX (by simp (disch := first | omega | simp) only [go_sem, ↓reduceIte, Nat.reduceEqDiff, Nat.reduceAdd, t0, t1, t5, t7, t10, IX23I g1 hlt]; rfl) ?_) | (refine VX (by simp (disch := first | omega | simp) only [go_sem, ↓reduceIte, Nat.reduceEqDiff, Nat.reduceAdd, r1, IX23I g1 hlt, t0, t1, t5, t7, t10, IX23I g1 hlt]; rfl) ?_) | (refine VX (ex_bin (by simp only [go_sem, ↓reduceIte, Nat.reduceEqDiff, t0, t1, t5, t7, t10, IX23I g1 hlt]; rfl) (by simp only [go_sem, ↓reduceIte, Nat.reduceEqDiff, t0, t1, t5, t7, t10, IX23I g1 hlt]; rfl) in_mul) ?_; (rw [IntWalk.i64_left])) | (refine VX (ex_quo (by simp only [go_sem, ↓reduceIte, Nat.reduceEqDiff, t0, t1, t5, t7, t10, IX23I g1 hlt]; rfl) (by simp only [go_sem, ↓reduceIte, Nat.reduceEqDiff, t0, t1, t5, t7, t10, IX23I g1 hlt]; rfl) (by first | decide | assumption)) ?_; (rw [IntWalk.i64_left])))
          generalize hP : wrap64 (t * rd ws x10) = pr at *
          refine WO_bs1 el23 ⟨_, ze23⟩ (ee) o2 (by decide) fun h3 n3 => ?_
          have e3 := n3.next
          have g7a := g7.up n3.up fun q hq => (g7.lt hq).2
          have g8a := g8.up n3.up fun q hq => (g8.lt hq).2
          have n7 : (nums x7).length = x7.length * 1 := by rw [nums_length, Nat.mul_one]
          refine WO_app (n0 := h1.next) ap23_23 (by (simp only [go_sem, ↓reduceIte, Nat.reduceEqDiff, t7] <;> rfl)) (ee) n3.cells rfl g7a n3.ok (by omega) n7 (by omega) (by omega) (by decide) fun v7b h4 g4 => ?_
          have e4 := g4.next
          have g8b := g8a.up g4.up fun q hq => ⟨by have := (g8a.lt hq).2; omega, fun e => hd _ e hq⟩
          have g7b := g4.grown
          have u4 : Up (· < h1.next) h1 h4 := (u2.trans (n3.up.mono fun b hb => by omega)).trans (g4.below g7a (by omega))
          have r4 : h4.row q0 x10.toNat 1 = some [.i .i64 (rd ws x10)] := by rw [u4.row hq0]; exact hrow _ _ (rd_at g1 hlt)
          have hb7 := g4.blk
          (refine VO ?_)
          refine WO_nil ?_; (repeat refine W_seq ?_)
          refine W_region ?_
          iterate 9 (first | (refine VX (by simp only [go_sem, ↓reduceIte, Nat.reduceEqDiff, Nat.reduceAdd, t0, t1, t5, t8, t10, IX23I g1 hlt, hP]; rfl) ?_) | (refine VX (by simp (disch := first | omega | simp) only [go_sem, ↓reduceIte, Nat.reduceEqDiff, Nat.reduceAdd, t0, t1, t5, t8, t10, IX23I g1 hlt, hP]; rfl) ?_) | (refine VX (by simp (disch := first | omega | simp) only [go_sem, ↓reduceIte, Nat.reduceEqDiff, Nat.reduceAdd, r4, IX23I g1 hlt, t0, t1, t5, t8, t10, IX23I g1 hlt, hP]; rfl) ?_) | (refine VX (ex_bin (by simp only [go_sem, ↓reduceIte, Nat.reduceEqDiff, t0, t1, t5, t8, t10, IX23I g1 hlt, hP]; rfl) (by simp only [go_sem, ↓reduceIte, Nat.reduceEqDiff, t0, t1, t5, t8, t10, IX23I g1 hlt, hP]; rfl) in_mul) ?_; (rw [IntWalk.i64_left])) | (refine VX (ex_rem (by simp only [go_sem, ↓reduceIte, Nat.reduceEqDiff, t0, t1, t5, t8, t10, IX23I g1 hlt, hP]; rfl) (by simp only [go_sem, ↓reduceIte, Nat.reduceEqDiff, t0, t1, t5, t8, t10, IX23I g1 hlt, hP]; rfl) (by first | decide | assumption)) ?_))
          refine WO_bs1 el23 ⟨_, ze23⟩ (ee) g4.ok (by decide) fun h5 n5 => ?_
          have e5 := n5.next
          have g7c := g7b.up n5.up fun q hq => (g7b.lt hq).2
          have g8c := g8b.up n5.up fun q hq => (g8b.lt hq).2
          have n8 : (nums x8).length = x8.length * 1 := by rw [nums_length, Nat.mul_one]
          refine WO_app (n0 := h1.next) ap23_23 (by (simp only [go_sem, ↓reduceIte, Nat.reduceEqDiff, t8] <;> rfl)) (ee) n5.cells rfl g8c n5.ok (by omega) n8 (by omega) (by omega) (by decide) fun v8b h6 g6 => ?_
          have e6 := g6.next
          have hb8 := g6.blk
          have g7d := g7c.up g6.up fun q hq => ⟨by have := (g7c.lt hq).2; omega, fun e => by have := (g8.lt e).2; rw [hb7] at hq; have := Option.some.inj hq; omega⟩
          have u6 : Up (· < h1.next) h1 h6 := (u4.trans (n5.up.mono fun b hb => by omega)).trans (g6.below g8c (by omega))
          (refine VO ?_)
          refine WO_nil ?_; (repeat refine W_seq ?_)
          have g7e := g7d.same (ys := nums (x7 ++ [wrap64 (Int.tdiv pr x5)])) (by rw [nums_append]; rfl)
          obtain ⟨q7, hv7, c7, lt7, m7⟩ := g7e.whole (by simp)
          have r7 : h6.row q7 x10.toNat 1 = some [.i .i64 (rd (x7 ++ [wrap64 (Int.tdiv pr x5)]) x10)] := c7.at1 (nums_get (rd_at g1 g5))
          subst hv7
          refine W_region ?_
          iterate 7 (first | (refine VX (by simp only [go_sem, ↓reduceIte, Nat.reduceEqDiff, Nat.reduceAdd, t9, t10, IX23I g1 g5]; rfl) ?_) | (refine VX (by simp (disch := first | omega | simp) only [go_sem, ↓reduceIte, Nat.reduceEqDiff, Nat.reduceAdd, t9, t10, IX23I g1 g5]; rfl) ?_) | (refine VX (by simp (disch := first | omega | simp) only [go_sem, ↓reduceIte, Nat.reduceEqDiff, Nat.reduceAdd, r7, IX23I g1 g5, t9, t10, IX23I g1 g5]; rfl) ?_) | (refine VX (ex_bin (by simp only [go_sem, ↓reduceIte, Nat.reduceEqDiff, t9, t10, IX23I g1 g5]; rfl) (by simp only [go_sem, ↓reduceIte, Nat.reduceEqDiff, t9, t10, IX23I g1 g5]; rfl) in_sub) ?_; (rw [IntWalk.i64_left])))
          refine WO_nil ?_; (repeat refine W_seq ?_)
          refine W_region ?_
          iterate 3 (first | (refine VX (by simp only [go_sem, ↓reduceIte, Nat.reduceEqDiff, Nat.reduceAdd, t10]; rfl) ?_) | (refine VX (ex_bin (by simp only [go_sem, ↓reduceIte, Nat.reduceEqDiff, t10]; rfl) (by simp only [go_sem, ↓reduceIte, Nat.reduceEqDiff, t10]; rfl) in_add) ?_; (rw [IntWalk.i64_left])))
          refine WO_nil ⟨j, Nat.lt_succ_self _, _, _, _, _, _, v8b, hf, gt t0, gt t1, gt t5, gs, gs, gs, gs, ?_, ?_, by omega, by omega, g7e, g6.grown.same (by rw [nums_append]; rfl), fun b hb e => ?_, u6, g6.ok⟩
          · rw [hw1, List.length_append]; simp; omega
          · rw [hw1, List.length_append]; simp; omega
          · rw [hb8] at e; have q1 := Option.some.inj hb; have q2 := Option.some.inj e
            have := hb7; have q3 := Option.some.inj this; omega
        · have hge : ¬ x10 < (ws.length : Int) := by simpa using hge
          rw [if_neg hge] at hf
          obtain ⟨q7, rfl, c7, lt7, m7⟩ := g7.whole (by omega)
          obtain ⟨q8, rfl, c8, lt8, m8⟩ := g8.whole (by omega)
          have h78 : q7 ≠ q8 := fun e => hd q7 rfl (by rw [e]; rfl)
          have hp7 : 0 < x7.length := by omega
          refine ⟨fun _ => ?_, fun hne => absurd rfl hne⟩
          repeat refine W_seq ?_
          refine W_block (W_rounds (fun j T h3 => ∃ l R x9, Lf.arrasref1_Split.l2 j l R x9 = some r ∧ T.get 7 = some (.one (.sl q7 0 l.length l.length 1 false)) ∧ T.get 8 = some (.one (.sl q8 0 R.length x8.length 1 false)) ∧ T.get 9 = some (.one (.i .i64 x9)) ∧ 0 < l.length ∧ Cells h3 q7 3 (nums l) ∧ Cells h3 q8 3 (nums R) ∧ h3.may q7 = true ∧ h3.may q8 = true ∧ Up (· < h1.next) h1 h3 ∧ Ok h3 ∧ h2.next ≤ h3.next) ?_ j _ _ ⟨x7, x8, x9, hf, gt t7, gt t8, gt t9, hp7, c7, c8, m7, m8, u2, o2, Nat.le_refl _⟩)
          clear hf t0 t1 t5 t7 t8 t9 t10 g7 g8 hd c7 c8 m7 m8 l7 l8
          rintro j T h3 ⟨l, R, x9, hf, t7, t8, t9, hlp, c7, c8, m7, m8, u3, o3, hn3⟩
          cases j with
          | zero => cases hf
          | succ j =>
            simp only [Lf.arrasref1_Split.l2] at hf
            (repeat refine W_seq ?_); refine W_region ?_
            (refine VX (by simp only [go_sem, ↓reduceIte, Nat.reduceEqDiff, Nat.reduceAdd, t9]; rfl) ?_)
            (refine VX (ex_bin (by simp only [go_sem, ↓reduceIte, Nat.reduceEqDiff, t9]; rfl) (by simp only [go_sem, ↓reduceIte, Nat.reduceEqDiff, t9]; rfl) in_gtr) ?_)
            refine WO_nil ?_; (repeat refine W_seq ?_)
            refine W_cond (ee) (fun hlt => W_skip ?_) (fun hge => W_exit ?_)
            · have hlt : x9 > 0 := by simpa using hlt
              rw [if_pos hlt] at hf
              repeat refine W_seq ?_
              refine W_block ?_
              (repeat refine W_seq ?_); refine W_region ?_
              (refine VO ?_)
              refine WO_nil ?_; (repeat refine W_seq ?_)
              refine W_region ?_
              (refine VO ?_)
              refine WO_nil ?_; (repeat refine W_seq ?_)
              refine W_cut (fun T h4 => h4 = h3 ∧ ∃ jj x11, jj < j + 1 ∧ 0 ≤ x11 ∧ x11 < (R.length : Int) ∧ x11 < (l.length : Int) ∧ Lf.arrasref1_Split.l2 jj (l.set x11.toNat (wrap64 (rd l x11 + 1))) (R.set x11.toNat (-1)) (wrap64 (x9 - 1)) = some r ∧ T.get 7 = some (.one (.sl q7 0 l.length l.length 1 false)) ∧ T.get 8 = some (.one (.sl q8 0 R.length x8.length 1 false)) ∧ T.get 9 = some (.one (.i .i64 x9)) ∧ T.get 11 = some (.one (.i .i64 x11))) ?_ ?_
              · refine W_block (W_rounds (fun jj T h4 => h4 = h3 ∧ jj ≤ j ∧ ∃ x11 x12, Lf.arrasref1_Split.l3 jj l R x9 x11 x12 = some r ∧ T.get 7 = some (.one (.sl q7 0 l.length l.length 1 false)) ∧ T.get 8 = some (.one (.sl q8 0 R.length x8.length 1 false)) ∧ T.get 9 = some (.one (.i .i64 x9)) ∧ T.get 11 = some (.one (.i .i64 x11)) ∧ T.get 12 = some (.one (.i .i64 x12))) ?_ j _ _ ⟨rfl, Nat.le_refl _, 0, 1, hf, gt t7, gt t8, gt t9, gs, gs⟩)
                clear hf t7 t8 t9
                rintro jj T h4 ⟨rfl, hjj, x11, x12, hf, t7, t8, t9, t11, t12⟩
                cases jj with
                | zero => cases hf
                | succ jj =>
                  simp only [Lf.arrasref1_Split.l3] at hf
                  (repeat refine W_seq ?_); refine W_region ?_
                  iterate 4 (first | (refine VX (by simp only [go_sem, ↓reduceIte, Nat.reduceEqDiff, Nat.reduceAdd, t8, t12]; rfl) ?_) | (refine VX (ex_len el23 (by simp only [go_sem, ↓reduceIte, Nat.reduceEqDiff, t8, t12]; rfl)) ?_) | (refine VX (ex_bin (by simp only [go_sem, ↓reduceIte, Nat.reduceEqDiff, t8, t12]; rfl) (by simp only [go_sem, ↓reduceIte, Nat.reduceEqDiff, t8, t12]; rfl) in_lss) ?_))
                  refine WO_nil ?_; (repeat refine W_seq ?_)
                  refine W_cond (ee) (fun hlt2 => W_skip ?_) (fun hge2 => W_exit ?_)
                  · have hlt2 : x12 < (R.length : Int) := by simpa using hlt2
                    rw [if_pos hlt2] at hf
                    obtain ⟨g1, hf⟩ := ite_some hf
                    obtain ⟨g2, hf⟩ := ite_some hf
                    obtain ⟨g3, hf⟩ := ite_some hf
                    have r1 : h4.row q8 x12.toNat 1 = some [.i .i64 (rd R x12)] := c8.at1 (nums_get (rd_at g1 hlt2))
                    have r2 : h4.row q8 x11.toNat 1 = some [.i .i64 (rd R x11)] := c8.at1 (nums_get (rd_at g2 g3))
                    repeat refine W_seq ?_
                    refine W_block ?_
                    repeat refine W_seq ?_
                    refine W_drawn dr18_19 (by kernel_rfl) o3.floor ?_
                    unfold dr18_19
                    iterate 9 (first | (refine IX rfl (by simp only [go_sem, ↓reduceIte, Nat.reduceEqDiff, Nat.reduceAdd, t8, t11, t12, IX23I g1 hlt2, IX23I g2 g3]; rfl) ?_) | (refine IX rfl (by simp (disch := first | omega | simp) only [go_sem, ↓reduceIte, Nat.reduceEqDiff, Nat.reduceAdd, t8, t11, t12, IX23I g1 hlt2, IX23I g2 g3]; rfl) ?_) | (refine IL rfl wantB_none (by simp only [go_sem, ↓reduceIte, Nat.reduceEqDiff, t8, t11, t12, IX23I g1 hlt2, IX23I g2 g3]; rfl) (by simp (disch := first | omega | simp) only [go_sem, ↓reduceIte, Nat.reduceEqDiff, Nat.reduceAdd, r1, r2, IX23I g1 hlt2, IX23I g2 g3]; rfl) ?_) | (refine IX rfl (ex_bin (by simp only [go_sem, ↓reduceIte, Nat.reduceEqDiff, t8, t11, t12, IX23I g1 hlt2, IX23I g2 g3]; rfl) (by simp only [go_sem, ↓reduceIte, Nat.reduceEqDiff, t8, t11, t12, IX23I g1 hlt2, IX23I g2 g3]; rfl) in_gtr) ?_))
                    refine WI_nil ?_; (repeat refine W_seq ?_)
                    refine W_cond (ee) (fun hc => ?_) (fun hc => W_skip ?_)
                    · have hc : rd R x12 > rd R x11 := by simpa using hc
                      rw [if_pos hc] at hf
                      (repeat refine W_seq ?_); refine W_region ?_
                      iterate 2 (refine VX (by simp only [go_sem, ↓reduceIte, Nat.reduceEqDiff, Nat.reduceAdd, t12]; rfl) ?_)
                      refine WO_nil ?_; (repeat refine W_seq ?_)
                      refine W_region ?_
                      iterate 3 (first | (refine VX (by simp only [go_sem, ↓reduceIte, Nat.reduceEqDiff, Nat.reduceAdd, t12]; rfl) ?_) | (refine VX (ex_bin (by simp only [go_sem, ↓reduceIte, Nat.reduceEqDiff, t12]; rfl) (by simp only [go_sem, ↓reduceIte, Nat.reduceEqDiff, t12]; rfl) in_add) ?_; (rw [IntWalk.i64_left])))
                      exact WO_nil ⟨jj, Nat.lt_succ_self _, rfl, by omega, _, _, hf, gt t7, gt t8, gt t9, gs, gs⟩
                    · have hc : ¬ rd R x12 > rd R x11 := by simpa using hc
                      rw [if_neg hc] at hf
                      refine W_region ?_
                      iterate 3 (first | (refine VX (by simp only [go_sem, ↓reduceIte, Nat.reduceEqDiff, Nat.reduceAdd, t12]; rfl) ?_) | (refine VX (ex_bin (by simp only [go_sem, ↓reduceIte, Nat.reduceEqDiff, t12]; rfl) (by simp only [go_sem, ↓reduceIte, Nat.reduceEqDiff, t12]; rfl) in_add) ?_; (rw [IntWalk.i64_left])))
                      exact WO_nil ⟨jj, Nat.lt_succ_self _, rfl, by omega, _, _, hf, gt t7, gt t8, gt t9, gt t11, gs⟩
                  · have hge2 : ¬ x12 < (R.length : Int) := by simpa using hge2
                    rw [if_neg hge2] at hf
                    obtain ⟨g1, hf⟩ := ite_some hf
                    obtain ⟨g2, hf⟩ := ite_some hf
                    obtain ⟨g3, hf⟩ := ite_some hf
                    exact ⟨fun _ => ⟨rfl, rfl, jj, x11, by omega, g1, g2, g3, hf, t7, t8, t9, t11⟩, fun hne => absurd rfl hne⟩
              clear hf t7 t8 t9
              rintro T h4 ⟨rfl, jj, x11, hjj, g1, g2, g3, hf, t7, t8, t9, t11⟩
              (repeat refine W_seq ?_); refine W_region ?_
              iterate 3 (first | (refine VX (by simp only [go_sem, ↓reduceIte, Nat.reduceEqDiff, Nat.reduceAdd, t8, t11, IX23I g1 g2]; rfl) ?_) | (refine VX (by simp (disch := first | omega | simp) only [go_sem, ↓reduceIte, Nat.reduceEqDiff, Nat.reduceAdd, t8, t11, IX23I g1 g2]; rfl) ?_))
              refine WO_store1 (ee) (ee) sz3 c8 m8 (by rw [nums_length]; omega) fun h5 p5 => ?_
              rw [nums_set (by omega)] at p5
              have c7b := p5.up.cells h78 c7
              have m7b : h5.may q7 = true := by rw [p5.up.may]; exact m7
              have e5 := p5.next
              have r3 : h5.row q7 x11.toNat 1 = some [.i .i64 (rd l x11)] := c7b.at1 (nums_get (rd_at g1 g3))
              refine WO_nil ?_; (repeat refine W_seq ?_)
              refine W_region ?_
              iterate 6 (first | (refine VX (by simp only [go_sem, ↓reduceIte, Nat.reduceEqDiff, Nat.reduceAdd, t7, t11, IX23I g1 g3]; rfl) ?_) | (refine VX (by simp (disch := first | omega | simp) only [go_sem, ↓reduceIte, Nat.reduceEqDiff, Nat.reduceAdd, t7, t11, IX23I g1 g3]; rfl) ?_) | (refine VX (by simp (disch := first | omega | simp) only [go_sem, ↓reduceIte, Nat.reduceEqDiff, Nat.reduceAdd, r3, IX23I g1 g3, t7, t11, IX23I g1 g3]; rfl) ?_) | (refine VX (ex_bin (by simp only [go_sem, ↓reduceIte, Nat.reduceEqDiff, t7, t11, IX23I g1 g3]; rfl) (by simp only [go_sem, ↓reduceIte, Nat.reduceEqDiff, t7, t11, IX23I g1 g3]; rfl) in_add) ?_; (rw [IntWalk.i64_left])))
              refine WO_store1 (ee) (ee) sz3 c7b m7b (by rw [nums_length]; omega) fun h6 p6 => ?_
              rw [nums_set (by omega)] at p6
              have c8b := p6.up.cells (Ne.symm h78) p5.cells
              have m8b : h6.may q8 = true := by rw [p6.up.may]; exact p5.may
              have e6 := p6.next
              refine WO_nil ?_; (repeat refine W_seq ?_)
              refine W_region ?_
              iterate 3 (first | (refine VX (by simp only [go_sem, ↓reduceIte, Nat.reduceEqDiff, Nat.reduceAdd, t9]; rfl) ?_) | (refine VX (ex_bin (by simp only [go_sem, ↓reduceIte, Nat.reduceEqDiff, t9]; rfl) (by simp only [go_sem, ↓reduceIte, Nat.reduceEqDiff, t9]; rfl) in_sub) ?_; (rw [IntWalk.i64_left])))
              refine WO_nil ⟨jj, hjj, _, _, _, hf, ?_, ?_, gs, by rw [List.length_set]; exact hlp, p6.cells, c8b, p6.may, m8b, (u3.trans (p5.up.mono fun b hb => by omega)).trans (p6.up.mono fun b hb => by omega), p6.ok (p5.ok o3), by omega⟩
              · rw [List.length_set]; simp only [go_sem, ↓reduceIte, Nat.reduceEqDiff, t7]
              · rw [List.length_set]; simp only [go_sem, ↓reduceIte, Nat.reduceEqDiff, t8]
            · have hge : ¬ x9 > 0 := by simpa using hge
              rw [if_neg hge] at hf
              cases hf
              refine ⟨fun _ => ?_, fun hne => absurd rfl hne⟩
              (repeat refine W_seq ?_); refine W_region ?_
              iterate 2 (refine VX (by simp only [go_sem, ↓reduceIte, Nat.reduceEqDiff, Nat.reduceAdd, t7]; rfl) ?_)
              exact WO_nil (W_ret ⟨.inr rfl, _, by (simp only [resultB, resB, parts, V.part, Sl.get_set', ↓reduceIte, Nat.reduceEqDiff] <;> rfl), _, rfl, grown_of c7 m7 lt7.1 (by omega) hlp, u3, o3⟩)
end Go.Ai
