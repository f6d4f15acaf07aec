/-
share.Parts, simulated.
-/
import Derived.Test.YtjjlmmebkemlgaaFxStable
import Derived.Test.YtjjlmmebkemlgaaFxPure
set_option linter.unusedVariables false
set_option linter.unusedSimpArgs false
namespace Go.Ai
open Go.Proofs

open Go.RowKit (wrap64)
open Lf (S66 rd_T66 z66 rd)
theorem IX23I {h : H} {b o len cap sz : Nat} {ex : Bool} {k : IntKind} {i : Int} (h0 : 0 ≤ i) (h1 : i < (len : Int)) : doIndexW Try.prog h 23 (some (.one (.sl b o len cap sz ex))) (some (.one (.i k i))) = some (.val (.one (.p b (o + i.toNat * 1))) h) := ix_sl el23 (j := i.toNat) (by omega) (by omega)
theorem rd_at {l : List Int} {i : Int} (h0 : 0 ≤ i) (h1 : i < (l.length : Int)) : l[i.toNat]? = some (rd l i) := by
  unfold rd
  rw [List.getD_eq_getElem?_getD, List.getElem?_eq_getElem (by omega)]; rfl
set_option maxHeartbeats 0 in
theorem wsum_fn {spec : CallF} (hs : SpecSort spec) {h : H} {q cp k : Nat} {ex : Bool} {ws : List Int} {r : Int} (hrow : ∀ k x, ws[k]? = some x → h.row q k 1 = some [.i .i64 x]) (hf : Lf.share_weight.f k ws = some r) :
    WF Try.prog spec 34 [.one (.sl q 0 ws.length cp 1 ex)] h fun v h1 => v = .one (.i .i64 r) ∧ h1 = h := by
  refine WF_of Try.func34 rfl (hs.s34 _ _) (by rw [Try.ntmps34]; simp) (by rw [Try.ntmps34]; decide) ?_
  rw [Try.ntmps34, Try.results34]
  simp only [Sl.setMany_cons, Sl.setMany_nil, Nat.zero_add, Nat.reduceAdd]
  unfold Lf.share_weight.f at hf
  (repeat refine W_seq ?_); refine W_region ?_
  (refine VO ?_)
  refine WO_nil ?_; (repeat refine W_seq ?_)
  refine W_scoped ?_
  repeat refine W_seq ?_
  (repeat refine W_seq ?_); refine W_region ?_
  (refine VO ?_)
  refine WO_nil ?_; (repeat refine W_seq ?_)
  refine W_region ?_
  (refine VO ?_)
  (refine VX (ex_len el23 (by simp only [go_sem, ↓reduceIte, Nat.reduceEqDiff]; rfl)) ?_)
  (refine VX (ex_bin ee ee in_gtr) ?_)
  refine WO_nil ?_; (repeat refine W_seq ?_)
  refine W_cond (ee) (fun hg => ?_) (fun hg => W_skip ?_)
  · have hg : (ws.length : Int) > 256 := by simpa using hg
    rw [if_pos hg] at hf
    cases hf
    (repeat refine W_seq ?_); refine W_region ?_
    (refine VO ?_)
    exact WO_nil (W_ret ⟨.inr rfl, _, by (simp only [resultB, resB, parts, V.part, Sl.get_set', ↓reduceIte, Nat.reduceEqDiff] <;> rfl), rfl, rfl⟩)
  · have hg : ¬ (ws.length : Int) > 256 := by simpa using hg
    rw [if_neg hg] at hf
    repeat refine W_seq ?_
    refine W_label ?_
    refine W_here (fun j T h1 => h1 = h ∧ ∃ x2 x3, Lf.share_weight.l0 j ws x2 x3 = some r ∧ T.get 0 = some (.one (.sl q 0 ws.length cp 1 ex)) ∧ T.get 2 = some (.one (.i .i64 x2)) ∧ T.get 3 = some (.one (.i .i64 x3))) ?_ k _ _ ⟨rfl, 0, 0, hf, gs, gs, gs⟩
    clear hf
    rintro j T h1 ih ⟨rfl, x2, x3, hf, t0, t2, t3⟩
    cases j with
    | zero => cases hf
    | succ j =>
      simp only [Lf.share_weight.l0] at hf
      (repeat refine W_seq ?_); refine W_region ?_
      iterate 2 (refine VX (by simp only [go_sem, ↓reduceIte, Nat.reduceEqDiff, Nat.reduceAdd, t0, t3]; rfl) ?_)
      (refine VX (ex_len el23 (by simp only [go_sem, ↓reduceIte, Nat.reduceEqDiff, t0, t3]; rfl)) ?_)
      (refine VX (ex_bin (by simp only [go_sem, ↓reduceIte, Nat.reduceEqDiff, t0, t3]; rfl) (by simp only [go_sem, ↓reduceIte, Nat.reduceEqDiff, t0, t3]; rfl) in_eql) ?_)
      refine WO_nil ?_; (repeat refine W_seq ?_)
      refine W_cond (ee) (fun he => ?_) (fun he => W_skip ?_)
      · have he : x3 = (ws.length : Int) := by simpa using he
        rw [if_pos he] at hf
        cases hf
        (repeat refine W_seq ?_); refine W_region ?_
        iterate 2 (refine VX (by simp only [go_sem, ↓reduceIte, Nat.reduceEqDiff, Nat.reduceAdd, t2]; rfl) ?_)
        exact WO_nil (W_ret ⟨.inr rfl, _, by (simp only [resultB, resB, parts, V.part, Sl.get_set', ↓reduceIte, Nat.reduceEqDiff] <;> rfl), rfl, rfl⟩)
      · have he : ¬ x3 = (ws.length : Int) := by simpa using he
        rw [if_neg he] at hf
        obtain ⟨g1, hf⟩ := ite_some hf
        obtain ⟨g2, hf⟩ := ite_some hf
        have r1 := hrow x3.toNat _ (rd_at g1 g2)
        (repeat refine W_seq ?_); refine W_region ?_
        by_cases c1 : rd ws x3 < 0
        · have c1' : decide (rd ws x3 < 0) = true := decide_eq_true c1
          rw [if_pos c1] at hf
          cases hf
          iterate 12 (first | (refine VX (by simp only [go_sem, ↓reduceIte, Nat.reduceEqDiff, Nat.reduceAdd, t0, t3, c1', IX23I g1 g2]; rfl) ?_) | (refine VX (by simp (disch := first | omega | simp) only [go_sem, ↓reduceIte, Nat.reduceEqDiff, Nat.reduceAdd, t0, t3, c1', IX23I g1 g2]; rfl) ?_) | (refine VX (by simp (disch := first | omega | simp) only [go_sem, ↓reduceIte, Nat.reduceEqDiff, Nat.reduceAdd, r1, IX23I g1 g2, t0, t3, c1', IX23I g1 g2]; rfl) ?_) | (refine VX (ex_bin (by simp only [go_sem, ↓reduceIte, Nat.reduceEqDiff, t0, t3, c1', IX23I g1 g2]; rfl) (by simp only [go_sem, ↓reduceIte, Nat.reduceEqDiff, t0, t3, c1', IX23I g1 g2]; rfl) in_lss) ?_) | (refine VN (wantB_no rfl rfl (by simp only [go_sem, ↓reduceIte, Nat.reduceEqDiff, t0, t3, c1', IX23I g1 g2]; rfl) rfl) ?_) | (refine VG (wantB_true rfl rfl (by simp only [go_sem, ↓reduceIte, Nat.reduceEqDiff, t0, t3, c1', IX23I g1 g2]; rfl) rfl) (by simp only [go_sem, ↓reduceIte, Nat.reduceEqDiff, Nat.reduceAdd, t0, t3, c1', IX23I g1 g2]; rfl) ?_) | (refine VG (wantB_true rfl rfl (by simp only [go_sem, ↓reduceIte, Nat.reduceEqDiff, t0, t3, c1', IX23I g1 g2]; rfl) rfl) (by simp (disch := first | omega | simp) only [go_sem, ↓reduceIte, Nat.reduceEqDiff, Nat.reduceAdd, t0, t3, c1', IX23I g1 g2]; rfl) ?_) | (refine VG (wantB_true rfl rfl (by simp only [go_sem, ↓reduceIte, Nat.reduceEqDiff, t0, t3, c1', IX23I g1 g2]; rfl) rfl) (by simp (disch := first | omega | simp) only [go_sem, ↓reduceIte, Nat.reduceEqDiff, Nat.reduceAdd, r1, IX23I g1 g2, t0, t3, c1', IX23I g1 g2]; rfl) ?_) | (refine VG (wantB_true rfl rfl (by simp only [go_sem, ↓reduceIte, Nat.reduceEqDiff, t0, t3, c1', IX23I g1 g2]; rfl) rfl) (ex_bin (by simp only [go_sem, ↓reduceIte, Nat.reduceEqDiff, t0, t3, c1', IX23I g1 g2]; rfl) (by simp only [go_sem, ↓reduceIte, Nat.reduceEqDiff, t0, t3, c1', IX23I g1 g2]; rfl) in_gtr) ?_))
          refine WO_nil ?_; (repeat refine W_seq ?_)
          refine W_cond (by (simp only [go_sem, ↓reduceIte, Nat.reduceEqDiff, c1'] <;> rfl)) (fun _ => ?_) (fun hc => by cases hc)
          (repeat refine W_seq ?_); refine W_region ?_
          (refine VO ?_)
          exact WO_nil (W_ret ⟨.inr rfl, _, by (simp only [resultB, resB, parts, V.part, Sl.get_set', ↓reduceIte, Nat.reduceEqDiff] <;> rfl), rfl, rfl⟩)
        · have c1' : decide (rd ws x3 < 0) = false := decide_eq_false c1
          rw [if_neg c1] at hf
          iterate 12 (first | (refine VX (by simp only [go_sem, ↓reduceIte, Nat.reduceEqDiff, Nat.reduceAdd, t0, t3, c1', IX23I g1 g2]; rfl) ?_) | (refine VX (by simp (disch := first | omega | simp) only [go_sem, ↓reduceIte, Nat.reduceEqDiff, Nat.reduceAdd, t0, t3, c1', IX23I g1 g2]; rfl) ?_) | (refine VX (by simp (disch := first | omega | simp) only [go_sem, ↓reduceIte, Nat.reduceEqDiff, Nat.reduceAdd, r1, IX23I g1 g2, t0, t3, c1', IX23I g1 g2]; rfl) ?_) | (refine VX (ex_bin (by simp only [go_sem, ↓reduceIte, Nat.reduceEqDiff, t0, t3, c1', IX23I g1 g2]; rfl) (by simp only [go_sem, ↓reduceIte, Nat.reduceEqDiff, t0, t3, c1', IX23I g1 g2]; rfl) in_lss) ?_) | (refine VN (wantB_no rfl rfl (by simp only [go_sem, ↓reduceIte, Nat.reduceEqDiff, t0, t3, c1', IX23I g1 g2]; rfl) rfl) ?_) | (refine VG (wantB_true rfl rfl (by simp only [go_sem, ↓reduceIte, Nat.reduceEqDiff, t0, t3, c1', IX23I g1 g2]; rfl) rfl) (by simp only [go_sem, ↓reduceIte, Nat.reduceEqDiff, Nat.reduceAdd, t0, t3, c1', IX23I g1 g2]; rfl) ?_) | (refine VG (wantB_true rfl rfl (by simp only [go_sem, ↓reduceIte, Nat.reduceEqDiff, t0, t3, c1', IX23I g1 g2]; rfl) rfl) (by simp (disch := first | omega | simp) only [go_sem, ↓reduceIte, Nat.reduceEqDiff, Nat.reduceAdd, t0, t3, c1', IX23I g1 g2]; rfl) ?_) | (refine VG (wantB_true rfl rfl (by simp only [go_sem, ↓reduceIte, Nat.reduceEqDiff, t0, t3, c1', IX23I g1 g2]; rfl) rfl) (by simp (disch := first | omega | simp) only [go_sem, ↓reduceIte, Nat.reduceEqDiff, Nat.reduceAdd, r1, IX23I g1 g2, t0, t3, c1', IX23I g1 g2]; rfl) ?_) | (refine VG (wantB_true rfl rfl (by simp only [go_sem, ↓reduceIte, Nat.reduceEqDiff, t0, t3, c1', IX23I g1 g2]; rfl) rfl) (ex_bin (by simp only [go_sem, ↓reduceIte, Nat.reduceEqDiff, t0, t3, c1', IX23I g1 g2]; rfl) (by simp only [go_sem, ↓reduceIte, Nat.reduceEqDiff, t0, t3, c1', IX23I g1 g2]; rfl) in_gtr) ?_))
          refine WO_nil ?_; (repeat refine W_seq ?_)
          refine W_cond (by (simp only [go_sem, ↓reduceIte, Nat.reduceEqDiff, c1'] <;> rfl)) (fun hc => ?_) (fun hc => W_skip ?_)
          · have hc : rd ws x3 > 1048576 := by simpa using hc
            rw [if_pos hc] at hf
            cases hf
            (repeat refine W_seq ?_); refine W_region ?_
            (refine VO ?_)
            exact WO_nil (W_ret ⟨.inr rfl, _, by (simp only [resultB, resB, parts, V.part, Sl.get_set', ↓reduceIte, Nat.reduceEqDiff] <;> rfl), rfl, rfl⟩)
          · have hc : ¬ rd ws x3 > 1048576 := by simpa using hc
            rw [if_neg hc] at hf
            (repeat refine W_seq ?_); refine W_region ?_
            iterate 7 (first | (refine VX (by simp only [go_sem, ↓reduceIte, Nat.reduceEqDiff, Nat.reduceAdd, t0, t2, t3, IX23I g1 g2]; rfl) ?_) | (refine VX (by simp (disch := first | omega | simp) only [go_sem, ↓reduceIte, Nat.reduceEqDiff, Nat.reduceAdd, t0, t2, t3, IX23I g1 g2]; rfl) ?_) | (refine VX (by simp (disch := first | omega | simp) only [go_sem, ↓reduceIte, Nat.reduceEqDiff, Nat.reduceAdd, r1, IX23I g1 g2, t0, t2, t3, IX23I g1 g2]; rfl) ?_) | (refine VX (ex_bin (by simp only [go_sem, ↓reduceIte, Nat.reduceEqDiff, t0, t2, t3, IX23I g1 g2]; rfl) (by simp only [go_sem, ↓reduceIte, Nat.reduceEqDiff, t0, t2, t3, IX23I g1 g2]; rfl) in_add) ?_; (rw [IntWalk.i64_left])))
            refine WO_nil ?_; (repeat refine W_seq ?_)
            refine W_region ?_
            iterate 3 (first | (refine VX (by simp only [go_sem, ↓reduceIte, Nat.reduceEqDiff, Nat.reduceAdd, t3]; rfl) ?_) | (refine VX (ex_bin (by simp only [go_sem, ↓reduceIte, Nat.reduceEqDiff, t3]; rfl) (by simp only [go_sem, ↓reduceIte, Nat.reduceEqDiff, t3]; rfl) in_add) ?_; (rw [IntWalk.i64_left])))
            refine WO_nil ?_; (repeat refine W_seq ?_)
            refine W_goto ?_; (repeat first | refine thenQ_goto ?_ | refine blockQ_goto ?_); refine scope_jump (by rfl) ?_; (repeat refine W_seq ?_)
            refine W_skip ?_
            exact ih j (Nat.lt_succ_self _) _ _ ⟨rfl, _, _, hf, gt t0, gs, gs⟩
theorem take_rd {Q : List S66} {m : Nat} {i : Int} (h0 : 0 ≤ i) (h1 : i < ((Q.take m).length : Int)) : rd_T66 (Q.take m) i = rd_T66 Q i := by
  have h2 := rd_T66_at h0 h1
  have h3 : i < (Q.length : Int) := by simp at h1; omega
  have h4 := rd_T66_at h0 h3
  rw [List.getElem?_take_of_lt (by simp at h1; omega), h4] at h2
  exact (Option.some.inj h2).symm
set_option maxRecDepth 100000 in
set_option maxHeartbeats 0 in
theorem parts_fn {spec : CallF} (hs : SpecSort spec) {h : H} {v : S} {t : Int} {ws r : List Int} {k : Nat} (ok : Ok h) (hi : IntsAt h v ws) (hne : ws ≠ []) (hlen : ws.length ≤ 64) (hf : Lf.share_Parts.f k t ws = some r) :
    WF Try.prog spec 35 [.one (.i .i64 t), .one v] h fun rv h1 => ∃ x, rv = .one x ∧ Grown h1 x h.next 3 1 (nums r) ∧ Up (· < h.next) h h1 ∧ Ok h1 := by
  obtain ⟨q0, cp, ex, rfl, hq0, hrow⟩ : ∃ b c ex, v = .sl b 0 ws.length c 1 ex ∧ b < h.next ∧ ∀ k x, ws[k]? = some x → h.row b k 1 = some [.i .i64 x] := by
    rcases hi with ⟨q, _⟩ | q
    · exact absurd q hne
    · exact q
  have hpos : 0 < ws.length := List.length_pos_iff.2 hne
  refine WF_of Try.func35 rfl (hs.s35 _ _) (by rw [Try.ntmps35]; simp) (by rw [Try.ntmps35]; decide) ?_
  rw [Try.ntmps35, Try.results35]
  simp only [Sl.setMany_cons, Sl.setMany_nil, Nat.zero_add, Nat.reduceAdd]
  obtain ⟨sm, hsm, hf⟩ := bind_some hf
  (repeat refine W_seq ?_); refine W_region ?_
  (refine VO ?_)
  refine WO_nil ?_; (repeat refine W_seq ?_)
  refine W_region ?_
  (refine VO ?_)
  refine WO_fn (ee) (by simp) (by decide) ((wsum_fn hs hrow hsm).mono ?_)
  rintro v h0 ⟨rfl, rfl⟩
  iterate 3 (refine VO ?_)
  refine WO_nil ?_; (repeat refine W_seq ?_)
  refine W_region ?_
  (refine VO ?_)
  refine WO_nil ?_; (repeat refine W_seq ?_)
  refine W_region ?_
  (refine VO ?_)
  refine WO_nil ?_; (repeat refine W_seq ?_)
  refine W_region ?_
  (refine VO ?_)
  (refine VX (ex_len el23 (by simp only [go_sem, ↓reduceIte, Nat.reduceEqDiff]; rfl)) ?_)
  (refine VO ?_)
  refine WO_nil ?_; (repeat refine W_seq ?_)
  refine W_block (W_rounds (fun j T h1 => ∃ x6 x7 x8 x19 v7 v8, Lf.share_Parts.l0 j t sm x6 x7 x8 ws (ws.length : Int) x19 = some r ∧ T.get 0 = some (.one (.i .i64 t)) ∧ T.get 5 = some (.one (.i .i64 sm)) ∧ T.get 6 = some (.one (.i .i64 x6)) ∧ T.get 7 = some (.one v7) ∧ T.get 8 = some (.one v8) ∧ T.get 17 = some (.one (.sl q0 0 ws.length cp 1 ex)) ∧ T.get 18 = some (.one (.i .i64 (ws.length : Int))) ∧ T.get 19 = some (.one (.i .i64 x19)) ∧ (x7.length : Int) = x19 ∧ (x8.length : Int) = x19 ∧ 0 ≤ x19 ∧ x19 ≤ (ws.length : Int) ∧ Grown h1 v7 h0.next 3 1 (nums x7) ∧ Grown h1 v8 h0.next 66 2 (c66 x8) ∧ (∀ b, S.blk v7 = some b → S.blk v8 ≠ some b) ∧ Up (· < h0.next) h0 h1 ∧ Ok h1) ?_ k _ _ ⟨t, [], [], 0, .sl0, .sl0, hf, gs, gs, gs, gs, gs, gs, gs, gs, rfl, rfl, by omega, by omega, .nil, .nil, (fun b hb => by cases hb), .refl _ _, ok⟩)
  clear hf
  rintro j T h1 ⟨x6, x7, x8, x19, v7, v8, hf, t0, t5, t6, t7, t8, t17, t18, t19, l7, l8, i0, i1, g7, g8, hd, u1, o1⟩
  cases j with
  | zero => cases hf
  | succ j =>
    simp only [Lf.share_Parts.l0] at hf
    have hn1 := u1.next
    (repeat refine W_seq ?_); refine W_region ?_
    (refine VX (ex_bin (by simp only [go_sem, ↓reduceIte, Nat.reduceEqDiff, t18, t19]; rfl) (by simp only [go_sem, ↓reduceIte, Nat.reduceEqDiff, t18, t19]; rfl) in_lss) ?_)
    refine WO_nil ?_; (repeat refine W_seq ?_)
    refine W_cond (ee) (fun hlt => W_skip ?_) (fun hge => W_exit ?_)
    · have hlt : x19 < (ws.length : Int) := by simpa using hlt
      rw [if_pos hlt] at hf
      obtain ⟨g1, hf⟩ := ite_some hf
      obtain ⟨g2, hf⟩ := ite_some hf
      have hs0 : sm ≠ 0 := by
        intro e
        rw [if_pos e] at hf; cases hf
      rw [if_neg hs0] at hf
      obtain ⟨y, hy, hf⟩ := bind_some hf
      cases hy
      obtain ⟨g3, hf⟩ := ite_some hf
      obtain ⟨y, hy, hf⟩ := bind_some hf
      cases hy
      obtain ⟨g4, hf⟩ := ite_some hf
      have hw1 : wrap64 (x19 + 1) = x19 + 1 := IntWalk.wrap64_in _ (by omega)
      have r1 : h1.row q0 x19.toNat 1 = some [.i .i64 (rd ws x19)] := by rw [u1.row hq0]; exact hrow _ _ (rd_at g1 g2)
      repeat refine W_seq ?_
      refine W_block ?_
      (repeat refine W_seq ?_); refine W_region ?_
      iterate 5 (first | (refine VX (by simp only [go_sem, ↓reduceIte, Nat.reduceEqDiff, Nat.reduceAdd, t17, t19, IX23I g1 g2]; rfl) ?_) | (refine VX (by simp (disch := first | omega | simp) only [go_sem, ↓reduceIte, Nat.reduceEqDiff, Nat.reduceAdd, t17, t19, IX23I g1 g2]; rfl) ?_) | (refine VX (by simp (disch := first | omega | simp) only [go_sem, ↓reduceIte, Nat.reduceEqDiff, Nat.reduceAdd, r1, IX23I g1 g2, t17, t19, IX23I g1 g2]; rfl) ?_))
      refine WO_nil ?_; (repeat refine W_seq ?_)
      refine W_region ?_
      iterate 4 (first | (refine VX (by simp only [go_sem, ↓reduceIte, Nat.reduceEqDiff, Nat.reduceAdd, t0]; rfl) ?_) | (refine VX (ex_bin (by simp only [go_sem, ↓reduceIte, Nat.reduceEqDiff, t0]; rfl) (by simp only [go_sem, ↓reduceIte, Nat.reduceEqDiff, t0]; rfl) in_mul) ?_; (rw [IntWalk.i64_left])))
      refine WO_nil ?_; (repeat refine W_seq ?_)
      generalize hP : wrap64 (t * rd ws x19) = pr at *
      refine W_drawn dr35_8 (by kernel_rfl) o1.floor ?_
      unfold dr35_8
      iterate 3 (refine IX rfl (by simp only [go_sem, ↓reduceIte, Nat.reduceEqDiff, Nat.reduceAdd, t5, t7]; rfl) ?_)
      (refine IX rfl (ex_quo (by simp only [go_sem, ↓reduceIte, Nat.reduceEqDiff, t5, t7]; rfl) (by simp only [go_sem, ↓reduceIte, Nat.reduceEqDiff, t5, t7]; rfl) (by first | decide | assumption)) ?_; (rw [IntWalk.i64_left]))
      refine WI_bs1 rfl el23 ⟨_, ze23⟩ (ee) o1 (by decide) fun h2 n2 => ?_
      have e2 := n2.next
      iterate 5 (first | (refine IX rfl (by simp only [go_sem, ↓reduceIte, Nat.reduceEqDiff, Nat.reduceAdd, t5, t8, t19]; rfl) ?_) | (refine IX rfl (ex_rem (by simp only [go_sem, ↓reduceIte, Nat.reduceEqDiff, t5, t8, t19]; rfl) (by simp only [go_sem, ↓reduceIte, Nat.reduceEqDiff, t5, t8, t19]; rfl) (by first | decide | assumption)) ?_))
      refine WI_val rfl wantB_none rfl (by rw [ex_build]; exact bd_of (by kernel_rfl : placesOf Try.prog 66 = some [(0, 1), (1, 1)]) zb66 (by simp only [evParts, go_sem, ↓reduceIte, Nat.reduceEqDiff, t19]; rfl) rfl) (by decide) ?_
      refine WI_bsA rfl el64 ze64 rfl (by decide) (by decide) (ee) rfl n2.ok (by decide) fun h3 n3 => ?_
      have e3 := n3.next
      have c2 := n3.up.cells (show h1.next < h2.next by omega) n2.cells
      have c3 := n3.cells
      have g7a := (g7.up n2.up fun q hq => (g7.lt hq).2).up n3.up fun q hq => by have := (g7.lt hq).2; omega
      have g8a := (g8.up n2.up fun q hq => (g8.lt hq).2).up n3.up fun q hq => by have := (g8.lt hq).2; omega
      have o3 := n3.ok
      have n7 : (nums x7).length = x7.length * 1 := by rw [nums_length, Nat.mul_one]
      refine WI_app (n0 := h0.next) rfl ap23_23 (by (simp only [go_sem, ↓reduceIte, Nat.reduceEqDiff, t7] <;> rfl)) (ee) c2 (by (try simp only [cond_true, cond_false]); repeat (first | exact Off.nil | refine Off.seen rfl ?_ | refine Off.off (by omega) ?_)) rfl g7a (fun b hb => by
        have := g7.lt hb
        refine ⟨(by (try simp only [cond_true, cond_false]); repeat (first | exact Off.nil | refine Off.seen rfl ?_ | refine Off.off (by omega) ?_)), (by (try simp only [cond_true, cond_false]); repeat (first | exact Off.nil | refine Off.seen rfl ?_ | refine Off.off (by omega) ?_)), ?_⟩
        show h3.floor ≤ b
        have q1 := u1.floor; have q2 := n2.up.floor; have q3 := n3.up.floor; have q4 := ok.floor
        omega) o3 (o3.fenced (fun b hb => (by (try simp only [cond_true, cond_false]); repeat (first | exact Off.nil | refine Off.seen rfl ?_ | refine Off.off (by omega) ?_))) (fun b hb => by have := g7; (try simp only [cond_true, cond_false]); repeat (first | exact Off.nil | refine Off.seen rfl ?_ | refine Off.off (by omega) ?_)) o3.floor) (by omega) n7 (by omega) (by omega) (by decide) fun v7b h4 g4 => ?_
      have e4 := g4.next
      have g8b := g8a.up g4.up fun q hq => ⟨by have := (g8a.lt hq).2; omega, fun e => hd _ e hq⟩
      have c3b := g4.up.cells ⟨show h2.next < h3.next by omega, fun e => by have := (g7.lt e).2; omega⟩ c3
      have o4 := g4.ok
      have n8 : (c66 x8).length = x8.length * 2 := by rw [c66_length]; omega
      have hgr7 := g4.grown
      refine WI_app (n0 := h0.next) rfl ap64_64 (by (simp only [go_sem, ↓reduceIte, Nat.reduceEqDiff, t8] <;> rfl)) (ee) c3b (by (try simp only [cond_true, cond_false]); repeat (first | exact Off.nil | refine Off.seen rfl ?_ | refine Off.off (by omega) ?_)) rfl g8b (fun b hb => by
        have := g8.lt hb
        refine ⟨(by (try simp only [cond_true, cond_false]); repeat (first | exact Off.nil | refine Off.seen rfl ?_ | refine Off.off (by omega) ?_)), (by (try simp only [cond_true, cond_false]); repeat (first | exact Off.nil | refine Off.seen rfl ?_ | refine Off.off (by omega) ?_)), ?_⟩
        show h4.floor ≤ b
        have q1 := u1.floor; have q2 := n2.up.floor; have q3 := n3.up.floor; have q4 := ok.floor; have q5 := g4.up.floor
        omega) o4 (o4.fenced (fun b hb => (by (try simp only [cond_true, cond_false]); repeat (first | exact Off.nil | refine Off.seen rfl ?_ | refine Off.off (by omega) ?_))) (fun b hb => (by (try simp only [cond_true, cond_false]); repeat (first | exact Off.nil | refine Off.seen rfl ?_ | refine Off.off (by omega) ?_))) o4.floor) (by omega) n8 (by omega) (by omega) (by decide) fun v8b h5 g5 => ?_
      have e5 := g5.next
      have hb7 := g4.blk
      have hb8 := g5.blk
      have g7c := hgr7.up g5.up fun q hq => by
        rw [hb7] at hq; cases hq
        exact ⟨by omega, fun e => by have := (g8.lt e).2; omega⟩
      have u5 : Up (· < h0.next) h0 h5 := (((u1.trans (n2.up.mono fun b hb => by omega)).trans (n3.up.mono fun b hb => by omega)).trans (g4.below g7a (by omega))).trans (g5.below g8b (by omega))
      iterate 2 (refine IOp rfl ?_)
      refine WI_nil ?_; (repeat refine W_seq ?_)
      refine W_region ?_
      iterate 6 (first | (refine VX (by simp only [go_sem, ↓reduceIte, Nat.reduceEqDiff, Nat.reduceAdd, t5, t6]; rfl) ?_) | (refine VX (ex_quo (by simp only [go_sem, ↓reduceIte, Nat.reduceEqDiff, t5, t6]; rfl) (by simp only [go_sem, ↓reduceIte, Nat.reduceEqDiff, t5, t6]; rfl) (by first | decide | assumption)) ?_; (rw [IntWalk.i64_left])) | (refine VX (ex_bin (by simp only [go_sem, ↓reduceIte, Nat.reduceEqDiff, t5, t6]; rfl) (by simp only [go_sem, ↓reduceIte, Nat.reduceEqDiff, t5, t6]; rfl) in_sub) ?_; (rw [IntWalk.i64_left])))
      refine WO_nil ?_; (repeat refine W_seq ?_)
      refine W_region ?_
      (refine VX (ex_bin (by simp only [go_sem, ↓reduceIte, Nat.reduceEqDiff, t19]; rfl) (by simp only [go_sem, ↓reduceIte, Nat.reduceEqDiff, t19]; rfl) in_add) ?_; (rw [IntWalk.i64_left]))
      (refine VX (by simp only [go_sem, ↓reduceIte, Nat.reduceEqDiff, Nat.reduceAdd, t19]; rfl) ?_)
      refine WO_nil ⟨j, Nat.lt_succ_self _, _, _, _, _, v7b, v8b, hf, gt t0, gt t5, gs, gs, gs, gt t17, gt t18, gs, ?_, ?_, by omega, by omega, g7c.same (by rw [nums_append]; rfl), g5.grown.same (by rw [c66_append]; rfl), fun b hb e => ?_, u5, g5.ok⟩
      · rw [hw1, List.length_append]; simp; omega
      · rw [hw1, List.length_append]; simp; omega
      · rw [hb7] at hb; rw [hb8] at e; have q1 := Option.some.inj hb; have q2 := Option.some.inj e; omega
    · have hge : ¬ x19 < (ws.length : Int) := by simpa using hge
      rw [if_neg hge] at hf
      obtain ⟨Q, hQ, hf⟩ := bind_some hf
      obtain ⟨g1, hf⟩ := ite_some hf
      obtain ⟨g2, hf⟩ := ite_some hf
      obtain ⟨y, hy, hf⟩ := bind_some hf
      cases hy
      obtain ⟨q7, rfl, c7, lt7, m7⟩ : ∃ q7, v7 = .sl q7 0 x7.length x7.length 1 false ∧ Cells h1 q7 3 (nums x7) ∧ (h0.next ≤ q7 ∧ q7 < h1.next) ∧ h1.may q7 = true := by
        rcases g7 with ⟨q, _⟩ | ⟨q, n, rfl, p1, p2, p3, p4, p5, p6⟩
        · have := congrArg List.length q; rw [nums_length, List.length_nil] at this; omega
        · have : n = x7.length := by rw [nums_length] at p2; omega
          subst this; exact ⟨q, rfl, p3, ⟨p5, p6⟩, p4⟩
      obtain ⟨q8, rfl, c8, lt8, m8⟩ : ∃ q8, v8 = .sl q8 0 x8.length x8.length 2 false ∧ Cells h1 q8 66 (c66 x8) ∧ (h0.next ≤ q8 ∧ q8 < h1.next) ∧ h1.may q8 = true := by
        rcases g8 with ⟨q, _⟩ | ⟨q, n, rfl, p1, p2, p3, p4, p5, p6⟩
        · have := congrArg List.length q; rw [c66_length, List.length_nil] at this; omega
        · have : n = x8.length := by rw [c66_length] at p2; omega
          subst this; exact ⟨q, rfl, p3, ⟨p5, p6⟩, p4⟩
      have h78 : q7 ≠ q8 := fun e => hd q7 rfl (by rw [e]; rfl)
      refine ⟨fun _ => ?_, fun hne => absurd rfl hne⟩
      repeat refine W_seq ?_
      (repeat refine W_seq ?_); refine W_region ?_
      (refine VX (by simp only [go_sem, ↓reduceIte, Nat.reduceEqDiff, Nat.reduceAdd, t8]; rfl) ?_)
      refine WO_fn (ee) (by simp) (by decide) ((sort_fn hs o1 (⟨c8, m8, lt8.2⟩ : Rs h1 q8 x8) rfl hQ).mono ?_)
      rintro v h2 ⟨rfl, dq⟩
      have o2 := dq.ok
      have hn2 := dq.up.next
      have c7b := dq.up.cells ⟨lt7.2, h78⟩ c7
      have m7b : h2.may q7 = true := by rw [dq.up.may]; exact m7
      skip
      refine WO_nil ?_; (repeat refine W_seq ?_)
      refine W_region ?_
      iterate 2 (refine VX (by simp only [go_sem, ↓reduceIte, Nat.reduceEqDiff, Nat.reduceAdd, t6, t8]; rfl) ?_)
      refine WO_val (sl_to el64 (by (simp only [go_sem, ↓reduceIte, Nat.reduceEqDiff, t8] <;> rfl)) (by (simp only [go_sem, ↓reduceIte, Nat.reduceEqDiff, t6] <;> rfl)) g1 (by omega)) (by decide) ?_
      have hyl : (Q.take x6.toNat).length = x6.toNat := by rw [List.length_take, dq.len]; omega
      (refine VX (ex_len el64 (by simp only [go_sem, ↓reduceIte, Nat.reduceEqDiff]; rfl)) ?_)
      (refine VO ?_)
      refine WO_nil ?_; (repeat refine W_seq ?_)
      generalize hY : Q.take x6.toNat = Y at *
      rw [← hyl]
      refine W_block (W_rounds (fun j T h3 => ∃ l' x53, Lf.share_Parts.l1 j l' Y (Y.length : Int) x53 = some r ∧ T.get 7 = some (.one (.sl q7 0 x7.length x7.length 1 false)) ∧ T.get 51 = some (.one (.sl q8 0 Y.length x8.length 2 false)) ∧ T.get 52 = some (.one (.i .i64 (Y.length : Int))) ∧ T.get 53 = some (.one (.i .i64 x53)) ∧ l'.length = x7.length ∧ Cells h3 q7 3 (nums l') ∧ h3.may q7 = true ∧ Up (fun b => b < h2.next ∧ b ≠ q7) h2 h3 ∧ Ok h3) ?_ j _ _ ⟨x7, 0, hf, gt t7, gs, gs, gs, rfl, c7b, m7b, .refl _ _, o2⟩)
      have u02 : Up (· < h0.next) h0 h2 := u1.trans (dq.up.mono fun b hb => by omega)
      clear hf t0 t5 t6 t7 t8 t17 t18 t19 g7 g8 hd
      rintro j T h3 ⟨l', x53, hf, t7, t51, t52, t53, ll, cl, ml, u3, o3⟩
      cases j with
      | zero => cases hf
      | succ j =>
        simp only [Lf.share_Parts.l1] at hf
        have hn3 := u3.next
        (repeat refine W_seq ?_); refine W_region ?_
        (refine VX (ex_bin (by simp only [go_sem, ↓reduceIte, Nat.reduceEqDiff, t52, t53]; rfl) (by simp only [go_sem, ↓reduceIte, Nat.reduceEqDiff, t52, t53]; rfl) in_lss) ?_)
        refine WO_nil ?_; (repeat refine W_seq ?_)
        refine W_cond (ee) (fun hlt => W_skip ?_) (fun hge => W_exit ?_)
        · have hlt : x53 < (Y.length : Int) := by simpa using hlt
          rw [if_pos hlt] at hf
          obtain ⟨k1, hf⟩ := ite_some hf
          obtain ⟨k2, hf⟩ := ite_some hf
          obtain ⟨k3, hf⟩ := ite_some hf
          obtain ⟨k4, hf⟩ := ite_some hf
          have hrq : rd_T66 Q x53 = rd_T66 Y x53 := by rw [← hY]; exact (take_rd k1 (by rw [hY]; exact k2)).symm
          have hYQ : (Y.length : Int) ≤ (Q.length : Int) := by rw [← hY, List.length_take]; omega
          have r1 := c66_row (u3.cells ⟨by have := dq.rs.lt; omega, Ne.symm h78⟩ dq.rs.c) k1 (by omega)
          rw [hrq] at r1
          repeat refine W_seq ?_
          refine W_block ?_
          (repeat refine W_seq ?_); refine W_region ?_
          (refine VX (by simp (disch := first | omega | simp) only [go_sem, ↓reduceIte, Nat.reduceEqDiff, Nat.reduceAdd, t51, t53, IX64I k1 k2]; rfl) ?_)
          (refine VX (by simp (disch := first | omega | simp) only [go_sem, ↓reduceIte, Nat.reduceEqDiff, Nat.reduceAdd, r1, IX64I k1 k2, t51, t53, IX64I k1 k2]; rfl) ?_)
          refine WO_alloc zb66 rfl o3 (by decide) fun h4 n4 => ?_
          refine WO_storeA (ee) (ee) sz66 rfl (by simp) n4.cells n4.may (by simp [V.cells]) fun h5 p5 => ?_
          have c5 := p5.cells
          simp only [V.cells, List.take_zero, List.nil_append, List.length_cons, List.length_nil, Nat.reduceAdd, Nat.zero_add, List.drop_succ_cons, List.drop_zero, List.append_nil] at c5
          have e4 := n4.next
          have e5 := p5.next
          have u5 : Up (· < h3.next) h3 h5 := n4.up.trans (p5.up.mono fun b hb => by omega)
          have cl5 := u5.cells (show q7 < h3.next by omega) cl
          have ml5 : h5.may q7 = true := by rw [u5.may]; exact ml
          have o5 := p5.ok n4.ok
          have r2 : h5.row q7 ((rd_T66 Y x53).f1).toNat 1 = some [.i .i64 (rd l' (rd_T66 Y x53).f1)] := cl5.at1 (nums_get (rd_at k3 k4))
          rw [ll] at k4
          generalize hw : (rd_T66 Y x53).f1 = w at *
          refine WO_nil ?_; (repeat refine W_seq ?_)
          refine W_region ?_
          iterate 7 (first | (refine VX (by simp only [go_sem, ↓reduceIte, Nat.reduceEqDiff, Nat.reduceAdd, t7, IX23I k3 k4]; rfl) ?_) | (refine VX (by simp (disch := first | omega | simp) only [go_sem, ↓reduceIte, Nat.reduceEqDiff, Nat.reduceAdd, c5.row, r2, IX23I k3 k4, t7, IX23I k3 k4]; rfl) ?_) | (refine VX (by simp (disch := first | omega | simp) only [go_sem, ↓reduceIte, Nat.reduceEqDiff, Nat.reduceAdd, t7, IX23I k3 k4]; rfl) ?_) | (refine VX (ex_bin (by simp only [go_sem, ↓reduceIte, Nat.reduceEqDiff, t7, IX23I k3 k4]; rfl) (by simp only [go_sem, ↓reduceIte, Nat.reduceEqDiff, t7, IX23I k3 k4]; rfl) in_add) ?_; (rw [IntWalk.i64_left])))
          refine WO_store1 (ee) (ee) sz3 cl5 ml5 (by rw [nums_length]; omega) fun h6 p6 => ?_
          rw [nums_set (by omega)] at p6
          refine WO_nil ?_; (repeat refine W_seq ?_)
          refine W_region ?_
          (refine VX (ex_bin (by simp only [go_sem, ↓reduceIte, Nat.reduceEqDiff, t53]; rfl) (by simp only [go_sem, ↓reduceIte, Nat.reduceEqDiff, t53]; rfl) in_add) ?_; (rw [IntWalk.i64_left]))
          (refine VX (by simp only [go_sem, ↓reduceIte, Nat.reduceEqDiff, Nat.reduceAdd, t53]; rfl) ?_)
          exact WO_nil ⟨j, Nat.lt_succ_self _, _, _, hf, gt t7, gt t51, gt t52, gs, by rw [List.length_set]; exact ll, p6.cells, p6.may, (u3.trans (u5.mono fun b hb => by omega)).trans (p6.up.mono fun b hb => hb.2), p6.ok o5⟩
        · have hge : ¬ x53 < (Y.length : Int) := by simpa using hge
          rw [if_neg hge] at hf
          cases hf
          refine ⟨fun _ => ?_, fun hne => absurd rfl hne⟩
          (repeat refine W_seq ?_); refine W_region ?_
          iterate 2 (refine VX (by simp only [go_sem, ↓reduceIte, Nat.reduceEqDiff, Nat.reduceAdd, t7]; rfl) ?_)
          exact WO_nil (W_ret ⟨.inr rfl, _, by (simp only [resultB, resB, parts, V.part, Sl.get_set', ↓reduceIte, Nat.reduceEqDiff] <;> rfl), _, rfl, .inr ⟨q7, x7.length, rfl, by omega, by rw [nums_length]; omega, cl, ml, lt7.1, by omega⟩, u02.trans (u3.mono fun b hb => by omega), o3⟩)
end Go.Ai
