/-
stableCmpFunc, SortStableFunc, simulated.
-/
import Derived.Test.YtjjlmmebkemlgaaFxMerge
set_option linter.unusedVariables false
set_option linter.unusedSimpArgs false
namespace Go.Ai
open Go.Proofs

open Go.RowKit (wrap64)
open Lf (S66 rd_T66 z66)
theorem insert_n {spec : CallF} (hs : SpecSort spec) {h : H} {q cp n : Nat} {ex : Bool} {l r : List S66} {a b : Int} {k : Nat} {u : Unit} (ok : Ok h) (hr : Rs h q l) (hl : l.length = n) (hf : Lf.share_rest_63.f k l a b u = some r) :
    WF Try.prog spec 63 [.one (.sl q 0 n cp 2 ex), .one (.i .i64 a), .one (.i .i64 b), .one (.fn0 48)] h fun v h1 => v = .tup [] ∧ Done h h1 q n r := by subst hl; exact insert_fn hs ok hr hf
set_option maxRecDepth 100000 in
set_option maxHeartbeats 0 in
theorem stable_fn {spec : CallF} (hs : SpecSort spec) {h : H} {q cp n : Nat} {ex : Bool} {l r : List S66} {k : Nat} {u : Unit} (ok : Ok h) (hr : Rs h q l) (hl0 : l.length = n) (hf : Lf.share_rest_56.f k l (n : Int) u = some r) :
    WF Try.prog spec 56 [.one (.sl q 0 n cp 2 ex), .one (.i .i64 (n : Int)), .one (.fn0 48)] h fun v h1 => v = .tup [] ∧ Done h h1 q n r := by
  refine WF_of Try.func56 rfl (hs.s56 _ _) (by rw [Try.ntmps56]; simp) (by rw [Try.ntmps56]; decide) ?_
  rw [Try.ntmps56, Try.results56]
  simp only [Sl.setMany_cons, Sl.setMany_nil, Nat.zero_add, Nat.reduceAdd]
  have dn : Done h h q n l := by subst hl0; exact .refl hr ok
  unfold Lf.share_rest_56.f at hf
  (repeat refine W_seq ?_); refine W_region ?_
  (refine VO ?_)
  refine WO_nil ?_; (repeat refine W_seq ?_)
  refine W_region ?_
  iterate 3 (refine VO ?_)
  refine WO_nil ?_; (repeat refine W_seq ?_)
  refine W_block (W_rounds (fun j T h1 => ∃ l' x7 x8, Lf.share_rest_56.l0 j l' (n : Int) u 20 x7 x8 = some r ∧ T.get 0 = some (.one (.sl q 0 n cp 2 ex)) ∧ T.get 1 = some (.one (.i .i64 (n : Int))) ∧ T.get 2 = some (.one (.fn0 48)) ∧ T.get 6 = some (.one (.i .i64 20)) ∧ T.get 7 = some (.one (.i .i64 x7)) ∧ T.get 8 = some (.one (.i .i64 x8)) ∧ Done h h1 q n l') ?_ k _ _ ⟨_, _, _, hf, gs, gs, gs, gs, gs, gs, dn⟩)
  clear dn hf
  rintro j T h1 ⟨l', x7, x8, hf, t0, t1, t2, t6, t7, t8, dn⟩
  cases j with
  | zero => cases hf
  | succ j =>
    simp only [Lf.share_rest_56.l0] at hf
    have rs1 := dn.rs
    have o1 := dn.ok
    have hl := dn.len
    (repeat refine W_seq ?_); refine W_region ?_
    iterate 2 (refine VX (by simp only [go_sem, ↓reduceIte, Nat.reduceEqDiff, Nat.reduceAdd, t1, t8]; rfl) ?_)
    (refine VX (ex_bin (by simp only [go_sem, ↓reduceIte, Nat.reduceEqDiff, t1, t8]; rfl) (by simp only [go_sem, ↓reduceIte, Nat.reduceEqDiff, t1, t8]; rfl) in_leq) ?_)
    refine WO_nil ?_; (repeat refine W_seq ?_)
    refine W_cond (ee) (fun hlt => W_skip ?_) (fun hge => W_exit ?_)
    · have hlt : x8 ≤ (n : Int) := by simpa using hlt
      rw [if_pos hlt] at hf
      obtain ⟨y, hy, hf⟩ := bind_some hf
      repeat refine W_seq ?_
      refine W_block ?_
      (repeat refine W_seq ?_); refine W_region ?_
      iterate 4 (refine VX (by simp only [go_sem, ↓reduceIte, Nat.reduceEqDiff, Nat.reduceAdd, t0, t2, t7, t8]; rfl) ?_)
      refine WO_fn (ee) (by simp) (by decide) ((insert_n hs o1 rs1 hl hy).mono ?_)
      rintro v h2 ⟨rfl, d2⟩
      skip
      refine WO_nil ?_; (repeat refine W_seq ?_)
      refine W_region ?_
      iterate 2 (refine VX (by simp only [go_sem, ↓reduceIte, Nat.reduceEqDiff, Nat.reduceAdd, t8]; rfl) ?_)
      refine WO_nil ?_; (repeat refine W_seq ?_)
      refine W_region ?_
      iterate 4 (first | (refine VX (by simp only [go_sem, ↓reduceIte, Nat.reduceEqDiff, Nat.reduceAdd, t6, t8]; rfl) ?_) | (refine VX (ex_bin (by simp only [go_sem, ↓reduceIte, Nat.reduceEqDiff, t6, t8]; rfl) (by simp only [go_sem, ↓reduceIte, Nat.reduceEqDiff, t6, t8]; rfl) in_add) ?_; (rw [IntWalk.i64_left])))
      exact WO_nil ⟨j, Nat.lt_succ_self _, y, _, _, hf, gt t0, gt t1, gt t2, gt t6, gs, gs, dn.trans d2⟩
    · have hge : ¬ x8 ≤ (n : Int) := by simpa using hge
      rw [if_neg hge] at hf
      obtain ⟨y, hy, hf⟩ := bind_some hf
      refine ⟨fun _ => ?_, fun hne => absurd rfl hne⟩
      (repeat refine W_seq ?_); refine W_region ?_
      iterate 4 (refine VX (by simp only [go_sem, ↓reduceIte, Nat.reduceEqDiff, Nat.reduceAdd, t0, t1, t2, t7]; rfl) ?_)
      refine WO_fn (ee) (by simp) (by decide) ((insert_n hs o1 rs1 hl hy).mono ?_)
      rintro v h2 ⟨rfl, d2⟩
      skip
      refine WO_nil ?_
      have d3 := dn.trans d2
      refine W_block (W_rounds (fun j T h1 => ∃ l' x6, Lf.share_rest_56.l1 j l' (n : Int) u x6 = some r ∧ T.get 0 = some (.one (.sl q 0 n cp 2 ex)) ∧ T.get 1 = some (.one (.i .i64 (n : Int))) ∧ T.get 2 = some (.one (.fn0 48)) ∧ T.get 6 = some (.one (.i .i64 x6)) ∧ Done h h1 q n l') ?_ j _ _ ⟨_, _, hf, gt t0, gt t1, gt t2, gt t6, d3⟩)
      clear dn hf t0 t1 t2 t6 t7 t8 rs1 o1 hl d2 d3 hy
      rintro j T h1 ⟨l', x6, hf, t0, t1, t2, t6, dn⟩
      cases j with
      | zero => cases hf
      | succ j =>
        simp only [Lf.share_rest_56.l1] at hf
        (repeat refine W_seq ?_); refine W_region ?_
        iterate 2 (refine VX (by simp only [go_sem, ↓reduceIte, Nat.reduceEqDiff, Nat.reduceAdd, t1, t6]; rfl) ?_)
        (refine VX (ex_bin (by simp only [go_sem, ↓reduceIte, Nat.reduceEqDiff, t1, t6]; rfl) (by simp only [go_sem, ↓reduceIte, Nat.reduceEqDiff, t1, t6]; rfl) in_lss) ?_)
        refine WO_nil ?_; (repeat refine W_seq ?_)
        refine W_cond (ee) (fun hlt => W_skip ?_) (fun hge => W_exit ?_)
        · have hlt : x6 < (n : Int) := by simpa using hlt
          rw [if_pos hlt] at hf
          repeat refine W_seq ?_
          refine W_block ?_
          (repeat refine W_seq ?_); refine W_region ?_
          iterate 4 (first | (refine VX (by simp only [go_sem, ↓reduceIte, Nat.reduceEqDiff, Nat.reduceAdd, t6]; rfl) ?_) | (refine VX (ex_bin (by simp only [go_sem, ↓reduceIte, Nat.reduceEqDiff, t6]; rfl) (by simp only [go_sem, ↓reduceIte, Nat.reduceEqDiff, t6]; rfl) in_mul) ?_; (rw [IntWalk.i64_left])))
          refine WO_nil ?_; (repeat refine W_seq ?_)
          refine W_block (W_rounds (fun i T h1 => i ≤ j ∧ ∃ l' x7 x8, Lf.share_rest_56.l2 i l' (n : Int) u x6 x7 x8 = some r ∧ T.get 0 = some (.one (.sl q 0 n cp 2 ex)) ∧ T.get 1 = some (.one (.i .i64 (n : Int))) ∧ T.get 2 = some (.one (.fn0 48)) ∧ T.get 6 = some (.one (.i .i64 x6)) ∧ T.get 7 = some (.one (.i .i64 x7)) ∧ T.get 8 = some (.one (.i .i64 x8)) ∧ Done h h1 q n l') ?_ j _ _ ⟨Nat.le_refl _, _, _, _, hf, gt t0, gt t1, gt t2, gt t6, gs, gs, dn⟩)
          clear dn hf t0 t1 t2 t6
          rintro i T h1 ⟨hij, l', x7, x8, hf, t0, t1, t2, t6, t7, t8, dn⟩
          cases i with
          | zero => cases hf
          | succ i =>
            simp only [Lf.share_rest_56.l2] at hf
            have rs1 := dn.rs
            have o1 := dn.ok
            have hl := dn.len
            (repeat refine W_seq ?_); refine W_region ?_
            iterate 2 (refine VX (by simp only [go_sem, ↓reduceIte, Nat.reduceEqDiff, Nat.reduceAdd, t1, t8]; rfl) ?_)
            (refine VX (ex_bin (by simp only [go_sem, ↓reduceIte, Nat.reduceEqDiff, t1, t8]; rfl) (by simp only [go_sem, ↓reduceIte, Nat.reduceEqDiff, t1, t8]; rfl) in_leq) ?_)
            refine WO_nil ?_; (repeat refine W_seq ?_)
            refine W_cond (ee) (fun hlt => W_skip ?_) (fun hge => W_exit ?_)
            · have hlt : x8 ≤ (n : Int) := by simpa using hlt
              rw [if_pos hlt] at hf
              obtain ⟨y, hy, hf⟩ := bind_some hf
              repeat refine W_seq ?_
              refine W_block ?_
              (repeat refine W_seq ?_); refine W_region ?_
              iterate 7 (first | (refine VX (by simp only [go_sem, ↓reduceIte, Nat.reduceEqDiff, Nat.reduceAdd, t0, t2, t6, t7, t8]; rfl) ?_) | (refine VX (ex_bin (by simp only [go_sem, ↓reduceIte, Nat.reduceEqDiff, t0, t2, t6, t7, t8]; rfl) (by simp only [go_sem, ↓reduceIte, Nat.reduceEqDiff, t0, t2, t6, t7, t8]; rfl) in_add) ?_; (rw [IntWalk.i64_left])))
              refine WO_fn (ee) (by simp) (by decide) ((merge_fn hs i _ q cp n ex l' y _ _ _ u o1 rs1 hl hy).mono ?_)
              rintro v h2 ⟨rfl, d2⟩
              skip
              refine WO_nil ?_; (repeat refine W_seq ?_)
              refine W_region ?_
              iterate 2 (refine VX (by simp only [go_sem, ↓reduceIte, Nat.reduceEqDiff, Nat.reduceAdd, t8]; rfl) ?_)
              refine WO_nil ?_; (repeat refine W_seq ?_)
              refine W_region ?_
              iterate 5 (first | (refine VX (by simp only [go_sem, ↓reduceIte, Nat.reduceEqDiff, Nat.reduceAdd, t6, t8]; rfl) ?_) | (refine VX (ex_bin (by simp only [go_sem, ↓reduceIte, Nat.reduceEqDiff, t6, t8]; rfl) (by simp only [go_sem, ↓reduceIte, Nat.reduceEqDiff, t6, t8]; rfl) in_mul) ?_; (rw [IntWalk.i64_left])) | (refine VX (ex_bin (by simp only [go_sem, ↓reduceIte, Nat.reduceEqDiff, t6, t8]; rfl) (by simp only [go_sem, ↓reduceIte, Nat.reduceEqDiff, t6, t8]; rfl) in_add) ?_; (rw [IntWalk.i64_left])))
              exact WO_nil ⟨i, Nat.lt_succ_self _, by omega, y, _, _, hf, gt t0, gt t1, gt t2, gt t6, gs, gs, dn.trans d2⟩
            · have hge : ¬ x8 ≤ (n : Int) := by simpa using hge
              rw [if_neg hge] at hf
              refine ⟨fun _ => ?_, fun hne => absurd rfl hne⟩
              repeat refine W_seq ?_
              refine W_region ?_
              iterate 4 (first | (refine VX (by simp only [go_sem, ↓reduceIte, Nat.reduceEqDiff, Nat.reduceAdd, t6, t7]; rfl) ?_) | (refine VX (ex_bin (by simp only [go_sem, ↓reduceIte, Nat.reduceEqDiff, t6, t7]; rfl) (by simp only [go_sem, ↓reduceIte, Nat.reduceEqDiff, t6, t7]; rfl) in_add) ?_; (rw [IntWalk.i64_left])))
              refine WO_nil ?_; (repeat refine W_seq ?_)
              refine W_region ?_
              iterate 3 (first | (refine VX (by simp only [go_sem, ↓reduceIte, Nat.reduceEqDiff, Nat.reduceAdd, t1]; rfl) ?_) | (refine VX (ex_bin (by simp only [go_sem, ↓reduceIte, Nat.reduceEqDiff, t1]; rfl) (by simp only [go_sem, ↓reduceIte, Nat.reduceEqDiff, t1]; rfl) in_lss) ?_))
              refine WO_nil ?_; (repeat refine W_seq ?_)
              refine W_cond (ee) (fun hg => ?_) (fun hg => W_skip ?_)
              · have hg : wrap64 (x7 + x6) < (n : Int) := by simpa using hg
                rw [if_pos hg] at hf
                obtain ⟨y, hy, hf⟩ := bind_some hf
                (repeat refine W_seq ?_); refine W_region ?_
                iterate 5 (refine VX (by simp only [go_sem, ↓reduceIte, Nat.reduceEqDiff, Nat.reduceAdd, t0, t1, t2, t7]; rfl) ?_)
                refine WO_fn (ee) (by simp) (by decide) ((merge_fn hs i _ q cp n ex l' y _ _ _ u o1 rs1 hl hy).mono ?_)
                rintro v h2 ⟨rfl, d2⟩
                skip
                refine WO_nil ?_; (repeat refine W_seq ?_)
                refine W_region ?_
                iterate 3 (first | (refine VX (by simp only [go_sem, ↓reduceIte, Nat.reduceEqDiff, Nat.reduceAdd, t6]; rfl) ?_) | (refine VX (ex_bin (by simp only [go_sem, ↓reduceIte, Nat.reduceEqDiff, t6]; rfl) (by simp only [go_sem, ↓reduceIte, Nat.reduceEqDiff, t6]; rfl) in_mul) ?_; (rw [IntWalk.i64_left])))
                exact WO_nil ⟨i, by omega, y, _, hf, gt t0, gt t1, gt t2, gs, dn.trans d2⟩
              · have hg : ¬ wrap64 (x7 + x6) < (n : Int) := by simpa using hg
                rw [if_neg hg] at hf
                (repeat refine W_seq ?_); refine W_region ?_
                iterate 3 (first | (refine VX (by simp only [go_sem, ↓reduceIte, Nat.reduceEqDiff, Nat.reduceAdd, t6]; rfl) ?_) | (refine VX (ex_bin (by simp only [go_sem, ↓reduceIte, Nat.reduceEqDiff, t6]; rfl) (by simp only [go_sem, ↓reduceIte, Nat.reduceEqDiff, t6]; rfl) in_mul) ?_; (rw [IntWalk.i64_left])))
                exact WO_nil ⟨i, by omega, l', _, hf, gt t0, gt t1, gt t2, gs, dn⟩
        · have hge : ¬ x6 < (n : Int) := by simpa using hge
          rw [if_neg hge] at hf
          cases hf
          exact ⟨fun _ => ⟨.inl rfl, V.tup [], by (simp only [resultB, resB, parts, V.part, Sl.get_set', ↓reduceIte, Nat.reduceEqDiff] <;> rfl), rfl, dn⟩, fun hne => absurd rfl hne⟩
set_option maxHeartbeats 0 in
theorem sort_fn {spec : CallF} (hs : SpecSort spec) {h : H} {q cp n : Nat} {ex : Bool} {l r : List S66} {k : Nat} {u : Unit} (ok : Ok h) (hr : Rs h q l) (hl0 : l.length = n) (hf : Lf.share_rest_47.f k l u = some r) :
    WF Try.prog spec 47 [.one (.sl q 0 n cp 2 ex), .one (.fn0 48)] h fun v h1 => v = .tup [] ∧ Done h h1 q n r := by
  refine WF_of Try.func47 rfl (hs.s47 _ _) (by rw [Try.ntmps47]; simp) (by rw [Try.ntmps47]; decide) ?_
  rw [Try.ntmps47, Try.results47]
  simp only [Sl.setMany_cons, Sl.setMany_nil, Nat.zero_add, Nat.reduceAdd]
  obtain ⟨y, hy, hf⟩ := bind_some hf
  cases hf
  rw [hl0] at hy
  (repeat refine W_seq ?_); refine W_region ?_
  iterate 4 (first | (refine VO ?_) | (refine VX (ex_len el64 (by simp only [go_sem, ↓reduceIte, Nat.reduceEqDiff]; rfl)) ?_))
  refine WO_fn (ee) (by simp) (by decide) ((stable_fn hs ok hr hl0 hy).mono ?_)
  rintro v h2 ⟨rfl, d2⟩
  exact WO_nil ⟨.inl rfl, V.tup [], by (simp only [resultB, resB, parts, V.part, Sl.get_set', ↓reduceIte, Nat.reduceEqDiff] <;> rfl), rfl, d2⟩
end Go.Ai
