/-
LayoutWraps, part 28 of 48: FxMerge.
-/
import Derived.Test.YthacbaagffpkoaaLw27
set_option linter.unusedVariables false
set_option linter.unusedSimpArgs false
set_option maxRecDepth 100000
set_option maxHeartbeats 0
namespace Go.Ai
open Go.Proofs
open Go.RowKit (wrap64)
open Lf (S66 rd_T66 z66)
def MergeSim (spec : CallF) (k : Nat) : Prop := ∀ (h : H) (q cp n : Nat) (ex : Bool) (l r : List S66) (a m b : Int) (u : Unit), Ok h → Rs h q l → l.length = n → Lf.share_rest_64.f k l a m b u = some r →
 WF Try.prog spec 101 [.one (.sl q 0 n cp 2 ex), .one (.i .i64 a), .one (.i .i64 m), .one (.i .i64 b), .one (.fn0 96)] h fun v h1 => v = .tup [] ∧ Done h h1 q n r
theorem rotate_n {spec : CallF} (hs : SpecSort spec) {h : H} {q cp n : Nat} {ex : Bool} {l r : List S66} {a m b : Int} {fv : S} {k : Nat} {u : Unit} (ok : Ok h) (hr : Rs h q l) (hl : l.length = n) (hf : Lf.share_rest_67.f k l a m b u = some r) :
  WF Try.prog spec 102 [.one (.sl q 0 n cp 2 ex), .one (.i .i64 a), .one (.i .i64 m), .one (.i .i64 b), .one fv] h fun v h1 => v = .tup [] ∧ Done h h1 q n r := by subst hl; exact rotate_fn hs ok hr hf
theorem merge_step {spec : CallF} (hs : SpecSort spec) (K : Nat) (ih : ∀ k, k < K → MergeSim spec k) : MergeSim spec K := by
 intro h q cp n ex l r a m b u ok hr hl0 hf
 cases K with
 | zero => cases hf
 | succ K =>
 simp only [Lf.share_rest_64.f] at hf;refine WF_of Try.func101 rfl (hs.s64 _ _) (by rw [Try.ntmps101]; simp) (by rw [Try.ntmps101]; decide) ?_;rw [Try.ntmps101, Try.results101];simp only [Sl.setMany_cons, Sl.setMany_nil, Nat.zero_add, Nat.reduceAdd];have dn : Done h h q n l := by subst hl0; exact .refl hr ok
 (repeat refine zS ?_); refine zR ?_
 iterate 2 (refine VO ?_)
 (refine VX (zB ee ee in_sub) ?_; (rw [IntWalk.i64_left]))
 (refine VX (zB ee ee in_eql) ?_)
 refine zN ?_; (repeat refine zS ?_);refine zC (ee) (fun hg => ?_) (fun hg => W_skip ?_)
 ·have hg : wrap64 (m - a) = 1 := by simpa using hg
  rw [if_pos hg] at hf
  (repeat refine zS ?_); refine zR ?_
  iterate 2 (refine VO ?_)
  refine zN ?_; (repeat refine zS ?_);refine zR ?_
  iterate 2 (refine VO ?_)
  refine zN ?_; (repeat refine zS ?_);refine zK (W_rounds (fun j T h1 => ∃ x10 x11, Lf.share_rest_64.l0 j l a x10 x11 = some r ∧ T.get 0 = some (.one (.sl q 0 n cp 2 ex)) ∧ T.get 1 = some (.one (.i .i64 a)) ∧ T.get 4 = some (.one (.fn0 96)) ∧ T.get 10 = some (.one (.i .i64 x10)) ∧ T.get 11 = some (.one (.i .i64 x11)) ∧ Done h h1 q n l) ?_ K _ _ ⟨_, _, hf, gs, gs, gs, gs, gs, dn⟩);clear dn hf;rintro j T h1 ⟨x10, x11, hf, t0, t1, t4, t10, t11, dn⟩
  cases j with
  | zero => cases hf
  | succ j =>
   simp only [Lf.share_rest_64.l0] at hf;have rs1 := dn.rs;have o1 := dn.ok;have hl := dn.len
   (repeat refine zS ?_); refine zR ?_
   iterate 2 (refine VX (Ga2 @t10 @t11) ?_)
   (refine VX (zB (Gs2 @t10 @t11) (Gs2 @t10 @t11) zL) ?_)
   refine zN ?_; (repeat refine zS ?_);refine zC (ee) (fun hlt => W_skip ?_) (fun hge => W_exit ?_)
   ·have hlt : x10 < x11 := by simpa using hlt
    rw [if_pos hlt] at hf;obtain ⟨g1, hf⟩ := ite_some hf;obtain ⟨g2, hf⟩ := ite_some hf;obtain ⟨g3, hf⟩ := ite_some hf;obtain ⟨g4, hf⟩ := ite_some hf;obtain ⟨t, ht, hf⟩ := bind_some hf
    repeat refine zS ?_
    refine zK ?_
    (repeat refine zS ?_); refine zR ?_
    iterate 7 (first | (refine VX (zB (Gs2 @t10 @t11) (Gs2 @t10 @t11) zA) ?_; (rw [IntWalk.i64_left])) | (refine VX (ex_toU Try.underlying3 Try.underlying62 (Gs2 @t10 @t11)) ?_) | (refine VX (ex_half (Gs2 @t10 @t11)) ?_) | (refine VX (ex_toI Try.underlying62 Try.underlying3 (Gs2 @t10 @t11)) ?_; (rw [IntWalk.i64_left])) | (refine VX (Ga2 @t10 @t11) ?_))
    refine zN ?_; (repeat refine zS ?_);have r1 := c66_row dn.rs.c g1 g2;have r2 := c66_row dn.rs.c g3 g4;rw [hl] at g2 g4;refine W_drawn dr101_5 (by kernel_rfl) o1.floor ?_;unfold dr101_5
    iterate 9 (first | (refine IL rfl zF (Gs5 @t0 @t1 @t4 (IX64I g1 g2) (IX64I g3 g4)) (Gd4 @r1 @r2 (IX64I g1 g2) (IX64I g3 g4)) ?_) | (refine IX rfl (Gd5 @t0 @t1 @t4 (IX64I g1 g2) (IX64I g3 g4)) ?_) | (refine IX rfl (Ga5 @t0 @t1 @t4 (IX64I g1 g2) (IX64I g3 g4)) ?_))
    refine WI_callG rfl zF rfl (doCall_val (Gt3 @t0 @t1 @t4) (Gt3 @t0 @t1 @t4) (by simp)) Dc ((cmp_fn hs (o1.fenced (fun b hb => OffA) (fun b hb => by have := rs1.lt; (try simp only [cond_true, cond_false]); repeat (first | exact Off.nil | refine Off.seen rfl ?_ | refine Off.off Om ?_)) o1.floor)).mono ?_);rintro v h2 ⟨⟨t', ht', rfl⟩, u2, o2⟩;obtain rfl : t' = t := by rw [ht] at ht'; cases ht'; rfl
    have u3 := u2.back;have o3 := o1.back u2;have e3 : (h1.back h2).next = h2.next := rfl;change Up (· < h1.next) h1 _ at u3;clear u2 o2;have d3 := dn.above u3 o3;clear u3;generalize h1.back h2 = h3 at *
    (refine IX rfl (zB ee ee zL) ?_)
    refine WI_nil ?_; (repeat refine zS ?_);refine zC (ee) (fun hc => ?_) (fun hc => ?_)
    ·have hc : t' < 0 := by simpa using hc
     rw [if_pos hc] at hf
     (repeat refine zS ?_); refine zR ?_
     iterate 3 (first | (refine VX (zB ee ee zA) ?_; (rw [IntWalk.i64_left])) | (refine VO ?_))
     exact zN ⟨j, Nat.lt_succ_self _, _, _, hf, gt t0, gt t1, gt t4, gs, gt t11, d3⟩
    ·have hc : ¬ t' < 0 := by simpa using hc
     rw [if_neg hc] at hf
     (repeat refine zS ?_); refine zR ?_
     iterate 2 (refine VO ?_)
     exact zN ⟨j, Nat.lt_succ_self _, _, _, hf, gt t0, gt t1, gt t4, gt t10, gs, d3⟩
   ·have hge : ¬ x10 < x11 := by simpa using hge
    rw [if_neg hge] at hf;refine ⟨fun _ => ?_, fun hne => absurd rfl hne⟩
    repeat refine zS ?_
    (repeat refine zS ?_); refine zR ?_
    iterate 2 (refine VX (Ga1 @t1) ?_)
    refine zN ?_; (repeat refine zS ?_);refine zK (W_rounds (fun j T h1 => ∃ l' x13, Lf.share_rest_64.l1 j l' x10 x13 = some r ∧ T.get 0 = some (.one (.sl q 0 n cp 2 ex)) ∧ T.get 10 = some (.one (.i .i64 x10)) ∧ T.get 13 = some (.one (.i .i64 x13)) ∧ Done h h1 q n l') ?_ j _ _ ⟨_, _, hf, gt t0, gt t10, gs, dn⟩);clear dn hf t0 t1 t4 t10 t11 rs1 o1 hl;rintro j T h1 ⟨l', x13, hf, t0, t10, t13, dn⟩
    cases j with
    | zero => cases hf
    | succ j =>
     simp only [Lf.share_rest_64.l1] at hf;have rs1 := dn.rs;have o1 := dn.ok;have hl := dn.len
     (repeat refine zS ?_); refine zR ?_
     iterate 4 (first | (refine VX (zB (Gs2 @t10 @t13) (Gs2 @t10 @t13) in_sub) ?_; (rw [IntWalk.i64_left])) | (refine VX (zB (Gs2 @t10 @t13) (Gs2 @t10 @t13) zL) ?_) | (refine VX (Ga2 @t10 @t13) ?_))
     refine zN ?_; (repeat refine zS ?_);refine zC (ee) (fun hlt => W_skip ?_) (fun hge => W_exit ?_)
     ·have hlt : x13 < wrap64 (x10 - 1) := by simpa using hlt
      rw [if_pos hlt] at hf;obtain ⟨g1, hf⟩ := ite_some hf;obtain ⟨g2, hf⟩ := ite_some hf;obtain ⟨g3, hf⟩ := ite_some hf;obtain ⟨g4, hf⟩ := ite_some hf
      repeat refine zS ?_
      refine zK ?_;have r1 := c66_row dn.rs.c g3 g4;have r2 := c66_row dn.rs.c g1 g2;rw [hl] at g4 g2;have len1 := c66_length l';refine W_drawn dr101_11 (by kernel_rfl) o1.floor ?_;unfold dr101_11
      iterate 15 (first | (refine IX rfl (zB (Gs4 @t0 @t13 (IX64I g3 g4) (IX64I g1 g2)) (Gs4 @t0 @t13 (IX64I g3 g4) (IX64I g1 g2)) zA) ?_; (rw [IntWalk.i64_left])) | (refine IL rfl zF (Gs4 @t0 @t13 (IX64I g3 g4) (IX64I g1 g2)) (Gd4 @r1 @r2 (IX64I g3 g4) (IX64I g1 g2)) ?_) | (refine IX rfl (Gd4 @t0 @t13 (IX64I g3 g4) (IX64I g1 g2)) ?_) | (refine IX rfl (Ga4 @t0 @t13 (IX64I g3 g4) (IX64I g1 g2)) ?_))
      refine WI_storeA rfl (ee) (ee) sz141 rfl (by simp) rs1.c rs1.may (by simp only [List.length_cons, List.length_nil]; omega) OffA OffA (H.may_iff rs1.may).1.1 fun h4 p4 => ?_;have rs4 := rs1.put g3 Om ⟨(rd_T66 l' (wrap64 (x13 + 1))).f0, (rd_T66 l' (wrap64 (x13 + 1))).f1⟩ p4;have len2 := c66_length (l'.set (x13).toNat ⟨(rd_T66 l' (wrap64 (x13 + 1))).f0, (rd_T66 l' (wrap64 (x13 + 1))).f1⟩);rw [List.length_set] at len2;have e4 := p4.next
      (refine IX rfl (Gd4 @t0 @t13 (IX64I g3 g4) (IX64I g1 g2)) ?_)
      refine WI_storeA rfl (ee) (ee) sz141 rfl (by simp) rs4.c rs4.may (by simp only [List.length_cons, List.length_nil]; omega) OffA OffA (H.may_iff rs4.may).1.1 fun h5 p5 => ?_;have rs5 := rs4.put g1 (by rw [List.length_set]; omega) ⟨(rd_T66 l' x13).f0, (rd_T66 l' x13).f1⟩ p5;have d5 : Done h h5 q n ((l'.set (x13).toNat ⟨(rd_T66 l' (wrap64 (x13 + 1))).f0, (rd_T66 l' (wrap64 (x13 + 1))).f1⟩).set (wrap64 (x13 + 1)).toNat ⟨(rd_T66 l' x13).f0, (rd_T66 l' x13).f1⟩) := ⟨rs5, by simp [hl], dn.up.trans ((p4.up.trans p5.up).mono fun b hb => hb.2), p5.ok (p4.ok o1)⟩;refine WI_nil ?_; (repeat refine zS ?_);refine zR ?_
      iterate 3 (first | (refine VX (zB (Gs1 @t13) (Gs1 @t13) zA) ?_; (rw [IntWalk.i64_left])) | (refine VX (Ga1 @t13) ?_))
      exact zN ⟨j, Nat.lt_succ_self _, _, _, hf, gt t0, gt t10, gs, d5⟩
     ·have hge : ¬ x13 < wrap64 (x10 - 1) := by simpa using hge
      rw [if_neg hge] at hf;cases hf;refine ⟨fun _ => ?_, fun hne => absurd rfl hne⟩;exact W_ret ⟨.inr rfl, V.tup [], RbA, rfl, dn⟩
 ·have hg : ¬ wrap64 (m - a) = 1 := by simpa using hg
  rw [if_neg hg] at hf
  (repeat refine zS ?_); refine zR ?_
  iterate 2 (refine VO ?_)
  (refine VX (zB ee ee in_sub) ?_; (rw [IntWalk.i64_left]))
  (refine VX (zB ee ee in_eql) ?_)
  refine zN ?_; (repeat refine zS ?_);refine zC (ee) (fun hg2 => ?_) (fun hg2 => W_skip ?_)
  ·have hg2 : wrap64 (b - m) = 1 := by simpa using hg2
   rw [if_pos hg2] at hf
   (repeat refine zS ?_); refine zR ?_
   iterate 2 (refine VO ?_)
   refine zN ?_; (repeat refine zS ?_);refine zR ?_
   iterate 2 (refine VO ?_)
   refine zN ?_; (repeat refine zS ?_);refine zK (W_rounds (fun j T h1 => ∃ x14 x15, Lf.share_rest_64.l2 j l m x14 x15 = some r ∧ T.get 0 = some (.one (.sl q 0 n cp 2 ex)) ∧ T.get 2 = some (.one (.i .i64 m)) ∧ T.get 4 = some (.one (.fn0 96)) ∧ T.get 14 = some (.one (.i .i64 x14)) ∧ T.get 15 = some (.one (.i .i64 x15)) ∧ Done h h1 q n l) ?_ K _ _ ⟨_, _, hf, gs, gs, gs, gs, gs, dn⟩);clear dn hf;rintro j T h1 ⟨x14, x15, hf, t0, t2, t4, t14, t15, dn⟩
   cases j with
   | zero => cases hf
   | succ j =>
    simp only [Lf.share_rest_64.l2] at hf;have rs1 := dn.rs;have o1 := dn.ok;have hl := dn.len
    (repeat refine zS ?_); refine zR ?_
    iterate 2 (refine VX (Ga2 @t14 @t15) ?_)
    (refine VX (zB (Gs2 @t14 @t15) (Gs2 @t14 @t15) zL) ?_)
    refine zN ?_; (repeat refine zS ?_);refine zC (ee) (fun hlt => W_skip ?_) (fun hge => W_exit ?_)
    ·have hlt : x14 < x15 := by simpa using hlt
     rw [if_pos hlt] at hf;obtain ⟨g1, hf⟩ := ite_some hf;obtain ⟨g2, hf⟩ := ite_some hf;obtain ⟨g3, hf⟩ := ite_some hf;obtain ⟨g4, hf⟩ := ite_some hf;obtain ⟨t, ht, hf⟩ := bind_some hf
     repeat refine zS ?_
     refine zK ?_
     (repeat refine zS ?_); refine zR ?_
     iterate 7 (first | (refine VX (zB (Gs2 @t14 @t15) (Gs2 @t14 @t15) zA) ?_; (rw [IntWalk.i64_left])) | (refine VX (ex_toU Try.underlying3 Try.underlying62 (Gs2 @t14 @t15)) ?_) | (refine VX (ex_half (Gs2 @t14 @t15)) ?_) | (refine VX (ex_toI Try.underlying62 Try.underlying3 (Gs2 @t14 @t15)) ?_; (rw [IntWalk.i64_left])) | (refine VX (Ga2 @t14 @t15) ?_))
     refine zN ?_; (repeat refine zS ?_);have r1 := c66_row dn.rs.c g1 g2;have r2 := c66_row dn.rs.c g3 g4;rw [hl] at g2 g4;refine W_drawn dr101_17 (by kernel_rfl) o1.floor ?_;unfold dr101_17
     iterate 9 (first | (refine IL rfl zF (Gs5 @t0 @t2 @t4 (IX64I g1 g2) (IX64I g3 g4)) (Gd4 @r1 @r2 (IX64I g1 g2) (IX64I g3 g4)) ?_) | (refine IX rfl (Gd5 @t0 @t2 @t4 (IX64I g1 g2) (IX64I g3 g4)) ?_) | (refine IX rfl (Ga5 @t0 @t2 @t4 (IX64I g1 g2) (IX64I g3 g4)) ?_))
     refine WI_callG rfl zF rfl (doCall_val (Gt3 @t0 @t2 @t4) (Gt3 @t0 @t2 @t4) (by simp)) Dc ((cmp_fn hs (o1.fenced (fun b hb => OffA) (fun b hb => by have := rs1.lt; (try simp only [cond_true, cond_false]); repeat (first | exact Off.nil | refine Off.seen rfl ?_ | refine Off.off Om ?_)) o1.floor)).mono ?_);rintro v h2 ⟨⟨t', ht', rfl⟩, u2, o2⟩;obtain rfl : t' = t := by rw [ht] at ht'; cases ht'; rfl
     have u3 := u2.back;have o3 := o1.back u2;have e3 : (h1.back h2).next = h2.next := rfl;change Up (· < h1.next) h1 _ at u3;clear u2 o2;have d3 := dn.above u3 o3;clear u3;generalize h1.back h2 = h3 at *
     (refine IX rfl (zB ee ee zL) ?_)
     (refine IX rfl (ex_not Gs0) ?_)
     refine WI_nil ?_; (repeat refine zS ?_);refine zC (ee) (fun hc => ?_) (fun hc => ?_)
     ·have hc : ¬ t' < 0 := by simpa using hc
      rw [if_neg hc] at hf
      (repeat refine zS ?_); refine zR ?_
      iterate 3 (first | (refine VX (zB ee ee zA) ?_; (rw [IntWalk.i64_left])) | (refine VO ?_))
      exact zN ⟨j, Nat.lt_succ_self _, _, _, hf, gt t0, gt t2, gt t4, gs, gt t15, d3⟩
     ·have hc : t' < 0 := by simpa using hc
      rw [if_pos hc] at hf
      (repeat refine zS ?_); refine zR ?_
      iterate 2 (refine VO ?_)
      exact zN ⟨j, Nat.lt_succ_self _, _, _, hf, gt t0, gt t2, gt t4, gt t14, gs, d3⟩
    ·have hge : ¬ x14 < x15 := by simpa using hge
     rw [if_neg hge] at hf;refine ⟨fun _ => ?_, fun hne => absurd rfl hne⟩
     repeat refine zS ?_
     (repeat refine zS ?_); refine zR ?_
     iterate 2 (refine VX (Ga1 @t2) ?_)
     refine zN ?_; (repeat refine zS ?_);refine zK (W_rounds (fun j T h1 => ∃ l' x17, Lf.share_rest_64.l3 j l' x14 x17 = some r ∧ T.get 0 = some (.one (.sl q 0 n cp 2 ex)) ∧ T.get 14 = some (.one (.i .i64 x14)) ∧ T.get 17 = some (.one (.i .i64 x17)) ∧ Done h h1 q n l') ?_ j _ _ ⟨_, _, hf, gt t0, gt t14, gs, dn⟩);clear dn hf t0 t2 t4 t14 t15 rs1 o1 hl;rintro j T h1 ⟨l', x17, hf, t0, t14, t17, dn⟩
     cases j with
     | zero => cases hf
     | succ j =>
      simp only [Lf.share_rest_64.l3] at hf;have rs1 := dn.rs;have o1 := dn.ok;have hl := dn.len
      (repeat refine zS ?_); refine zR ?_
      iterate 2 (refine VX (Ga2 @t14 @t17) ?_)
      (refine VX (zB (Gs2 @t14 @t17) (Gs2 @t14 @t17) in_gtr) ?_)
      refine zN ?_; (repeat refine zS ?_);refine zC (ee) (fun hlt => W_skip ?_) (fun hge => W_exit ?_)
      ·have hlt : x17 > x14 := by simpa using hlt
       rw [if_pos hlt] at hf;obtain ⟨g1, hf⟩ := ite_some hf;obtain ⟨g2, hf⟩ := ite_some hf;obtain ⟨g3, hf⟩ := ite_some hf;obtain ⟨g4, hf⟩ := ite_some hf
       repeat refine zS ?_
       refine zK ?_;have r1 := c66_row dn.rs.c g3 g4;have r2 := c66_row dn.rs.c g1 g2;rw [hl] at g4 g2;have len1 := c66_length l';refine W_drawn dr101_23 (by kernel_rfl) o1.floor ?_;unfold dr101_23
       iterate 15 (first | (refine IX rfl (zB (Gs4 @t0 @t17 (IX64I g3 g4) (IX64I g1 g2)) (Gs4 @t0 @t17 (IX64I g3 g4) (IX64I g1 g2)) in_sub) ?_; (rw [IntWalk.i64_left])) | (refine IL rfl zF (Gs4 @t0 @t17 (IX64I g3 g4) (IX64I g1 g2)) (Gd4 @r1 @r2 (IX64I g3 g4) (IX64I g1 g2)) ?_) | (refine IX rfl (Gd4 @t0 @t17 (IX64I g3 g4) (IX64I g1 g2)) ?_) | (refine IX rfl (Ga4 @t0 @t17 (IX64I g3 g4) (IX64I g1 g2)) ?_))
       refine WI_storeA rfl (ee) (ee) sz141 rfl (by simp) rs1.c rs1.may (by simp only [List.length_cons, List.length_nil]; omega) OffA OffA (H.may_iff rs1.may).1.1 fun h4 p4 => ?_;have rs4 := rs1.put g3 Om ⟨(rd_T66 l' (wrap64 (x17 - 1))).f0, (rd_T66 l' (wrap64 (x17 - 1))).f1⟩ p4;have len2 := c66_length (l'.set (x17).toNat ⟨(rd_T66 l' (wrap64 (x17 - 1))).f0, (rd_T66 l' (wrap64 (x17 - 1))).f1⟩);rw [List.length_set] at len2;have e4 := p4.next
       (refine IX rfl (Gd4 @t0 @t17 (IX64I g3 g4) (IX64I g1 g2)) ?_)
       refine WI_storeA rfl (ee) (ee) sz141 rfl (by simp) rs4.c rs4.may (by simp only [List.length_cons, List.length_nil]; omega) OffA OffA (H.may_iff rs4.may).1.1 fun h5 p5 => ?_;have rs5 := rs4.put g1 (by rw [List.length_set]; omega) ⟨(rd_T66 l' x17).f0, (rd_T66 l' x17).f1⟩ p5;have d5 : Done h h5 q n ((l'.set (x17).toNat ⟨(rd_T66 l' (wrap64 (x17 - 1))).f0, (rd_T66 l' (wrap64 (x17 - 1))).f1⟩).set (wrap64 (x17 - 1)).toNat ⟨(rd_T66 l' x17).f0, (rd_T66 l' x17).f1⟩) := ⟨rs5, by simp [hl], dn.up.trans ((p4.up.trans p5.up).mono fun b hb => hb.2), p5.ok (p4.ok o1)⟩;refine WI_nil ?_; (repeat refine zS ?_);refine zR ?_
       iterate 3 (first | (refine VX (zB (Gs1 @t17) (Gs1 @t17) in_sub) ?_; (rw [IntWalk.i64_left])) | (refine VX (Ga1 @t17) ?_))
       exact zN ⟨j, Nat.lt_succ_self _, _, _, hf, gt t0, gt t14, gs, d5⟩
      ·have hge : ¬ x17 > x14 := by simpa using hge
       rw [if_neg hge] at hf;cases hf;refine ⟨fun _ => ?_, fun hne => absurd rfl hne⟩;exact W_ret ⟨.inr rfl, V.tup [], RbA, rfl, dn⟩
  ·have hg2 : ¬ wrap64 (b - m) = 1 := by simpa using hg2
   rw [if_neg hg2] at hf
   (repeat refine zS ?_); refine zR ?_
   iterate 7 (first | (refine VX (zB ee ee zA) ?_; (rw [IntWalk.i64_left])) | (refine VX (ex_toU Try.underlying3 Try.underlying62 Gs0) ?_) | (refine VX (ex_half Gs0) ?_) | (refine VX (ex_toI Try.underlying62 Try.underlying3 Gs0) ?_; (rw [IntWalk.i64_left])) | (refine VO ?_))
   refine zN ?_; (repeat refine zS ?_);refine zR ?_
   iterate 4 (first | (refine VX (zB ee ee zA) ?_; (rw [IntWalk.i64_left])) | (refine VO ?_))
   refine zN ?_; (repeat refine zS ?_);refine zR ?_
   iterate 2 (refine VO ?_)
   refine zN ?_;generalize hmid : wrap64 (IntKind.u64.wrap (wrap64 (a + b)) / 2) = mid at *;generalize hnn : wrap64 (mid + m) = nn at *;refine W_join (fun T h1 => ∃ x20 x21, Lf.share_rest_64.j4 K l a m b u mid nn x20 x21 = some r ∧ T.get 0 = some (.one (.sl q 0 n cp 2 ex)) ∧ T.get 1 = some (.one (.i .i64 a)) ∧ T.get 2 = some (.one (.i .i64 m)) ∧ T.get 3 = some (.one (.i .i64 b)) ∧ T.get 4 = some (.one (.fn0 96)) ∧ T.get 18 = some (.one (.i .i64 mid)) ∧ T.get 19 = some (.one (.i .i64 nn)) ∧ T.get 20 = some (.one (.i .i64 x20)) ∧ T.get 21 = some (.one (.i .i64 x21)) ∧ h1 = h) ?_ ?_
   ·(repeat refine zS ?_); refine zR ?_
    iterate 2 (refine VO ?_)
    (refine VX (zB ee ee in_gtr) ?_)
    refine zN ?_; (repeat refine zS ?_);refine zC (ee) (fun hg3 => ?_) (fun hg3 => ?_)
    ·have hg3 : m > mid := by simpa using hg3
     rw [if_pos hg3] at hf
     (repeat refine zS ?_); refine zR ?_
     iterate 4 (first | (refine VX (zB ee ee in_sub) ?_; (rw [IntWalk.i64_left])) | (refine VO ?_))
     refine zN ?_; (repeat refine zS ?_);refine zR ?_
     iterate 2 (refine VO ?_)
     exact zN ⟨rfl, _, _, hf, gs, gs, gs, gs, gs, gs, gs, gs, gs, rfl⟩
    ·have hg3 : ¬ m > mid := by simpa using hg3
     rw [if_neg hg3] at hf
     (repeat refine zS ?_); refine zR ?_
     iterate 2 (refine VO ?_)
     refine zN ?_; (repeat refine zS ?_);refine zR ?_
     iterate 2 (refine VO ?_)
     exact zN ⟨rfl, _, _, hf, gs, gs, gs, gs, gs, gs, gs, gs, gs, rfl⟩
   clear hf;rintro T h0 ⟨x20, x21, hf, t0, t1, t2, t3, t4, t18, t19, t20, t21, rfl⟩
   cases K with
   | zero => cases hf
   | succ K =>
   simp only [Lf.share_rest_64.j4] at hf
   (repeat refine zS ?_); refine zR ?_
   iterate 3 (first | (refine VX (zB (Gs1 @t19) (Gs1 @t19) in_sub) ?_; (rw [IntWalk.i64_left])) | (refine VX (Ga1 @t19) ?_))
   refine zN ?_;generalize hpp : wrap64 (nn - 1) = pp at *
   repeat refine zS ?_
   refine zK (W_rounds (fun j T h2 => j ≤ K ∧ ∃ x20 x21, Lf.share_rest_64.l4 j l a m b u mid nn x20 x21 pp = some r ∧ T.get 0 = some (.one (.sl q 0 n cp 2 ex)) ∧ T.get 1 = some (.one (.i .i64 a)) ∧ T.get 2 = some (.one (.i .i64 m)) ∧ T.get 3 = some (.one (.i .i64 b)) ∧ T.get 4 = some (.one (.fn0 96)) ∧ T.get 18 = some (.one (.i .i64 mid)) ∧ T.get 19 = some (.one (.i .i64 nn)) ∧ T.get 20 = some (.one (.i .i64 x20)) ∧ T.get 21 = some (.one (.i .i64 x21)) ∧ T.get 22 = some (.one (.i .i64 pp)) ∧ Done h0 h2 q n l) ?_ K _ _ ⟨Nat.le_refl _, x20, x21, hf, gt t0, gt t1, gt t2, gt t3, gt t4, gt t18, gt t19, gt t20, gt t21, gs, dn⟩);clear hf t0 t1 t2 t3 t4 t18 t19 t20 t21 dn;rintro j T h1 ⟨hjK, x20, x21, hf, t0, t1, t2, t3, t4, t18, t19, t20, t21, t22, dn⟩
   cases j with
   | zero => cases hf
   | succ j =>
    simp only [Lf.share_rest_64.l4] at hf;have rs1 := dn.rs;have o1 := dn.ok;have hl := dn.len
    (repeat refine zS ?_); refine zR ?_
    iterate 2 (refine VX (Ga2 @t20 @t21) ?_)
    (refine VX (zB (Gs2 @t20 @t21) (Gs2 @t20 @t21) zL) ?_)
    refine zN ?_; (repeat refine zS ?_);refine zC (ee) (fun hlt => W_skip ?_) (fun hge => W_exit ?_)
    ·have hlt : x20 < x21 := by simpa using hlt
     rw [if_pos hlt] at hf;obtain ⟨g1, hf⟩ := ite_some hf;obtain ⟨g2, hf⟩ := ite_some hf;obtain ⟨g3, hf⟩ := ite_some hf;obtain ⟨g4, hf⟩ := ite_some hf;obtain ⟨t, ht, hf⟩ := bind_some hf
     repeat refine zS ?_
     refine zK ?_
     (repeat refine zS ?_); refine zR ?_
     iterate 7 (first | (refine VX (zB (Gs2 @t20 @t21) (Gs2 @t20 @t21) zA) ?_; (rw [IntWalk.i64_left])) | (refine VX (ex_toU Try.underlying3 Try.underlying62 (Gs2 @t20 @t21)) ?_) | (refine VX (ex_half (Gs2 @t20 @t21)) ?_) | (refine VX (ex_toI Try.underlying62 Try.underlying3 (Gs2 @t20 @t21)) ?_; (rw [IntWalk.i64_left])) | (refine VX (Ga2 @t20 @t21) ?_))
     refine zN ?_; (repeat refine zS ?_);have r1 := c66_row dn.rs.c g1 g2;have r2 := c66_row dn.rs.c g3 g4;rw [hl] at g2 g4;refine W_drawn dr101_35 (by kernel_rfl) o1.floor ?_;unfold dr101_35
     iterate 11 (first | (refine IX rfl (zB (Gs5 @t0 @t4 @t22 (IX64I g1 g2) (IX64I g3 g4)) (Gs5 @t0 @t4 @t22 (IX64I g1 g2) (IX64I g3 g4)) in_sub) ?_; (rw [IntWalk.i64_left])) | (refine IL rfl zF (Gs5 @t0 @t4 @t22 (IX64I g1 g2) (IX64I g3 g4)) (Gd4 @r1 @r2 (IX64I g1 g2) (IX64I g3 g4)) ?_) | (refine IX rfl (Gd5 @t0 @t4 @t22 (IX64I g1 g2) (IX64I g3 g4)) ?_) | (refine IX rfl (Ga5 @t0 @t4 @t22 (IX64I g1 g2) (IX64I g3 g4)) ?_))
     refine WI_callG rfl zF rfl (doCall_val (Gt3 @t0 @t4 @t22) (Gt3 @t0 @t4 @t22) (by simp)) Dc ((cmp_fn hs (o1.fenced (fun b hb => OffA) (fun b hb => by have := rs1.lt; (try simp only [cond_true, cond_false]); repeat (first | exact Off.nil | refine Off.seen rfl ?_ | refine Off.off Om ?_)) o1.floor)).mono ?_);rintro v h2 ⟨⟨t', ht', rfl⟩, u2, o2⟩;obtain rfl : t' = t := by rw [ht] at ht'; cases ht'; rfl
     have u3 := u2.back;have o3 := o1.back u2;have e3 : (h1.back h2).next = h2.next := rfl;change Up (· < h1.next) h1 _ at u3;clear u2 o2;have d3 := dn.above u3 o3;clear u3;generalize h1.back h2 = h3 at *
     (refine IX rfl (zB ee ee zL) ?_)
     (refine IX rfl (ex_not Gs0) ?_)
     refine WI_nil ?_; (repeat refine zS ?_);refine zC (ee) (fun hc => ?_) (fun hc => ?_)
     ·have hc : ¬ t' < 0 := by simpa using hc
      rw [if_neg hc] at hf
      (repeat refine zS ?_); refine zR ?_
      iterate 3 (first | (refine VX (zB ee ee zA) ?_; (rw [IntWalk.i64_left])) | (refine VO ?_))
      exact zN ⟨j, Nat.lt_succ_self _, by omega, _, _, hf, gt t0, gt t1, gt t2, gt t3, gt t4, gt t18, gt t19, gs, gt t21, gt t22, d3⟩
     ·have hc : t' < 0 := by simpa using hc
      rw [if_pos hc] at hf
      (repeat refine zS ?_); refine zR ?_
      iterate 2 (refine VO ?_)
      exact zN ⟨j, Nat.lt_succ_self _, by omega, _, _, hf, gt t0, gt t1, gt t2, gt t3, gt t4, gt t18, gt t19, gt t20, gs, gt t22, d3⟩
    ·have hge : ¬ x20 < x21 := by simpa using hge
     rw [if_neg hge] at hf;refine ⟨fun _ => ?_, fun hne => absurd rfl hne⟩
     repeat refine zS ?_
     (repeat refine zS ?_); refine zR ?_
     iterate 4 (first | (refine VX (zB (Gs2 @t19 @t20) (Gs2 @t19 @t20) in_sub) ?_; (rw [IntWalk.i64_left])) | (refine VX (Ga2 @t19 @t20) ?_))
     generalize hx24 : wrap64 (nn - x20) = x24 at *
     have hj6 : Lf.share_rest_64.j6 j l a m b u mid x20 x24 (decide (x20 < m) && decide (m < x24)) = some r := by
      by_cases c : x20 < m
      ·rw [if_pos c] at hf; rw [decide_eq_true c, Bool.true_and]; exact hf
      ·rw [if_neg c] at hf; rw [decide_eq_false c, Bool.false_and]; exact hf
     clear hf
     cases j with
     | zero => cases hj6
     | succ j =>
     simp only [Lf.share_rest_64.j6] at hj6;refine zN (W_join (fun T h2 => ∃ l', Lf.share_rest_64.j7 j l' a b u mid x20 x24 = some r ∧ T.get 0 = some (.one (.sl q 0 n cp 2 ex)) ∧ T.get 1 = some (.one (.i .i64 a)) ∧ T.get 3 = some (.one (.i .i64 b)) ∧ T.get 4 = some (.one (.fn0 96)) ∧ T.get 18 = some (.one (.i .i64 mid)) ∧ T.get 20 = some (.one (.i .i64 x20)) ∧ T.get 24 = some (.one (.i .i64 x24)) ∧ Done h0 h2 q n l') ?_ ?_)
     ·(repeat refine zS ?_); refine zR ?_
      by_cases c : x20 < m
      ·have c' : decide (x20 < m) = true := decide_eq_true c
       iterate 8 (first | (refine VX (zB (Gs3 @t2 @t20 @c') (Gs3 @t2 @t20 @c') zL) ?_) | (refine VG (zT rfl rfl (Gs3 @t2 @t20 @c') rfl) (zB (Gs3 @t2 @t20 @c') (Gs3 @t2 @t20 @c') zL) ?_) | (refine VN (zG rfl rfl (Gs3 @t2 @t20 @c') rfl) ?_) | (refine VG (zT rfl rfl (Gs3 @t2 @t20 @c') rfl) (Ga3 @t2 @t20 @c') ?_) | (refine VX (Ga3 @t2 @t20 @c') ?_))
       refine zN ?_; (repeat refine zS ?_);refine zC (Gt1 @c') (fun hg3 => ?_) (fun hg3 => W_skip ?_)
       ·rw [c', hg3, Bool.true_and, if_pos rfl] at hj6;obtain ⟨y, hy, hj7⟩ := bind_some hj6
        (repeat refine zS ?_); refine zR ?_
        iterate 5 (refine VX (Ga4 @t0 @t2 @t4 @t20) ?_)
        refine WO_fn (ee) (by simp) Dc ((rotate_n hs o1 rs1 hl hy).mono ?_);rintro v h2 ⟨rfl, d2⟩;exact zN ⟨rfl, y, hj7, gt t0, gt t1, gt t3, gt t4, gt t18, gt t20, gs, dn.trans d2⟩
       ·rw [c', hg3, Bool.true_and, if_neg (by simp)] at hj6;exact ⟨rfl, l, hj6, gt t0, gt t1, gt t3, gt t4, gt t18, gt t20, gs, dn⟩
      ·have c' : decide (x20 < m) = false := decide_eq_false c
       iterate 8 (first | (refine VX (zB (Gs3 @t2 @t20 @c') (Gs3 @t2 @t20 @c') zL) ?_) | (refine VG (zT rfl rfl (Gs3 @t2 @t20 @c') rfl) (zB (Gs3 @t2 @t20 @c') (Gs3 @t2 @t20 @c') zL) ?_) | (refine VN (zG rfl rfl (Gs3 @t2 @t20 @c') rfl) ?_) | (refine VG (zT rfl rfl (Gs3 @t2 @t20 @c') rfl) (Ga3 @t2 @t20 @c') ?_) | (refine VX (Ga3 @t2 @t20 @c') ?_))
       refine zN ?_; (repeat refine zS ?_);refine zC (Gt1 @c') (fun hg3 => by cases hg3) (fun hg3 => W_skip ?_);rw [c', Bool.false_and, if_neg (by simp)] at hj6;exact ⟨rfl, l, hj6, gt t0, gt t1, gt t3, gt t4, gt t18, gt t20, gs, dn⟩
     clear hj6 t0 t1 t2 t3 t4 t18 t19 t20 t21 t22 rs1 o1 hl dn;rintro T h2 ⟨l', hj7, t0, t1, t3, t4, t18, t20, t24, dn⟩;have rs1 := dn.rs;have o1 := dn.ok;have hl := dn.len
     cases j with
     | zero => cases hj7
     | succ j =>
     simp only [Lf.share_rest_64.j7] at hj7
     have hj8 : Lf.share_rest_64.j8 j l' a b u mid x20 x24 (decide (a < x20) && decide (x20 < mid)) = some r := by
      by_cases c : a < x20
      ·rw [if_pos c] at hj7; rw [decide_eq_true c, Bool.true_and]; exact hj7
      ·rw [if_neg c] at hj7; rw [decide_eq_false c, Bool.false_and]; exact hj7
     clear hj7
     cases j with
     | zero => cases hj8
     | succ j =>
     simp only [Lf.share_rest_64.j8] at hj8;refine W_join (fun T h3 => ∃ l', (if mid < x24 then (if x24 < b then (Lf.share_rest_64.f j l' mid x24 b u).bind fun t => some t else some l') else some l') = some r ∧ T.get 0 = some (.one (.sl q 0 n cp 2 ex)) ∧ T.get 3 = some (.one (.i .i64 b)) ∧ T.get 4 = some (.one (.fn0 96)) ∧ T.get 18 = some (.one (.i .i64 mid)) ∧ T.get 24 = some (.one (.i .i64 x24)) ∧ Done h0 h3 q n l') ?_ ?_
     ·(repeat refine zS ?_); refine zR ?_
      by_cases c : a < x20
      ·have c' : decide (a < x20) = true := decide_eq_true c
       iterate 8 (first | (refine VX (zB (Gs4 @t1 @t18 @t20 @c') (Gs4 @t1 @t18 @t20 @c') zL) ?_) | (refine VG (zT rfl rfl (Gs4 @t1 @t18 @t20 @c') rfl) (zB (Gs4 @t1 @t18 @t20 @c') (Gs4 @t1 @t18 @t20 @c') zL) ?_) | (refine VN (zG rfl rfl (Gs4 @t1 @t18 @t20 @c') rfl) ?_) | (refine VG (zT rfl rfl (Gs4 @t1 @t18 @t20 @c') rfl) (Ga4 @t1 @t18 @t20 @c') ?_) | (refine VX (Ga4 @t1 @t18 @t20 @c') ?_))
       refine zN ?_; (repeat refine zS ?_);refine zC (Gt1 @c') (fun hg3 => ?_) (fun hg3 => W_skip ?_)
       ·rw [c', hg3, Bool.true_and, if_pos rfl] at hj8;obtain ⟨y, hy, hj9⟩ := bind_some hj8
        (repeat refine zS ?_); refine zR ?_
        iterate 5 (refine VX (Ga5 @t0 @t1 @t4 @t18 @t20) ?_)
        refine WO_fn (ee) (by simp) Dc ((ih j Om _ q cp n ex l' y a x20 mid u o1 rs1 hl hy).mono ?_);rintro v h3 ⟨rfl, d2⟩;exact zN ⟨rfl, y, hj9, gt t0, gt t3, gt t4, gt t18, gt t24, dn.trans d2⟩
       ·rw [c', hg3, Bool.true_and, if_neg (by simp)] at hj8;exact ⟨rfl, l', hj8, gt t0, gt t3, gt t4, gt t18, gt t24, dn⟩
      ·have c' : decide (a < x20) = false := decide_eq_false c
       iterate 8 (first | (refine VX (zB (Gs4 @t1 @t18 @t20 @c') (Gs4 @t1 @t18 @t20 @c') zL) ?_) | (refine VG (zT rfl rfl (Gs4 @t1 @t18 @t20 @c') rfl) (zB (Gs4 @t1 @t18 @t20 @c') (Gs4 @t1 @t18 @t20 @c') zL) ?_) | (refine VN (zG rfl rfl (Gs4 @t1 @t18 @t20 @c') rfl) ?_) | (refine VG (zT rfl rfl (Gs4 @t1 @t18 @t20 @c') rfl) (Ga4 @t1 @t18 @t20 @c') ?_) | (refine VX (Ga4 @t1 @t18 @t20 @c') ?_))
       refine zN ?_; (repeat refine zS ?_);refine zC (Gt1 @c') (fun hg3 => by cases hg3) (fun hg3 => W_skip ?_);rw [c', Bool.false_and, if_neg (by simp)] at hj8;exact ⟨rfl, l', hj8, gt t0, gt t3, gt t4, gt t18, gt t24, dn⟩
     clear hj8 t0 t1 t3 t4 t18 t20 t24 rs1 o1 hl dn;rintro T h3 ⟨l', hj9, t0, t3, t4, t18, t24, dn⟩;have rs1 := dn.rs;have o1 := dn.ok;have hl := dn.len
     (repeat refine zS ?_); refine zR ?_
     by_cases c : mid < x24
     ·have c' : decide (mid < x24) = true := decide_eq_true c;rw [if_pos c] at hj9
      iterate 8 (first | (refine VX (zB (Gs4 @t3 @t18 @t24 @c') (Gs4 @t3 @t18 @t24 @c') zL) ?_) | (refine VG (zT rfl rfl (Gs4 @t3 @t18 @t24 @c') rfl) (zB (Gs4 @t3 @t18 @t24 @c') (Gs4 @t3 @t18 @t24 @c') zL) ?_) | (refine VN (zG rfl rfl (Gs4 @t3 @t18 @t24 @c') rfl) ?_) | (refine VG (zT rfl rfl (Gs4 @t3 @t18 @t24 @c') rfl) (Ga4 @t3 @t18 @t24 @c') ?_) | (refine VX (Ga4 @t3 @t18 @t24 @c') ?_))
      refine zN ?_; (repeat refine zS ?_);refine zC (Gt1 @c') (fun hg3 => ?_) (fun hg3 => W_skip ?_)
      ·have hg3 : x24 < b := by simpa using hg3
       rw [if_pos hg3] at hj9;obtain ⟨y, hy, hj9⟩ := bind_some hj9;cases hj9
       (repeat refine zS ?_); refine zR ?_
       iterate 5 (refine VX (Ga5 @t0 @t3 @t4 @t18 @t24) ?_)
       refine WO_fn (ee) (by simp) Dc ((ih j Om _ q cp n ex l' r mid x24 b u o1 rs1 hl hy).mono ?_);rintro v h4 ⟨rfl, d2⟩;exact zN ⟨.inl rfl, V.tup [], RbA, rfl, dn.trans d2⟩
      ·have hg3 : ¬ x24 < b := by simpa using hg3
       rw [if_neg hg3] at hj9;cases hj9;exact ⟨.inl rfl, V.tup [], RbA, rfl, dn⟩
     ·have c' : decide (mid < x24) = false := decide_eq_false c;rw [if_neg c] at hj9;cases hj9
      iterate 8 (first | (refine VX (zB (Gs3 @t18 @t24 @c') (Gs3 @t18 @t24 @c') zL) ?_) | (refine VG (zT rfl rfl (Gs3 @t18 @t24 @c') rfl) (zB (Gs3 @t18 @t24 @c') (Gs3 @t18 @t24 @c') zL) ?_) | (refine VN (zG rfl rfl (Gs3 @t18 @t24 @c') rfl) ?_) | (refine VG (zT rfl rfl (Gs3 @t18 @t24 @c') rfl) (Ga3 @t18 @t24 @c') ?_) | (refine VX (Ga3 @t18 @t24 @c') ?_))
      refine zN ?_; (repeat refine zS ?_);refine zC (Gt1 @c') (fun hg3 => by cases hg3) (fun hg3 => W_skip ?_);exact ⟨.inl rfl, V.tup [], RbA, rfl, dn⟩
theorem merge_fn {spec : CallF} (hs : SpecSort spec) : ∀ k, MergeSim spec k := by
 intro k
 induction k using Nat.strongRecOn with
 | _ k ih => exact merge_step hs k fun j hj => ih j hj
end Go.Ai
