/-
LayoutWraps, part 27 of 48: FxSort.
-/
import Derived.Test.YthacbaagffpkoaaLw26
set_option linter.unusedVariables false
set_option linter.unusedSimpArgs false
set_option maxRecDepth 100000
set_option maxHeartbeats 0
namespace Go.Ai
open Go.Proofs
open Go.RowKit (wrap64)
open Lf (S66 rd_T66 z66)
structure SpecSort (spec : CallF) : Prop where
 s34 : ∀ args h, spec 94 args h = none
 s35 : ∀ args h, spec 92 args h = none
 s47 : ∀ args h, spec 95 args h = none
 s48 : ∀ args h, spec 96 args h = none
 s49 : ∀ args h, spec 97 args h = none
 s56 : ∀ args h, spec 98 args h = none
 s57 : ∀ args h, spec 99 args h = none
 s63 : ∀ args h, spec 100 args h = none
 s64 : ∀ args h, spec 101 args h = none
 s67 : ∀ args h, spec 102 args h = none
 s69 : ∀ args h, spec 103 args h = none
theorem nan_fn {spec : CallF} (hs : SpecSort spec) {h : H} {a : Int} : WF Try.prog spec 99 [.one (.i .i64 a)] h fun v h1 => v = .one (.b false) ∧ h1 = h := by
 refine WF_of Try.func99 rfl (hs.s57 _ _) (by rw [Try.ntmps99]; simp) (by rw [Try.ntmps99]; decide) ?_;rw [Try.ntmps99, Try.results99];simp only [Sl.setMany_cons, Sl.setMany_nil, Nat.zero_add, Nat.reduceAdd]
 (repeat refine zS ?_); refine zR ?_
 refine VO ?_;refine zN ?_; (repeat refine zS ?_);refine zR ?_
 iterate 4 (first | (refine VX (zB ee ee in_neq) ?_) | (refine VO ?_))
 exact zN (W_ret ⟨.inr rfl, _, RbA, by simp, rfl⟩)
def cmpZ (a b : Int) : Int := if a < b then -1 else if b < a then 1 else 0
theorem compare_fn {spec : CallF} (hs : SpecSort spec) {h : H} {a b : Int} : WF Try.prog spec 97 [.one (.i .i64 a), .one (.i .i64 b)] h fun v h1 => v = .one (.i .i64 (cmpZ a b)) ∧ h1 = h := by
 refine WF_of Try.func97 rfl (hs.s49 _ _) (by rw [Try.ntmps97]; simp) (by rw [Try.ntmps97]; decide) ?_;rw [Try.ntmps97, Try.results97];simp only [Sl.setMany_cons, Sl.setMany_nil, Nat.zero_add, Nat.reduceAdd]
 (repeat refine zS ?_); refine zR ?_
 refine VO ?_;refine zN ?_; (repeat refine zS ?_);refine zR ?_;refine VO ?_;refine WO_fn (ee) (by simp) Dc ((nan_fn hs).mono ?_);rintro r h1 ⟨rfl, rfl⟩;refine VO ?_;refine zN ?_; (repeat refine zS ?_);refine zR ?_;refine VO ?_;refine WO_fn (ee) (by simp) Dc ((nan_fn hs).mono ?_);rintro r h1 ⟨rfl, rfl⟩;refine VO ?_;refine zN ?_; (repeat refine zS ?_);refine zR ?_;refine VO ?_;refine zN ?_; (repeat refine zS ?_);refine zC (ee) (fun hg => by cases hg) (fun _ => W_skip ?_)
 (repeat refine zS ?_); refine zR ?_
 refine VO ?_;refine zN ?_; (repeat refine zS ?_);refine zC (ee) (fun hg => by cases hg) (fun _ => W_skip ?_)
 (repeat refine zS ?_); refine zR ?_
 iterate 2 (refine VO ?_)
 (refine VX (zB ee ee zL) ?_)
 refine zN ?_; (repeat refine zS ?_);refine zC (ee) (fun hg => ?_) (fun hg => W_skip ?_)
 ·have hg : a < b := by simpa using hg
  (repeat refine zS ?_); refine zR ?_
  refine VO ?_;refine zN (W_ret ⟨.inr rfl, _, RbA, ?_, rfl⟩);unfold cmpZ; rw [if_pos hg]
 ·have hg : ¬ a < b := by simpa using hg
  (repeat refine zS ?_); refine zR ?_
  iterate 2 (refine VO ?_)
  (refine VX (zB ee ee in_gtr) ?_)
  refine zN ?_; (repeat refine zS ?_);refine zC (ee) (fun hg2 => ?_) (fun hg2 => W_skip ?_)
  ·have hg2 : b < a := by simpa using hg2
   (repeat refine zS ?_); refine zR ?_
   refine VO ?_;refine zN (W_ret ⟨.inr rfl, _, RbA, ?_, rfl⟩);unfold cmpZ; rw [if_neg hg, if_pos hg2]
  ·have hg2 : ¬ b < a := by simpa using hg2
   (repeat refine zS ?_); refine zR ?_
   refine VO ?_;refine zN (W_ret ⟨.inr rfl, _, RbA, ?_, rfl⟩);unfold cmpZ; rw [if_neg hg, if_neg hg2]
theorem cmp_fn {spec : CallF} (hs : SpecSort spec) {h : H} {a b : S66} (ok : Ok h) : WF Try.prog spec 96 [.agg [.i .i64 a.f0, .i .i64 a.f1], .agg [.i .i64 b.f0, .i .i64 b.f1]] h fun v h1 => (∃ t, Lf.share_Parts_1.f a.f0 a.f1 b.f0 b.f1 = some t ∧ v = .one (.i .i64 t)) ∧ Up (· < h.next) h h1 ∧ Ok h1 := by
 refine WF_of Try.func96 rfl (hs.s48 _ _) (by rw [Try.ntmps96]; simp) (by rw [Try.ntmps96]; decide) ?_;rw [Try.ntmps96, Try.results96];simp only [Sl.setMany_cons, Sl.setMany_nil, Nat.zero_add, Nat.reduceAdd]
 (repeat refine zS ?_); refine zR ?_
 refine WO_boxA (ee) ok Dc fun h1 n1 => ?_;refine WO_boxA (ee) n1.ok Dc fun h2 n2 => ?_;have c1 := n2.up.cells (show h.next < h1.next by have := n1.next; omega) n1.cells;have c2 := n2.cells;have e1 := n1.next;refine VO ?_;refine zN ?_; (repeat refine zS ?_);refine zR ?_
 iterate 4 (first | (refine VX (Gd2 @c1.row @c2.row) ?_) | (refine VO ?_))
 refine WO_fn (ee) (by simp) Dc ((compare_fn hs).mono ?_);rintro r h3 ⟨rfl, rfl⟩;refine VO ?_;refine zN (W_ret ⟨.inr rfl, _, RbA, ⟨cmpZ b.f0 a.f0, ?_, rfl⟩, n1.up.trans (n2.up.mono fun b hb => by omega), n2.ok⟩);unfold Lf.share_Parts_1.f Lf.cmp_Compare_int.f Lf.cmp_isNaN_int.f cmpZ;simp;split
 ·rfl
 ·split <;> rfl
def c66 (l : List S66) : List S := l.flatMap fun p => [.i .i64 p.f0, .i .i64 p.f1]
theorem c66_length (l : List S66) : (c66 l).length = 2 * l.length := by
 induction l with
 | nil => rfl
 | cons x l ih => show ([S.i .i64 x.f0, .i .i64 x.f1] ++ c66 l).length = _; rw [List.length_append, ih]; simp; omega
theorem c66_drop (l : List S66) : ∀ i : Nat, (c66 l).drop (i * 2) = c66 (l.drop i) := by
 induction l with
 | nil => intro i; simp [c66]
 | cons x l ih => intro i; cases i with
  | zero => simp
  | succ i => rw [show (i + 1) * 2 = i * 2 + 2 by omega]; exact ih i
theorem c66_take (l : List S66) : ∀ i : Nat, (c66 l).take (i * 2) = c66 (l.take i) := by
 induction l with
 | nil => intro i; simp [c66]
 | cons x l ih => intro i; cases i with
  | zero => simp [c66]
  | succ i =>
   rw [show (i + 1) * 2 = i * 2 + 2 by omega];show S.i .i64 x.f0 :: S.i .i64 x.f1 :: (c66 l).take (i * 2) = _;rw [ih]; rfl
theorem c66_append (l m : List S66) : c66 (l ++ m) = c66 l ++ c66 m := by simp [c66]
theorem c66_set {l : List S66} {i : Int} (h0 : 0 ≤ i) (h1 : i < (l.length : Int)) (x : S66) : (c66 l).take (i.toNat * 2) ++ [S.i .i64 x.f0, S.i .i64 x.f1] ++ (c66 l).drop (i.toNat * 2 + 2) = c66 (l.set i.toNat x) := by
 rw [List.set_eq_take_append_cons_drop, if_pos Om, c66_append, c66_take, show i.toNat * 2 + 2 = (i.toNat + 1) * 2 by omega, c66_drop, List.append_assoc];rfl
theorem rd_T66_at {l : List S66} {i : Int} (h0 : 0 ≤ i) (h1 : i < (l.length : Int)) : l[i.toNat]? = some (rd_T66 l i) := by
 unfold rd_T66;rw [List.getD_eq_getElem?_getD, List.getElem?_eq_getElem Om]; rfl
theorem c66_row {h : H} {q : Nat} {l : List S66} (hc : Cells h q 141 (c66 l)) {i : Int} (h0 : 0 ≤ i) (h1 : i < (l.length : Int)) : h.row q (i.toNat * 2) 2 = some [.i .i64 (rd_T66 l i).f0, .i .i64 (rd_T66 l i).f1] := by
 rw [hc.row (by rw [c66_length]; omega), c66_drop];have h2 := rd_T66_at h0 h1;obtain ⟨hk, he⟩ := gEi.1 h2;rw [List.drop_eq_getElem_cons hk, he];rfl
theorem IX64I {len : Nat} {i : Int} (h0 : 0 ≤ i) (h1 : i < (len : Int)) (h : H) (b o cap sz : Nat) (ex : Bool) (k : IntKind) : doIndexW Try.prog h 139 (some (.one (.sl b o len cap sz ex))) (some (.one (.i k i))) = some (.val (.one (.p b (o + i.toNat * 2))) h) := ix_sl el139 (j := i.toNat) Om Om
theorem ite_some {α : Type} {c : Prop} [Decidable c] {e : Option α} {r : α} (h : (if c then e else none) = some r) : c ∧ e = some r := by
 by_cases hc : c
 ·rw [if_pos hc] at h; exact ⟨hc, h⟩
 ·rw [if_neg hc] at h; cases h
structure Rs (h : H) (q : Nat) (l : List S66) : Prop where
 c : Cells h q 141 (c66 l)
 may : h.may q = true
 lt : q < h.next
theorem Rs.up {h h1 : H} {q : Nat} {l : List S66} (k : Rs h q l) {p : Nat → Prop} (u : Up p h h1) (hp : p q) : Rs h1 q l := ⟨u.cells hp k.c, by rw [u.may]; exact k.may, Nat.lt_of_lt_of_le k.lt u.next⟩
theorem Rs.put {h h1 : H} {q : Nat} {l : List S66} (k : Rs h q l) {i : Int} (h0 : 0 ≤ i) (hi : i < (l.length : Int)) (x : S66) (p : Put h h1 q 141 ((c66 l).take (i.toNat * 2) ++ [S.i .i64 x.f0, S.i .i64 x.f1] ++ (c66 l).drop (i.toNat * 2 + 2))) : Rs h1 q (l.set i.toNat x) := by
 rw [c66_set h0 hi] at p;exact ⟨p.cells, p.may, by rw [p.next]; exact k.lt⟩
structure Done (h h1 : H) (q n : Nat) (r : List S66) : Prop where
 rs : Rs h1 q r
 len : r.length = n
 up : Up (fun b => b < h.next ∧ b ≠ q) h h1
 ok : Ok h1
theorem Done.trans {a b c : H} {q n : Nat} {r s : List S66} (d : Done a b q n r) (e : Done b c q n s) : Done a c q n s := ⟨e.rs, e.len, d.up.trans (e.up.mono fun x hx => ⟨Nat.lt_of_lt_of_le hx.1 d.up.next, hx.2⟩), e.ok⟩
theorem Done.refl {h : H} {q : Nat} {r : List S66} (k : Rs h q r) (o : Ok h) : Done h h q r.length r := ⟨k, rfl, .refl _ _, o⟩
theorem swap_fn {spec : CallF} (hs : SpecSort spec) {h : H} {q cp : Nat} {ex : Bool} {l r : List S66} {a b n : Int} {fv : S} {k : Nat} {u : Unit} (ok : Ok h) (hr : Rs h q l) (hf : Lf.share_rest_69.f k l a b n u = some r) :
  WF Try.prog spec 103 [.one (.sl q 0 l.length cp 2 ex), .one (.i .i64 a), .one (.i .i64 b), .one (.i .i64 n), .one fv] h fun v h1 => v = .tup [] ∧ Done h h1 q l.length r := by
 refine WF_of Try.func103 rfl (hs.s69 _ _) (by rw [Try.ntmps103]; simp) (by rw [Try.ntmps103]; decide) ?_;rw [Try.ntmps103, Try.results103];simp only [Sl.setMany_cons, Sl.setMany_nil, Nat.zero_add, Nat.reduceAdd]
 (repeat refine zS ?_); refine zR ?_
 refine VO ?_;refine zN ?_; (repeat refine zS ?_);refine zK (W_rounds (fun j T h1 => ∃ l' i, Lf.share_rest_69.l0 j l' a b n i = some r ∧ T.get 0 = some (.one (.sl q 0 l.length cp 2 ex)) ∧ T.get 1 = some (.one (.i .i64 a)) ∧ T.get 2 = some (.one (.i .i64 b)) ∧ T.get 3 = some (.one (.i .i64 n)) ∧ T.get 10 = some (.one (.i .i64 i)) ∧ Done h h1 q l.length l') ?_ k _ _ ⟨l, 0, hf, gs, gs, gs, gs, gs, .refl hr ok⟩);rintro j T h1 ⟨l', i, hf, t0, t1, t2, t3, t10, dn⟩
 cases j with
 | zero => cases hf
 | succ j =>
  simp only [Lf.share_rest_69.l0] at hf
  (repeat refine zS ?_); refine zR ?_
  iterate 2 (refine VX (Ga2 @t3 @t10) ?_)
  (refine VX (zB (Gs2 @t3 @t10) (Gs2 @t3 @t10) zL) ?_)
  refine zN ?_; (repeat refine zS ?_);refine zC (ee) (fun hlt => W_skip ?_) (fun hge => W_exit ?_)
  ·have hlt : i < n := by simpa using hlt
   rw [if_pos hlt] at hf;obtain ⟨g1, hf⟩ := ite_some hf;obtain ⟨g2, hf⟩ := ite_some hf;obtain ⟨g3, hf⟩ := ite_some hf;obtain ⟨g4, hf⟩ := ite_some hf;have hl := dn.len;have r1 := c66_row dn.rs.c g1 g2;have r2 := c66_row dn.rs.c g3 g4;rw [hl] at g2 g4;have rs1 := dn.rs;have o1 := dn.ok
   repeat refine zS ?_
   refine zK ?_;refine W_drawn dr103_3 (by kernel_rfl) o1.floor ?_;unfold dr103_3
   iterate 21 (first | (refine IX rfl (zB (Gs6 @t0 @t1 @t2 @t10 (IX64I g1 g2) (IX64I g3 g4)) (Gs6 @t0 @t1 @t2 @t10 (IX64I g1 g2) (IX64I g3 g4)) zA) ?_; (rw [IntWalk.i64_left])) | (refine IL rfl zF (Gs6 @t0 @t1 @t2 @t10 (IX64I g1 g2) (IX64I g3 g4)) (Gd4 @r1 @r2 (IX64I g1 g2) (IX64I g3 g4)) ?_) | (refine IX rfl (Gd6 @t0 @t1 @t2 @t10 (IX64I g1 g2) (IX64I g3 g4)) ?_) | (refine IX rfl (Ga6 @t0 @t1 @t2 @t10 (IX64I g1 g2) (IX64I g3 g4)) ?_))
   have len1 := c66_length l';refine WI_storeA rfl (ee) (ee) sz141 rfl (by simp) rs1.c rs1.may (by simp only [List.length_cons, List.length_nil]; omega) OffA OffA (H.may_iff rs1.may).1.1 fun h2 p2 => ?_;have rs2 := rs1.put g3 Om ⟨(rd_T66 l' (wrap64 (b + i))).f0, (rd_T66 l' (wrap64 (b + i))).f1⟩ p2;have len2 := c66_length (l'.set (wrap64 (a + i)).toNat ⟨(rd_T66 l' (wrap64 (b + i))).f0, (rd_T66 l' (wrap64 (b + i))).f1⟩);rw [List.length_set] at len2;have e2 := p2.next
   (refine IX rfl (Gd6 @t0 @t1 @t2 @t10 (IX64I g1 g2) (IX64I g3 g4)) ?_)
   refine WI_storeA rfl (ee) (ee) sz141 rfl (by simp) rs2.c rs2.may (by simp only [List.length_cons, List.length_nil]; omega) OffA OffA (H.may_iff rs2.may).1.1 fun h3 p3 => ?_;have rs3 := rs2.put g1 (by rw [List.length_set]; omega) ⟨(rd_T66 l' (wrap64 (a + i))).f0, (rd_T66 l' (wrap64 (a + i))).f1⟩ p3;refine WI_nil ?_; (repeat refine zS ?_);refine zR ?_
   iterate 3 (first | (refine VX (zB (Gs1 @t10) (Gs1 @t10) zA) ?_; (rw [IntWalk.i64_left])) | (refine VX (Ga1 @t10) ?_))
   refine zN ⟨j, Nat.lt_succ_self _, _, _, hf, gt t0, gt t1, gt t2, gt t3, gs, rs3, by simp [hl], dn.up.trans ((p2.up.trans p3.up).mono fun b hb => hb.2), p3.ok (p2.ok o1)⟩
  ·have hge : ¬ i < n := by simpa using hge
   rw [if_neg hge] at hf;cases hf;exact ⟨fun _ => ⟨.inl rfl, V.tup [], RbA, rfl, dn⟩, fun hne => absurd rfl hne⟩
theorem bind_some {α β : Type} {x : Option α} {f : α → Option β} {r : β} (h : x.bind f = some r) : ∃ y, x = some y ∧ f y = some r := Option.bind_eq_some_iff.1 h
theorem rotate_fn {spec : CallF} (hs : SpecSort spec) {h : H} {q cp : Nat} {ex : Bool} {l r : List S66} {a m b : Int} {fv : S} {k : Nat} {u : Unit} (ok : Ok h) (hr : Rs h q l) (hf : Lf.share_rest_67.f k l a m b u = some r) :
  WF Try.prog spec 102 [.one (.sl q 0 l.length cp 2 ex), .one (.i .i64 a), .one (.i .i64 m), .one (.i .i64 b), .one fv] h fun v h1 => v = .tup [] ∧ Done h h1 q l.length r := by
 refine WF_of Try.func102 rfl (hs.s67 _ _) (by rw [Try.ntmps102]; simp) (by rw [Try.ntmps102]; decide) ?_;rw [Try.ntmps102, Try.results102];simp only [Sl.setMany_cons, Sl.setMany_nil, Nat.zero_add, Nat.reduceAdd]
 (repeat refine zS ?_); refine zR ?_
 iterate 4 (first | (refine VX (zB ee ee in_sub) ?_; (rw [IntWalk.i64_left])) | (refine VO ?_))
 refine zN ?_; (repeat refine zS ?_);refine zR ?_
 iterate 4 (first | (refine VX (zB ee ee in_sub) ?_; (rw [IntWalk.i64_left])) | (refine VO ?_))
 refine zN ?_; (repeat refine zS ?_);refine zK (W_rounds (fun j T h1 => ∃ l' x10 x11, Lf.share_rest_67.l0 j l' m u x10 x11 = some r ∧ T.get 0 = some (.one (.sl q 0 l.length cp 2 ex)) ∧ T.get 2 = some (.one (.i .i64 m)) ∧ T.get 4 = some (.one fv) ∧ T.get 10 = some (.one (.i .i64 x10)) ∧ T.get 11 = some (.one (.i .i64 x11)) ∧ Done h h1 q l.length l') ?_ k _ _ ⟨l, _, _, hf, gs, gs, gs, gs, gs, .refl hr ok⟩);rintro j T h1 ⟨l', x10, x11, hf, t0, t2, t4, t10, t11, dn⟩
 cases j with
 | zero => cases hf
 | succ j =>
  simp only [Lf.share_rest_67.l0] at hf;have hl := dn.len
  (repeat refine zS ?_); refine zR ?_
  iterate 2 (refine VX (Ga2 @t10 @t11) ?_)
  (refine VX (zB (Gs2 @t10 @t11) (Gs2 @t10 @t11) in_neq) ?_)
  refine zN ?_; (repeat refine zS ?_);refine zC (ee) (fun hlt => W_skip ?_) (fun hge => W_exit ?_)
  ·have hlt : ¬ x10 = x11 := by simpa using hlt
   rw [if_neg hlt] at hf
   repeat refine zS ?_
   refine zK ?_
   (repeat refine zS ?_); refine zR ?_
   iterate 2 (refine VX (Ga2 @t10 @t11) ?_)
   (refine VX (zB (Gs2 @t10 @t11) (Gs2 @t10 @t11) in_gtr) ?_)
   refine zN ?_; (repeat refine zS ?_);refine zC (ee) (fun hg => ?_) (fun hg => ?_)
   ·have hg : x10 > x11 := by simpa using hg
    rw [if_pos hg] at hf;obtain ⟨y, hy, hf⟩ := bind_some hf
    (repeat refine zS ?_); refine zR ?_
    iterate 7 (first | (refine VX (zB (Gs5 @t0 @t2 @t4 @t10 @t11) (Gs5 @t0 @t2 @t4 @t10 @t11) in_sub) ?_; (rw [IntWalk.i64_left])) | (refine VX (Ga5 @t0 @t2 @t4 @t10 @t11) ?_))
    refine WO_fn (Gt5 @t0 @t2 @t4 @t10 @t11) (by simp) Dc (((hl ▸ swap_fn hs dn.ok dn.rs hy : WF Try.prog spec 103 [.one (.sl q 0 l.length cp 2 ex), .one (.i .i64 (wrap64 (m - x10))), .one (.i .i64 m), .one (.i .i64 x11), .one fv] h1 fun v h2 => v = .tup [] ∧ Done h1 h2 q l.length y)).mono ?_);rintro v h2 ⟨rfl, d2⟩
    skip
    refine zN ?_; (repeat refine zS ?_);refine zR ?_
    iterate 4 (first | (refine VX (zB (Gs2 @t10 @t11) (Gs2 @t10 @t11) in_sub) ?_; (rw [IntWalk.i64_left])) | (refine VX (Ga2 @t10 @t11) ?_))
    exact zN ⟨j, Nat.lt_succ_self _, y, _, _, hf, gt t0, gt t2, gt t4, gs, gt t11, dn.trans d2⟩
   ·have hg : ¬ x10 > x11 := by simpa using hg
    rw [if_neg hg] at hf;obtain ⟨y, hy, hf⟩ := bind_some hf
    (repeat refine zS ?_); refine zR ?_
    iterate 11 (first | (refine VX (zB (Gs5 @t0 @t2 @t4 @t10 @t11) (Gs5 @t0 @t2 @t4 @t10 @t11) in_sub) ?_; (rw [IntWalk.i64_left])) | (refine VX (zB (Gs5 @t0 @t2 @t4 @t10 @t11) (Gs5 @t0 @t2 @t4 @t10 @t11) zA) ?_; (rw [IntWalk.i64_left])) | (refine VX (Ga5 @t0 @t2 @t4 @t10 @t11) ?_))
    refine WO_fn (Gt5 @t0 @t2 @t4 @t10 @t11) (by simp) Dc (((hl ▸ swap_fn hs dn.ok dn.rs hy : WF Try.prog spec 103 [.one (.sl q 0 l.length cp 2 ex), .one (.i .i64 (wrap64 (m - x10))), .one (.i .i64 (wrap64 (wrap64 (m + x11) - x10))), .one (.i .i64 x10), .one fv] h1 fun v h2 => v = .tup [] ∧ Done h1 h2 q l.length y)).mono ?_);rintro v h2 ⟨rfl, d2⟩
    skip
    refine zN ?_; (repeat refine zS ?_);refine zR ?_
    iterate 4 (first | (refine VX (zB (Gs2 @t10 @t11) (Gs2 @t10 @t11) in_sub) ?_; (rw [IntWalk.i64_left])) | (refine VX (Ga2 @t10 @t11) ?_))
    exact zN ⟨j, Nat.lt_succ_self _, y, _, _, hf, gt t0, gt t2, gt t4, gt t10, gs, dn.trans d2⟩
  ·have hge : x10 = x11 := by simpa using hge
   rw [if_pos hge] at hf;obtain ⟨y, hy, hf⟩ := bind_some hf;cases hf;refine ⟨fun _ => ?_, fun hne => absurd rfl hne⟩
   (repeat refine zS ?_); refine zR ?_
   iterate 7 (first | (refine VX (zB (Gs5 @t0 @t2 @t4 @t10 @t11) (Gs5 @t0 @t2 @t4 @t10 @t11) in_sub) ?_; (rw [IntWalk.i64_left])) | (refine VX (Ga5 @t0 @t2 @t4 @t10 @t11) ?_))
   refine WO_fn (Gt5 @t0 @t2 @t4 @t10 @t11) (by simp) Dc (((hl ▸ swap_fn hs dn.ok dn.rs hy : WF Try.prog spec 103 [.one (.sl q 0 l.length cp 2 ex), .one (.i .i64 (wrap64 (m - x10))), .one (.i .i64 m), .one (.i .i64 x10), .one fv] h1 fun v h2 => v = .tup [] ∧ Done h1 h2 q l.length r)).mono ?_);rintro v h2 ⟨rfl, d2⟩;exact zN ⟨.inl rfl, V.tup [], RbA, rfl, dn.trans d2⟩
theorem Done.above {h h1 h2 : H} {q n : Nat} {r : List S66} (d : Done h h1 q n r) (u : Up (· < h1.next) h1 h2) (o : Ok h2) : Done h h2 q n r := ⟨d.rs.up u d.rs.lt, d.len, d.up.trans (u.mono fun b hb => Nat.lt_of_lt_of_le hb.1 d.up.next), o⟩
theorem insert_fn {spec : CallF} (hs : SpecSort spec) {h : H} {q cp : Nat} {ex : Bool} {l r : List S66} {a b : Int} {k : Nat} {u : Unit} (ok : Ok h) (hr : Rs h q l) (hf : Lf.share_rest_63.f k l a b u = some r) :
  WF Try.prog spec 100 [.one (.sl q 0 l.length cp 2 ex), .one (.i .i64 a), .one (.i .i64 b), .one (.fn0 96)] h fun v h1 => v = .tup [] ∧ Done h h1 q l.length r := by
 refine WF_of Try.func100 rfl (hs.s63 _ _) (by rw [Try.ntmps100]; simp) (by rw [Try.ntmps100]; decide) ?_;rw [Try.ntmps100, Try.results100];simp only [Sl.setMany_cons, Sl.setMany_nil, Nat.zero_add, Nat.reduceAdd]
 (repeat refine zS ?_); refine zR ?_
 refine VO ?_
 (refine VX (zB ee ee zA) ?_; (rw [IntWalk.i64_left]))
 refine VO ?_;refine zN ?_; (repeat refine zS ?_);refine zK (W_rounds (fun j T h1 => ∃ l' x8, Lf.share_rest_63.l0 j l' a b x8 = some r ∧ T.get 0 = some (.one (.sl q 0 l.length cp 2 ex)) ∧ T.get 1 = some (.one (.i .i64 a)) ∧ T.get 2 = some (.one (.i .i64 b)) ∧ T.get 3 = some (.one (.fn0 96)) ∧ T.get 8 = some (.one (.i .i64 x8)) ∧ Done h h1 q l.length l') ?_ k _ _ ⟨l, _, hf, gs, gs, gs, gs, gs, .refl hr ok⟩);rintro j T h1 ⟨l', x8, hf, t0, t1, t2, t3, t8, dn⟩
 cases j with
 | zero => cases hf
 | succ j =>
  simp only [Lf.share_rest_63.l0] at hf
  (repeat refine zS ?_); refine zR ?_
  iterate 2 (refine VX (Ga2 @t2 @t8) ?_)
  (refine VX (zB (Gs2 @t2 @t8) (Gs2 @t2 @t8) zL) ?_)
  refine zN ?_; (repeat refine zS ?_);refine zC (ee) (fun hlt => W_skip ?_) (fun hge => W_exit ?_)
  ·have hlt : x8 < b := by simpa using hlt
   rw [if_pos hlt] at hf
   repeat refine zS ?_
   refine zK ?_
   (repeat refine zS ?_); refine zR ?_
   iterate 2 (refine VX (Ga1 @t8) ?_)
   refine zN ?_; (repeat refine zS ?_);refine zK (W_rounds (fun i T h1 => i ≤ j ∧ ∃ l' x9, Lf.share_rest_63.l1 i l' a b x8 x9 = some r ∧ T.get 0 = some (.one (.sl q 0 l.length cp 2 ex)) ∧ T.get 1 = some (.one (.i .i64 a)) ∧ T.get 2 = some (.one (.i .i64 b)) ∧ T.get 3 = some (.one (.fn0 96)) ∧ T.get 8 = some (.one (.i .i64 x8)) ∧ T.get 9 = some (.one (.i .i64 x9)) ∧ Done h h1 q l.length l') ?_ j _ _ ⟨Nat.le_refl _, l', x8, hf, gt t0, gt t1, gt t2, gt t3, gt t8, gs, dn⟩);clear t0 t1 t2 t3 t8 dn hf;rintro i T h1 ⟨hi, l', x9, hf, t0, t1, t2, t3, t8, t9, dn⟩
   cases i with
   | zero => cases hf
   | succ i =>
    simp only [Lf.share_rest_63.l1] at hf;have rs1 := dn.rs;have o1 := dn.ok;have hl := dn.len
    have out : ∀ {l' : List S66} (T' : Sl) (h2 : H), Lf.share_rest_63.l0 i l' a b (wrap64 (x8 + 1)) = some r → T'.get 0 = some (.one (.sl q 0 l.length cp 2 ex)) → T'.get 1 = some (.one (.i .i64 a)) → T'.get 2 = some (.one (.i .i64 b)) → T'.get 3 = some (.one (.fn0 96)) → T'.get 8 = some (.one (.i .i64 (wrap64 (x8 + 1)))) → Done h h2 q l.length l' → ∃ i, i < j + 1 ∧ ∃ l' x8, Lf.share_rest_63.l0 i l' a b x8 = some r ∧ T'.get 0 = some (.one (.sl q 0 l.length cp 2 ex)) ∧ T'.get 1 = some (.one (.i .i64 a)) ∧ T'.get 2 = some (.one (.i .i64 b)) ∧ T'.get 3 = some (.one (.fn0 96)) ∧ T'.get 8 = some (.one (.i .i64 x8)) ∧ Done h h2 q l.length l' :=
     fun T' h2 q1 q2 q3 q4 q5 q6 q7 => ⟨i, by omega, _, _, q1, q2, q3, q4, q5, q6, q7⟩
    repeat refine zS ?_
    refine W_drawn dr100_4 (by kernel_rfl) o1.floor ?_;unfold dr100_4
    by_cases hg : x9 > a
    ·have hg' : decide (a < x9) = true := decide_eq_true hg;rw [if_pos hg] at hf;obtain ⟨g1, hf⟩ := ite_some hf;obtain ⟨g2, hf⟩ := ite_some hf;obtain ⟨g3, hf⟩ := ite_some hf;obtain ⟨g4, hf⟩ := ite_some hf;obtain ⟨t, ht, hf⟩ := bind_some hf;have r1 := c66_row dn.rs.c g1 g2;have r2 := c66_row dn.rs.c g3 g4;rw [hl] at g2 g4
     iterate 14 (first | (refine IG rfl (zT rfl rfl (Gs9 @t0 @t1 @t2 @t3 @t8 @t9 @hg' (IX64I g1 g2) (IX64I g3 g4)) rfl) (zB (Gs9 @t0 @t1 @t2 @t3 @t8 @t9 @hg' (IX64I g1 g2) (IX64I g3 g4)) (Gs9 @t0 @t1 @t2 @t3 @t8 @t9 @hg' (IX64I g1 g2) (IX64I g3 g4)) in_sub) ?_; (rw [IntWalk.i64_left])) | (refine IX rfl (zB (Gs9 @t0 @t1 @t2 @t3 @t8 @t9 @hg' (IX64I g1 g2) (IX64I g3 g4)) (Gs9 @t0 @t1 @t2 @t3 @t8 @t9 @hg' (IX64I g1 g2) (IX64I g3 g4)) in_gtr) ?_) | (refine IL rfl (zT rfl rfl (Gs9 @t0 @t1 @t2 @t3 @t8 @t9 @hg' (IX64I g1 g2) (IX64I g3 g4)) rfl) (Gs9 @t0 @t1 @t2 @t3 @t8 @t9 @hg' (IX64I g1 g2) (IX64I g3 g4)) (Gd4 @r1 @r2 (IX64I g1 g2) (IX64I g3 g4)) ?_) | (refine IN rfl (zG rfl rfl (Gs9 @t0 @t1 @t2 @t3 @t8 @t9 @hg' (IX64I g1 g2) (IX64I g3 g4)) rfl) ?_) | (refine IG rfl (zT rfl rfl (Gs9 @t0 @t1 @t2 @t3 @t8 @t9 @hg' (IX64I g1 g2) (IX64I g3 g4)) rfl) (Ga9 @t0 @t1 @t2 @t3 @t8 @t9 @hg' (IX64I g1 g2) (IX64I g3 g4)) ?_) | (refine IG rfl (zT rfl rfl (Gs9 @t0 @t1 @t2 @t3 @t8 @t9 @hg' (IX64I g1 g2) (IX64I g3 g4)) rfl) (Gd9 @t0 @t1 @t2 @t3 @t8 @t9 @hg' (IX64I g1 g2) (IX64I g3 g4)) ?_) | (refine IX rfl (Ga9 @t0 @t1 @t2 @t3 @t8 @t9 @hg' (IX64I g1 g2) (IX64I g3 g4)) ?_))
     refine WI_callG rfl (zT rfl rfl (Gs1 @hg') rfl) rfl (doCall_val (ee) (ee) (by simp)) Dc ((cmp_fn hs (o1.fenced (fun b hb => OffA) (fun b hb => by have := rs1.lt; (try simp only [cond_true, cond_false]); repeat (first | exact Off.nil | refine Off.seen rfl ?_ | refine Off.off Om ?_)) o1.floor)).mono ?_);rintro v h2 ⟨⟨t', ht', rfl⟩, u2, o2⟩;obtain rfl : t' = t := by rw [ht] at ht'; cases ht'; rfl
     have u3 := u2.back;have o3 := o1.back u2;have e3 : (h1.back h2).next = h2.next := rfl;change Up (· < h1.next) h1 _ at u3;clear u2 o2;have d3 := dn.above u3 o3;clear u3;generalize h1.back h2 = h3 at *
     first | (refine IN rfl (zG rfl rfl (Gs1 @hg') rfl) ?_) | (refine IG rfl (zT rfl rfl (Gs1 @hg') rfl) (zB (Gs1 @hg') (Gs1 @hg') zL) ?_)
     (refine IX rfl (Ga1 @hg') ?_)
     refine WI_nil ?_; (repeat refine zS ?_);refine zC (Gt1 @hg') (fun hc => W_skip ?_) (fun hc => W_exit ?_)
     ·have hc : t' < 0 := by simpa using hc
      rw [if_pos hc] at hf;have rs3 := d3.rs;have hl3 := d3.len;have r1 := c66_row rs3.c g1 Om;have r2 := c66_row rs3.c g3 Om;have len1 := c66_length l'
      repeat refine zS ?_
      refine zK ?_;refine W_drawn dr100_6 (by kernel_rfl) o3.floor ?_;unfold dr100_6
      iterate 15 (first | (refine IX rfl (zB (Gs4 @t0 @t9 (IX64I g1 g2) (IX64I g3 g4)) (Gs4 @t0 @t9 (IX64I g1 g2) (IX64I g3 g4)) in_sub) ?_; (rw [IntWalk.i64_left])) | (refine IL rfl zF (Gs4 @t0 @t9 (IX64I g1 g2) (IX64I g3 g4)) (Gd2 @r1 @r2) ?_) | (refine IX rfl (Gd4 @t0 @t9 (IX64I g1 g2) (IX64I g3 g4)) ?_) | (refine IX rfl (Ga4 @t0 @t9 (IX64I g1 g2) (IX64I g3 g4)) ?_))
      refine WI_storeA rfl (ee) (ee) sz141 rfl (by simp) rs3.c rs3.may (by simp only [List.length_cons, List.length_nil]; omega) OffA OffA (H.may_iff rs3.may).1.1 fun h4 p4 => ?_;have rs4 := rs3.put g1 Om ⟨(rd_T66 l' (wrap64 (x9 - 1))).f0, (rd_T66 l' (wrap64 (x9 - 1))).f1⟩ p4;have len2 := c66_length (l'.set x9.toNat ⟨(rd_T66 l' (wrap64 (x9 - 1))).f0, (rd_T66 l' (wrap64 (x9 - 1))).f1⟩);rw [List.length_set] at len2;have e4 := p4.next
      (refine IX rfl (Gd4 @t0 @t9 (IX64I g1 g2) (IX64I g3 g4)) ?_)
      refine WI_storeA rfl (ee) (ee) sz141 rfl (by simp) rs4.c rs4.may (by simp only [List.length_cons, List.length_nil]; omega) OffA OffA (H.may_iff rs4.may).1.1 fun h5 p5 => ?_;have rs5 := rs4.put g3 (by rw [List.length_set]; omega) ⟨(rd_T66 l' x9).f0, (rd_T66 l' x9).f1⟩ p5;refine WI_nil ?_; (repeat refine zS ?_);refine zR ?_
      iterate 3 (first | (refine VX (zB (Gs1 @t9) (Gs1 @t9) in_sub) ?_; (rw [IntWalk.i64_left])) | (refine VX (Ga1 @t9) ?_))
      exact zN ⟨i, Nat.lt_succ_self _, by omega, _, _, hf, gt t0, gt t1, gt t2, gt t3, gt t8, gs, rs5, by simp [hl3], d3.up.trans ((p4.up.trans p5.up).mono fun b hb => hb.2), p5.ok (p4.ok o3)⟩
     ·have hc : ¬ t' < 0 := by simpa using hc
      rw [if_neg hc] at hf;refine ⟨fun _ => ?_, fun hne => absurd rfl hne⟩
      (repeat refine zS ?_); refine zR ?_
      iterate 3 (first | (refine VX (zB (Gs1 @t8) (Gs1 @t8) zA) ?_; (rw [IntWalk.i64_left])) | (refine VX (Ga1 @t8) ?_))
      exact zN (out _ _ hf (gt t0) (gt t1) (gt t2) (gt t3) (gs) d3)
    ·have hg' : decide (a < x9) = false := decide_eq_false hg;rw [if_neg hg] at hf
     iterate 14 (first | (refine IG rfl (zT rfl rfl (Gs3 @t1 @t9 @hg') rfl) (zB (Gs3 @t1 @t9 @hg') (Gs3 @t1 @t9 @hg') in_sub) ?_; (rw [IntWalk.i64_left])) | (refine IX rfl (zB (Gs3 @t1 @t9 @hg') (Gs3 @t1 @t9 @hg') in_gtr) ?_) | (refine IL rfl (zT rfl rfl (Gs3 @t1 @t9 @hg') rfl) (Gs3 @t1 @t9 @hg') Gd0 ?_) | (refine IN rfl (zG rfl rfl (Gs3 @t1 @t9 @hg') rfl) ?_) | (refine IG rfl (zT rfl rfl (Gs3 @t1 @t9 @hg') rfl) (Ga3 @t1 @t9 @hg') ?_) | (refine IG rfl (zT rfl rfl (Gs3 @t1 @t9 @hg') rfl) (Gd3 @t1 @t9 @hg') ?_) | (refine IX rfl (Ga3 @t1 @t9 @hg') ?_))
     refine WI_notV rfl (wantB_false rfl rfl (Gs1 @hg') rfl) Dc ?_
     first | (refine IN rfl (zG rfl rfl (Gs1 @hg') rfl) ?_) | (refine IG rfl (zT rfl rfl (Gs1 @hg') rfl) (zB (Gs1 @hg') (Gs1 @hg') zL) ?_)
     (refine IX rfl (Ga1 @hg') ?_)
     refine WI_nil ?_; (repeat refine zS ?_);refine zC (Gt1 @hg') (fun hc => by cases hc) (fun hc => W_exit ?_);refine ⟨fun _ => ?_, fun hne => absurd rfl hne⟩
     (repeat refine zS ?_); refine zR ?_
     iterate 3 (first | (refine VX (zB (Gs1 @t8) (Gs1 @t8) zA) ?_; (rw [IntWalk.i64_left])) | (refine VX (Ga1 @t8) ?_))
     exact zN (out _ _ hf (gt t0) (gt t1) (gt t2) (gt t3) (gs) dn)
  ·have hge : ¬ x8 < b := by simpa using hge
   rw [if_neg hge] at hf;cases hf;exact ⟨fun _ => ⟨.inl rfl, V.tup [], RbA, rfl, dn⟩, fun hne => absurd rfl hne⟩
end Go.Ai
