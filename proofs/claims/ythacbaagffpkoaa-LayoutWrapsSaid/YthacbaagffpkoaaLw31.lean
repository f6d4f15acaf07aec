/-
LayoutWraps, part 31 of 48: FxLayQ.
-/
import Derived.Test.YthacbaagffpkoaaLw30
set_option linter.unusedVariables false
set_option linter.unusedSimpArgs false
set_option maxRecDepth 100000
set_option maxHeartbeats 0
namespace Go.Ai
open Go.Proofs
theorem spread1_fn {spec : CallF} (hs : SpecLay spec) {h : H} {n : Nat} {rest how : Int} (ok : Ok h) (hn : n ≤ 1000) (hr : 0 ≤ rest ∧ rest ≤ 1099511627776) :
  WF Try.prog spec 88 [.one (.i .i64 (n : Int)), .one (.i .i64 rest), .one (.i .i64 how)] h fun r h1 => r = .tup [(false, [.i .i64 (spreadI n rest how).1]), (false, [.i .i64 (spreadI n rest how).2])] ∧ h1 = h := by
 have td : ∀ c, rest.tdiv c = rest / c := fun c => Int.tdiv_eq_ediv_of_nonneg hr.1
 refine WF_of Try.func88 rfl (hs.s _ _ _) (by rw [Try.ntmps88]; simp) (by rw [Try.ntmps88]; decide) ?_;rw [Try.ntmps88, Try.results88];simp only [Sl.setMany_cons, Sl.setMany_nil, Nat.zero_add, Nat.reduceAdd]
 (repeat refine zS ?_); refine zR ?_
 iterate 2 (refine VO ?_)
 refine zN ?_; (repeat refine zS ?_);refine zR ?_;refine VO ?_;refine zN ?_; (repeat refine zS ?_);refine W_cutR (fun _ h1 => h1 = h ∧ spreadI n rest how = (0, 0)) ?_ ?_
 ·refine zK ?_
  (repeat refine zS ?_); refine zR ?_
  (refine VX (zB ee ee in_eql) ?_)
  refine VO ?_;refine zN ?_; (repeat refine zS ?_);refine zC (ee) (fun c1 => ?_) (fun c1 => ?_)
  ·have c1 : how = 1 := by simpa using c1
   (repeat refine zS ?_); refine zR ?_
   iterate 3 (refine VO ?_)
   refine zN (W_ret (.inr ⟨by simp, .inr rfl, _, RbA, ?_, rfl⟩));unfold spreadI; rw [if_pos c1]
  have c1 : ¬ how = 1 := by simpa using c1
  (repeat refine zS ?_); refine zR ?_
  (refine VX (zB ee ee in_eql) ?_)
  refine VO ?_;refine zN ?_; (repeat refine zS ?_);refine zC (ee) (fun c2 => ?_) (fun c2 => ?_)
  ·have c2 : how = 2 := by simpa using c2
   (repeat refine zS ?_); refine zR ?_
   iterate 4 (first | (refine VX (ex_quo Gs0 Gs0 (by first | decide | assumption)) ?_; (try rw [zI Om Om])) | (refine VO ?_))
   refine zN (W_ret (.inr ⟨by simp, .inr rfl, _, RbA, ?_, rfl⟩));unfold spreadI; rw [if_neg c1, if_pos c2, wrap_div hr Om]
  have c2 : ¬ how = 2 := by simpa using c2
  (repeat refine zS ?_); refine zR ?_
  (refine VX (zB ee ee in_eql) ?_)
  refine VO ?_;refine zN ?_; (repeat refine zS ?_);refine zC (ee) (fun c3 => ?_) (fun c3 => ?_)
  ·have c3 : how = 3 := by simpa using c3
   (repeat refine zS ?_); refine zR ?_
   refine VO ?_
   (refine VX (zB ee ee in_gtr) ?_)
   refine zN ?_; (repeat refine zS ?_);refine zC (ee) (fun c4 => ?_) (fun c4 => W_skip ?_)
   ·have c4 : 1 < n := by have : (1 : Int) < (n : Int) := by simpa using c4
                          omega
    have c5 : (n : Int) - 1 ≠ 0 := by omega
    repeat refine zS ?_
    refine W_drawn dr88_8 (by kernel_rfl) ok.floor ?_;unfold dr88_8
    iterate 6 (first | (refine IX rfl (zB ee ee in_sub) ?_; (try rw [zI Om Om])) | (refine IX rfl (ex_quo Gs0 Gs0 (by first | decide | assumption)) ?_; (try rw [zI Om Om])) | (refine zO rfl ?_))
    refine WI_nil (W_ret (.inr ⟨by simp, .inr rfl, _, RbA, ?_, rfl⟩));unfold spreadI; rw [if_neg c1, if_neg c2, if_pos c3, if_pos c4, wrap_div hr Om]
   ·have c4 : ¬ 1 < n := by have : ¬ (1 : Int) < (n : Int) := by simpa using c4
                            omega
    refine .inl ⟨rfl, rfl, ?_⟩;unfold spreadI; rw [if_neg c1, if_neg c2, if_pos c3, if_neg c4]
  have c3 : ¬ how = 3 := by simpa using c3
  (repeat refine zS ?_); refine zR ?_
  (refine VX (zB ee ee in_eql) ?_)
  refine VO ?_;refine zN ?_; (repeat refine zS ?_);refine zC (ee) (fun c4 => ?_) (fun c4 => W_skip ?_)
  ·have c4 : how = 4 := by simpa using c4
   (repeat refine zS ?_); refine zR ?_
   refine VO ?_
   (refine VX (zB ee ee in_gtr) ?_)
   refine zN ?_; (repeat refine zS ?_);refine zC (ee) (fun c5 => ?_) (fun c5 => W_skip ?_)
   ·have c5 : 0 < n := by have : (0 : Int) < (n : Int) := by simpa using c5
                          omega
    have c6 : (n : Int) ≠ 0 := by omega
    have hd := div_co hr (c := (n : Int)) Om;have td2 : (rest / (n : Int)).tdiv 2 = rest / (n : Int) / 2 := Int.tdiv_eq_ediv_of_nonneg hd.1
    repeat refine zS ?_
    refine W_drawn dr88_11 (by kernel_rfl) ok.floor ?_;unfold dr88_11
    iterate 9 (first | (refine IX rfl (ex_quo Gs0 Gs0 (by first | decide | assumption)) ?_; (try rw [zI Om Om])) | (refine zO rfl ?_))
    refine WI_nil (W_ret (.inr ⟨by simp, .inr rfl, _, RbA, ?_, rfl⟩));unfold spreadI; rw [if_neg c1, if_neg c2, if_neg c3, if_pos c4, if_pos c5, wrap_div hr Om]
    try rw [wrap_div hd Om]
    try rw [td2]
   ·have c5 : ¬ 0 < n := by have : ¬ (0 : Int) < (n : Int) := by simpa using c5
                            omega
    refine .inl ⟨rfl, rfl, ?_⟩;unfold spreadI; rw [if_neg c1, if_neg c2, if_neg c3, if_pos c4, if_neg c5]
  ·have c4 : ¬ how = 4 := by simpa using c4
   refine .inl ⟨rfl, rfl, ?_⟩;unfold spreadI; rw [if_neg c1, if_neg c2, if_neg c3, if_neg c4]
 rintro T h1 ⟨rfl, hsp⟩
 (repeat refine zS ?_); refine zR ?_
 iterate 2 (refine VO ?_)
 exact zN (W_ret ⟨.inr rfl, _, RbA, by rw [hsp], rfl⟩)
def spreadL (l : List Int) (gap room how : Int) : List Int :=
 rowI [gap, (spreadI l.length (restI room (sumI l gap)) how).2] (spreadI l.length (restI room (sumI l gap)) how).1 l
theorem sumI_co (l : List Int) (gap : Int) : CO (sumI l gap) := lineF_in (gap := gap) (l := l) (p := (false, 0)) (by simp)
theorem Grown.from0 {h : H} {v : S} {n0 m0 e s : Nat} {xs : List S} (k : Grown h v n0 e s xs) (hm : m0 ≤ n0) : Grown h v m0 e s xs := by
 rcases k with q | ⟨q, n, rfl, p1, p2, p3, p4, p5, p6⟩
 ·exact .inl q
 ·exact .inr ⟨q, n, rfl, p1, p2, p3, p4, by omega, p6⟩
theorem spreadL_fn {spec : CallF} (hs : SpecLay spec) {h : H} {v : S} {l : List Int} {gap room how : Int} (ok : Ok h) (hi : IntsAt h v l) (hn : l.length ≤ 1000) (hl : ∀ x ∈ l, CO x) (hg : CO gap) (hrm : CO room) :
  WF Try.prog spec 75 [.one v, .one (.i .i64 gap), .one (.i .i64 room), .one (.i .i64 how)] h fun r h1 => ∃ x, r = .one x ∧ Grown h1 x h.next 3 1 (nums (spreadL l gap room how)) ∧ Up (· < h.next) h h1 ∧ Ok h1 := by
 have hr := restI_in room (sumI l gap);refine WF_of Try.func75 rfl (hs.s _ _ _) (by rw [Try.ntmps75]; simp) (by rw [Try.ntmps75]; decide) ?_;rw [Try.ntmps75, Try.results75];simp only [Sl.setMany_cons, Sl.setMany_nil, Nat.zero_add, Nat.reduceAdd]
 (repeat refine zS ?_); refine zR ?_
 refine VO ?_;refine zN ?_; (repeat refine zS ?_);refine zR ?_
 iterate 3 (refine VO ?_)
 refine WO_fn (ee) (by simp) Dc ((sum_fn (hs.s _) (hs.s _) (hs.s _) ok hi hn hl hg).mono ?_);rintro _ h1 ⟨rfl, u1, o1⟩;have hn1 := u1.next;refine WO_fn (ee) (by simp) Dc ((rest_fn hs hrm (sumI_co l gap)).mono ?_);rintro _ h1 ⟨rfl, rfl⟩;refine VO ?_;refine zN ?_; (repeat refine zS ?_);refine zR ?_;refine VO ?_;refine zV (hi.len (ee)) Dc ?_
 iterate 2 (refine VO ?_)
 refine WO_fn (ee) (by simp) Dc ((spread1_fn hs o1 hn hr).mono ?_);rintro _ h1 ⟨rfl, rfl⟩;have hsp := spreadI_co (n := l.length) (how := how) hr;unfold spreadL;generalize spreadI l.length (restI room (sumI l gap)) how = p at *
 iterate 5 (refine VO ?_)
 refine zN ?_; (repeat refine zS ?_);refine zR ?_
 iterate 4 (refine VO ?_)
 refine WO_bsN zF el26 ze26 (by simp only [evParts, go_sem, ↓reduceIte, Nat.reduceEqDiff]; rfl) rfl (cells := nums [gap, p.2]) rfl o1 Dc fun h2 n2 => ?_;have e2 := n2.next
 refine WO_fn (ee) (by simp) Dc ((row_fn hs n2.ok ((hi.upLt u1).upLt n2.up) hn hl hsp.1 (bt := [gap, p.2]) n2.cells Om (by
  intro x hx;rcases List.mem_cons.1 hx with rfl | hx
  ·exact hg
  ·rw [List.mem_singleton.1 hx]; exact hsp.2) (by simp)).mono ?_)
 rintro r h3 ⟨x, rfl, g3, u3, o3⟩;refine VO ?_;exact zN (W_ret ⟨.inr rfl, _, RbA, x, rfl, g3.from0 Om, u1.trans ((n2.up.mono fun b hb => by omega).trans (u3.mono fun b hb => by omega)), o3⟩)
def acrossI (size room how : Int) : Int × Int :=
 if how = 1 then (0, size) else if how = 2 then (restI room size, size) else if how = 3 then (restI room size / 2, size) else (0, room)
theorem across_fn {spec : CallF} (hs : SpecLay spec) {h : H} {size room how : Int} (ok : Ok h) (h1 : CO size) (h2 : CO room) :
  WF Try.prog spec 77 [.one (.i .i64 size), .one (.i .i64 room), .one (.i .i64 how)] h fun r h1 => r = .agg [.i .i64 (acrossI size room how).1, .i .i64 (acrossI size room how).2] ∧ Up (· < h.next) h h1 ∧ Ok h1 := by
 have hr := restI_in room size;have hw := wrap_div hr (c := 2) Om;refine WF_of Try.func77 rfl (hs.s _ _ _) (by rw [Try.ntmps77]; simp) (by rw [Try.ntmps77]; decide) ?_;rw [Try.ntmps77, Try.results77];simp only [Sl.setMany_cons, Sl.setMany_nil, Nat.zero_add, Nat.reduceAdd]
 (repeat refine zS ?_); refine zR ?_
 refine WO_alloc zb121 rfl ok Dc fun h3 n3 => ?_;have e3 := n3.next;refine zN ?_; (repeat refine zS ?_);refine zR ?_
 iterate 2 (refine VO ?_)
 refine WO_fn (ee) (by simp) Dc ((rest_fn hs h2 h1).mono ?_);rintro _ h4 ⟨rfl, rfl⟩;refine VO ?_;refine zN ?_; (repeat refine zS ?_);refine zR ?_;refine VO ?_;refine zN ?_; (repeat refine zS ?_)
 have bd : ∀ {T : Sl} {x : Operand} {a : Int} {d : Option Tmp} {ty : TypeId} {ps : String} {af : Array Edge} {g : Option (Nat × Bool)}, ev T x = some (.one (.i .i64 a)) → execO Try.prog T h4 ⟨d, .build 121 #[(1, x)], ty, ps, af, g⟩ = some (.val (.agg [.i .i64 0, .i .i64 a]) h4) := fun hx => by
  rw [ex_build]; exact bd_of (by kernel_rfl : placesOf Try.prog 121 = some [(0, 1), (1, 1)]) zb121 (by simp only [evParts, hx]; rfl) rfl
 have bd2 : ∀ {T : Sl} {x y : Operand} {a b : Int} {d : Option Tmp} {ty : TypeId} {ps : String} {af : Array Edge} {g : Option (Nat × Bool)}, ev T x = some (.one (.i .i64 a)) → ev T y = some (.one (.i .i64 b)) → execO Try.prog T h4 ⟨d, .build 121 #[(0, x), (1, y)], ty, ps, af, g⟩ = some (.val (.agg [.i .i64 a, .i .i64 b]) h4) := fun hx hy => by
  rw [ex_build]; exact bd_of (by kernel_rfl : placesOf Try.prog 121 = some [(0, 1), (1, 1)]) zb121 (by simp only [evParts, hx, hy]; rfl) rfl
 have st : ∀ {xs : List S} {h5 : H}, Put h4 h5 h.next 121 xs → Up (· < h.next) h h5 ∧ Ok h5 := fun p => ⟨n3.up.trans (p.up.mono fun b hb => by omega), p.ok n3.ok⟩
 refine W_cutR (fun T h1 => h1 = h4 ∧ ¬ how = 1 ∧ ¬ how = 2 ∧ ¬ how = 3 ∧ T.get 1 = some (.one (.i .i64 room)) ∧ T.get 6 = some (.one (.p h.next 0))) ?_ ?_
 ·refine zK ?_
  (repeat refine zS ?_); refine zR ?_
  (refine VX (zB ee ee in_eql) ?_)
  refine VO ?_;refine zN ?_; (repeat refine zS ?_);refine zC (ee) (fun c1 => ?_) (fun c1 => ?_)
  ·have c1 : how = 1 := by simpa using c1
   (repeat refine zS ?_); refine zR ?_
   refine VO ?_;refine zV (bd (ee)) Dc ?_;refine WO_storeA (ee) (ee) sz121 rfl (by simp) n3.cells n3.may (by simp [V.cells]) fun h5 p5 => ?_;have c5 := p5.cells;simp only [V.cells, List.take_succ_cons, List.take_zero, List.drop_succ_cons, List.drop_zero, List.nil_append, List.cons_append, List.append_nil, Nat.reduceAdd, Nat.zero_add] at c5;have r5 : h5.row h.next 0 2 = some _ := c5.all;refine zN (W_ret (.inr ⟨by simp, .inr rfl, _, by (simp only [resultB, resB, parts, V.part, Sl.get_set', ↓reduceIte, Nat.reduceEqDiff, LD121, r5, aggR_some] <;> rfl), ?_, st p5⟩));unfold acrossI; rw [if_pos c1]; rfl
  have c1 : ¬ how = 1 := by simpa using c1
  (repeat refine zS ?_); refine zR ?_
  (refine VX (zB ee ee in_eql) ?_)
  refine VO ?_;refine zN ?_; (repeat refine zS ?_);refine zC (ee) (fun c2 => ?_) (fun c2 => ?_)
  ·have c2 : how = 2 := by simpa using c2
   (repeat refine zS ?_); refine zR ?_
   iterate 2 (refine VO ?_)
   refine zV (bd2 (ee) (ee)) Dc ?_;refine WO_storeA (ee) (ee) sz121 rfl (by simp) n3.cells n3.may (by simp [V.cells]) fun h5 p5 => ?_;have c5 := p5.cells;simp only [V.cells, List.take_succ_cons, List.take_zero, List.drop_succ_cons, List.drop_zero, List.nil_append, List.cons_append, List.append_nil, Nat.reduceAdd, Nat.zero_add] at c5;have r5 : h5.row h.next 0 2 = some _ := c5.all;refine zN (W_ret (.inr ⟨by simp, .inr rfl, _, by (simp only [resultB, resB, parts, V.part, Sl.get_set', ↓reduceIte, Nat.reduceEqDiff, LD121, r5, aggR_some] <;> rfl), ?_, st p5⟩));unfold acrossI; rw [if_neg c1, if_pos c2]; rfl
  have c2 : ¬ how = 2 := by simpa using c2
  (repeat refine zS ?_); refine zR ?_
  (refine VX (zB ee ee in_eql) ?_)
  refine VO ?_;refine zN ?_; (repeat refine zS ?_);refine zC (ee) (fun c3 => ?_) (fun c3 => W_skip ?_)
  ·have c3 : how = 3 := by simpa using c3
   (repeat refine zS ?_); refine zR ?_
   iterate 3 (first | (refine VX (ex_quo Gs0 Gs0 (by first | decide | assumption)) ?_; (try rw [zI Om Om])) | (refine VO ?_))
   refine zV (bd2 (ee) (ee)) Dc ?_;refine WO_storeA (ee) (ee) sz121 rfl (by simp) n3.cells n3.may (by simp [V.cells]) fun h5 p5 => ?_;have c5 := p5.cells;simp only [V.cells, List.take_succ_cons, List.take_zero, List.drop_succ_cons, List.drop_zero, List.nil_append, List.cons_append, List.append_nil, Nat.reduceAdd, Nat.zero_add] at c5;have r5 : h5.row h.next 0 2 = some _ := c5.all;refine zN (W_ret (.inr ⟨by simp, .inr rfl, _, by (simp only [resultB, resB, parts, V.part, Sl.get_set', ↓reduceIte, Nat.reduceEqDiff, LD121, r5, aggR_some] <;> rfl), ?_, st p5⟩));unfold acrossI; rw [if_neg c1, if_neg c2, if_pos c3]
   first | rw [hw] | rw [Int.tdiv_eq_ediv_of_nonneg hr.1]
   rfl
  ·exact .inl ⟨rfl, rfl, c1, c2, by simpa using c3, gs, gs⟩
 rintro T h1 ⟨rfl, c1, c2, c3, t1, t6⟩
 (repeat refine zS ?_); refine zR ?_
 (refine VX (Ga1 @t1) ?_)
 refine zV (bd (ee)) Dc ?_;refine WO_storeA (Gt1 @t6) (ee) sz121 rfl (by simp) n3.cells n3.may (by simp [V.cells]) fun h5 p5 => ?_;have c5 := p5.cells;simp only [V.cells, List.take_succ_cons, List.take_zero, List.drop_succ_cons, List.drop_zero, List.nil_append, List.cons_append, List.append_nil, Nat.reduceAdd, Nat.zero_add] at c5;have r5 : h5.row h.next 0 2 = some _ := c5.all;refine zN (W_ret ⟨.inr rfl, _, by (simp only [resultB, resB, parts, V.part, Sl.get_set', ↓reduceIte, Nat.reduceEqDiff, t6, LD121, r5, aggR_some] <;> rfl), ?_, st p5⟩);unfold acrossI; rw [if_neg c1, if_neg c2, if_neg c3]; rfl
def endI (at_ sizes : List Int) : Int := if at_.length = 0 then 0 else plI (at_.getD (at_.length - 1) 0) (sizes.getD (sizes.length - 1) 0)
theorem getD_get {l : List Int} {i : Nat} (hi : i < l.length) : l[i]? = some (l.getD i 0) := by rw [List.getD_eq_getElem?_getD, List.getElem?_eq_getElem hi]; rfl
theorem end_fn {spec : CallF} (hs : SpecLay spec) {h : H} {v w : S} {l m : List Int} (ok : Ok h) (hi : IntsAt h v l) (hj : IntsAt h w m) (hlm : l.length = m.length) (hn : l.length ≤ 1000) (hl : ∀ x ∈ l, CO x) (hm : ∀ x ∈ m, CO x) :
  WF Try.prog spec 69 [.one v, .one w] h fun r h1 => r = .one (.i .i64 (endI l m)) ∧ Up (· < h.next) h h1 ∧ Ok h1 := by
 refine WF_of Try.func69 rfl (hs.s _ _ _) (by rw [Try.ntmps69]; simp) (by rw [Try.ntmps69]; decide) ?_;rw [Try.ntmps69, Try.results69];simp only [Sl.setMany_cons, Sl.setMany_nil, Nat.zero_add, Nat.reduceAdd]
 (repeat refine zS ?_); refine zR ?_
 refine VO ?_;refine zN ?_; (repeat refine zS ?_);refine zR ?_;refine VO ?_;refine zV (hi.len (ee)) Dc ?_
 (refine VX (zB ee ee in_eql) ?_)
 refine zN ?_; (repeat refine zS ?_);refine zC (ee) (fun hc => ?_) (fun hc => W_skip ?_)
 ·have hc : l.length = 0 := by simpa using hc
  (repeat refine zS ?_); refine zR ?_
  refine VO ?_;refine zN (W_ret ⟨.inr rfl, _, RbA, ?_, .refl _ _, ok⟩);unfold endI; rw [if_pos hc]
 have hc : ¬ l.length = 0 := fun e => by rw [List.length_eq_zero_iff] at e; subst e; simp at hc
 obtain ⟨b, c, ex, rfl, hb, hrl⟩ : ∃ b c ex, v = .sl b 0 l.length c 1 ex ∧ b < h.next ∧ ∀ k x, l[k]? = some x → h.row b k 1 = some [.i .i64 x] := by
  rcases hi with ⟨rfl, _⟩ | q
  ·simp at hc
  ·exact q
 obtain ⟨b2, c2, ex2, rfl, hb2, hrm⟩ : ∃ b c ex, w = .sl b 0 m.length c 1 ex ∧ b < h.next ∧ ∀ k x, m[k]? = some x → h.row b k 1 = some [.i .i64 x] := by
  rcases hj with ⟨rfl, _⟩ | q
  ·simp at hlm; simp [hlm] at hc
  ·exact q
 have gl := getD_get (l := l) (i := l.length - 1) Om;have gm := getD_get (l := m) (i := m.length - 1) Om;have r1 := hrl (m.length - 1) _ (by rw [← hlm]; exact gl);have r2 := hrm _ _ gm;have cl := hl _ (List.mem_of_getElem? gl);have cm := hm _ (List.mem_of_getElem? gm);have q1 : (l.length : Int) - 1 = ((l.length - 1 : Nat) : Int) := by omega
 have q2 : ((l.length - 1 : Nat) : Int) = ((m.length - 1 : Nat) : Int) := by omega
 repeat refine zS ?_
 refine W_drawn dr69_3 (by kernel_rfl) ok.floor ?_;unfold dr69_3
 iterate 12 (first | (refine IX rfl (zB (Gs2 @q1 @q2) (Gs2 @q1 @q2) in_sub) ?_; (try rw [zI Om Om])) | (refine IX rfl (ex_len el26 (Gs2 @q1 @q2)) ?_) | (refine IL rfl zF (Gs2 @q1 @q2) (Gd2 @r1 @r2) ?_) | (refine IX rfl (Gd2 @q1 @q2) ?_) | (refine IX rfl (Ga2 @q1 @q2) ?_))
 refine WI_bs1 rfl el26 ⟨_, ze26⟩ (ee) ok Dc fun h2 n2 => ?_;have e2 := n2.next;refine WI_call rfl rfl (doCall_fn (ee) (by simp)) Dc ((plus1 hs cl cm (n2.cells.fenced OffA)).mono ?_);rintro _ _ ⟨rfl, rfl⟩;simp only [back_fenced, fenced_next]
 (refine zO rfl ?_)
 refine WI_nil (W_ret ⟨.inr rfl, _, RbA, ?_, n2.up, n2.ok⟩);unfold endI; rw [if_neg hc]
def cutI (gap room : Int) : Int → List Int → List Int → List Int
 | _, out, [] => out
 | n, out, s :: l => if out ≠ [] ∧ plusI n [gap, s] ≤ room then cutI gap room (plusI n [gap, s]) (out.set (out.length - 1) (out.getD (out.length - 1) 0 + 1)) l else cutI gap room s (out ++ [1]) l
theorem cutI_nil {gap room n : Int} {out : List Int} : cutI gap room n out [] = out := rfl
theorem cutI_cons {gap room n s : Int} {out l : List Int} : cutI gap room n out (s :: l) = if out ≠ [] ∧ plusI n [gap, s] ≤ room then cutI gap room (plusI n [gap, s]) (out.set (out.length - 1) (out.getD (out.length - 1) 0 + 1)) l else cutI gap room s (out ++ [1]) l := rfl
theorem cut_fn {spec : CallF} (hs : SpecLay spec) {h : H} {v : S} {l : List Int} {gap room : Int} (ok : Ok h) (hi : IntsAt h v l) (hn : l.length ≤ 1000) (hl : ∀ x ∈ l, CO x) (hg : CO gap) :
  WF Try.prog spec 81 [.one v, .one (.i .i64 gap), .one (.i .i64 room)] h fun r h1 => ∃ x, r = .one x ∧ Grown h1 x h.next 3 1 (nums (cutI gap room 0 [] l)) ∧ Up (· < h.next) h h1 ∧ Ok h1 := by
 refine WF_of Try.func81 rfl (hs.s _ _ _) (by rw [Try.ntmps81]; simp) (by rw [Try.ntmps81]; decide) ?_;rw [Try.ntmps81, Try.results81];simp only [Sl.setMany_cons, Sl.setMany_nil, Nat.zero_add, Nat.reduceAdd]
 (repeat refine zS ?_); refine zR ?_
 refine VO ?_;refine zN ?_; (repeat refine zS ?_);refine zR ?_;refine VO ?_;refine zN ?_; (repeat refine zS ?_);refine zR ?_;refine VO ?_;refine zV (hi.len (ee)) Dc ?_;refine VO ?_;refine zN ?_; (repeat refine zS ?_);refine zK (W_rounds (fun j T h1 => ∃ k n x out, j = l.length - k ∧ k ≤ l.length ∧ cutI gap room n out (l.drop k) = cutI gap room 0 [] l ∧ CO n ∧ (∀ y ∈ out, 0 ≤ y ∧ y ≤ (k : Int)) ∧ (out = [] ↔ k = 0) ∧ out.length ≤ k ∧ T.get 1 = some (.one (.i .i64 gap)) ∧ T.get 2 = some (.one (.i .i64 room)) ∧ T.get 6 = some (.one x) ∧ T.get 7 = some (.one (.i .i64 n)) ∧ T.get 11 = some (.one v) ∧ T.get 12 = some (.one (.i .i64 (l.length : Int))) ∧ T.get 13 = some (.one (.i .i64 (k : Int))) ∧ Grown h1 x h.next 3 1 (nums out) ∧ Up (· < h.next) h h1 ∧ Ok h1) ?_ l.length _ _ ⟨0, 0, .sl0, [], rfl, by omega, rfl, by unfold CO; omega, by simp, by simp, by simp, gs, gs, gs, gs, gs, gs, gs, .nil, .refl _ _, ok⟩);rintro j T h1 ⟨k, n, x, out, rfl, hk, hcut, hnc, hob, h0, hol, t1, t2, t6, t7, t11, t12, t13, gx, u1, o1⟩;have hn1 := u1.next
 (repeat refine zS ?_); refine zR ?_
 (refine VX (zB (Gs2 @t12 @t13) (Gs2 @t12 @t13) zL) ?_)
 refine zN ?_; (repeat refine zS ?_);refine zC (ee) (fun hlt => W_skip ?_) (fun hge => W_exit ?_)
 ·have hlt : (k : Int) < (l.length : Int) := by simpa using hlt
  have hlt : k < l.length := by omega
  obtain ⟨y, hy⟩ : ∃ y, l[k]? = some y := ⟨_, List.getElem?_eq_getElem hlt⟩;have hyb := hl y (List.mem_of_getElem? hy)
  have hd : l.drop k = y :: l.drop (k + 1) := by
   obtain ⟨hk', rfl⟩ := gEi.1 hy;exact List.drop_eq_getElem_cons hk'
  rw [hd, cutI_cons] at hcut
  obtain ⟨b, c, ex, rfl, hbn', hrows⟩ : ∃ b c ex, v = .sl b 0 l.length c 1 ex ∧ b < h.next ∧ ∀ k x, l[k]? = some x → h.row b k 1 = some [.i .i64 x] := by
   rcases hi with ⟨rfl, _⟩ | q
   ·simp at hlt
   ·exact q
  have r1 : h1.row b k 1 = some [.i .i64 y] := by rw [u1.row hbn']; exact hrows k y hy
  repeat refine zS ?_
  refine W_cut (fun T2 h2 => ∃ n2 x2 out2, cutI gap room n2 out2 (l.drop (k + 1)) = cutI gap room 0 [] l ∧ CO n2 ∧ (∀ y ∈ out2, 0 ≤ y ∧ y ≤ ((k + 1 : Nat) : Int)) ∧ out2 ≠ [] ∧ out2.length ≤ k + 1 ∧ T2.get 1 = some (.one (.i .i64 gap)) ∧ T2.get 2 = some (.one (.i .i64 room)) ∧ T2.get 6 = some (.one x2) ∧ T2.get 7 = some (.one (.i .i64 n2)) ∧ T2.get 11 = some (.one (.sl b 0 l.length c 1 ex)) ∧ T2.get 12 = some (.one (.i .i64 (l.length : Int))) ∧ T2.get 13 = some (.one (.i .i64 (k : Int))) ∧ Grown h2 x2 h.next 3 1 (nums out2) ∧ Up (· < h.next) h h2 ∧ Ok h2) ?_ ?_
  ·refine zK ?_
   (repeat refine zS ?_); refine zR ?_
   iterate 5 (first | (refine VX (Gd2 @t11 @t13) ?_) | (refine VX (Gd3 @r1 @t11 @t13) ?_) | (refine VX (Ga2 @t11 @t13) ?_))
   refine zN ?_; (repeat refine zS ?_);refine zR ?_
   iterate 3 (refine VX (Ga2 @t1 @t7) ?_)
   refine WO_bsN zF el26 ze26 (by simp only [evParts, go_sem, ↓reduceIte, Nat.reduceEqDiff, t1]; rfl) rfl (cells := nums [gap, y]) rfl o1 Dc fun h2 n2 => ?_;have e2 := n2.next
   refine WO_fn (Gt1 @t7) (by simp) Dc ((plus_fn (hs.s _) (hs.s _) (l := [gap, y]) hnc (by
    intro x hx;rcases List.mem_cons.1 hx with rfl | hx
    ·exact hg
    ·rw [List.mem_singleton.1 hx]; exact hyb) (by simp) (fun k x hx => n2.cells.at1 (nums_get hx))).mono ?_)
   rintro _ h2 ⟨rfl, rfl⟩;have hmb := plusI_co (a := n) (l := [gap, y]) hnc;have g2 := gx.up n2.up fun q hq => (gx.lt hq).2
   have u2 : Up (· < h.next) h h2 := u1.trans (n2.up.mono fun b hb => by omega);generalize plusI n [gap, y] = more at *;refine VO ?_;refine zN ?_; (repeat refine zS ?_);refine W_cut (fun T2 h3 => h3 = h2 ∧ T2.get 1 = some (.one (.i .i64 gap)) ∧ T2.get 2 = some (.one (.i .i64 room)) ∧ T2.get 6 = some (.one x) ∧ T2.get 7 = some (.one (.i .i64 n)) ∧ T2.get 9 = some (.one (.i .i64 y)) ∧ T2.get 10 = some (.one (.i .i64 more)) ∧ T2.get 11 = some (.one (.sl b 0 l.length c 1 ex)) ∧ T2.get 12 = some (.one (.i .i64 (l.length : Int))) ∧ T2.get 13 = some (.one (.i .i64 (k : Int))) ∧ T2.get 29 = some (.one (.b (decide ((0 : Int) < (k : Int)) && !decide (room < more))))) ?_ ?_
   ·refine zR ?_
    (refine VX (Ga2 @t2 @t13) ?_)
    (refine VX (zB (Gs2 @t2 @t13) (Gs2 @t2 @t13) in_gtr) ?_)
    (refine VX (Ga2 @t2 @t13) ?_)
    refine WO_grd rfl rfl (Gs2 @t2 @t13) (fun c1 => ?_) (fun c1 => ?_)
    ·(refine VG (zT rfl rfl (Gs3 @t2 @t13 @c1) rfl) (Ga3 @t2 @t13 @c1) ?_)
     (refine VG (zT rfl rfl (Gs3 @t2 @t13 @c1) rfl) (Ga3 @t2 @t13 @c1) ?_)
     (refine VG (zT rfl rfl (Gs3 @t2 @t13 @c1) rfl) (zB (Gs3 @t2 @t13 @c1) (Gs3 @t2 @t13 @c1) in_leq) ?_)
     (refine VX (Ga3 @t2 @t13 @c1) ?_)
     refine zN ⟨rfl, rfl, (Gu2 @t1 @c1), (Gu2 @t2 @c1), (Gu2 @t6 @c1), (Gu2 @t7 @c1), (Gu1 @c1), (Gu1 @c1), (Gu2 @t11 @c1), (Gu2 @t12 @c1), (Gu2 @t13 @c1), ?_⟩;simp only [go_sem, ↓reduceIte, Nat.reduceEqDiff, c1];simp [c1]
    ·refine VN (zG rfl rfl (Gs3 @t2 @t13 @c1) rfl) ?_;refine VN (zG rfl rfl (Gs3 @t2 @t13 @c1) rfl) ?_;refine VN (zG rfl rfl (Gs3 @t2 @t13 @c1) rfl) ?_
     (refine VX (Ga3 @t2 @t13 @c1) ?_)
     refine zN ⟨rfl, rfl, (Gu2 @t1 @c1), (Gu2 @t2 @c1), (Gu2 @t6 @c1), (Gu2 @t7 @c1), (Gu1 @c1), (Gu1 @c1), (Gu2 @t11 @c1), (Gu2 @t12 @c1), (Gu2 @t13 @c1), ?_⟩;simp only [go_sem, ↓reduceIte, Nat.reduceEqDiff, c1];simp [c1]
   clear t1 t2 t6 t7 t11 t12 t13;rintro T2 h3 ⟨rfl, t1, t2, t6, t7, t9, t10, t11, t12, t13, t29⟩;refine zC (Gt1 @t29) (fun hc => ?_) (fun hc => W_skip ?_)
   ·have hc : out ≠ [] ∧ more ≤ room := by
     simp only [Bool.and_eq_true, decide_eq_true_eq, Bool.not_eq_true', decide_eq_false_iff_not] at hc;exact ⟨fun e => by have := h0.1 e; omega, by omega⟩
    rw [if_pos hc] at hcut;have hpos : 0 < out.length := List.length_pos_iff.2 hc.1;obtain ⟨q, rfl, cq, hq, mq⟩ := g2.whole hpos;have gl := getD_get (l := out) (i := out.length - 1) Om;have hlo := hob _ (List.mem_of_getElem? gl);have rq := cq.at1 (nums_get gl);have q1 : (out.length : Int) - 1 = ((out.length - 1 : Nat) : Int) := by omega
    (repeat refine zS ?_); refine zR ?_
    iterate 2 (refine VX (Ga1 @t10) ?_)
    refine zN ?_; (repeat refine zS ?_);refine zR ?_
    iterate 8 (first | (refine VX (zB (Gs2 @t6 @q1) (Gs2 @t6 @q1) in_sub) ?_; (try rw [zI Om Om])) | (refine VX (ex_len el26 (Gs2 @t6 @q1)) ?_) | (refine VX (zB (Gs2 @t6 @q1) (Gs2 @t6 @q1) zA) ?_; (try rw [zI Om Om])) | (refine VX (Gd2 @t6 @q1) ?_) | (refine VX (Gd3 @rq @t6 @q1) ?_) | (refine VX (Ga2 @t6 @q1) ?_))
    refine WO_store1 (ee) (ee) sz3 cq mq (by rw [nums_length]; omega) fun h4 p4 => ?_;rw [nums_set Om] at p4;have e4 := p4.next;refine zN ?_; (repeat refine zS ?_);refine W_exit ?_;have hne : out.set (out.length - 1) (out.getD (out.length - 1) 0 + 1) ≠ [] := List.ne_nil_of_length_pos (by rw [List.length_set]; exact hpos);have g4 := grown_of (n0 := h.next) (l := out.set (out.length - 1) (out.getD (out.length - 1) 0 + 1)) p4.cells p4.may hq.1 Om (by rw [List.length_set]; exact hpos);rw [List.length_set] at g4
    exact ⟨fun _ => ⟨rfl, more, _, _, hcut, hmb, fun z hz => (by
     rcases List.mem_or_eq_of_mem_set hz with hz | hz
     ·have := hob z hz; omega
     ·omega), hne, by rw [List.length_set]; omega, gt t1, gt t2, gt t6, gs, gt t11, gt t12, gt t13, g4, u2.trans (p4.up.mono fun b hb => by omega), p4.ok n2.ok⟩, fun hne => absurd rfl hne⟩
   ·have hc : ¬ (out ≠ [] ∧ more ≤ room) := by
     rintro ⟨h1, h2⟩;have hk0 : k ≠ 0 := fun e => h1 (h0.2 e)
     rw [decide_eq_true (show (0 : Int) < (k : Int) by omega), decide_eq_false Om] at hc;cases hc
    rw [if_neg hc] at hcut
    (repeat refine zS ?_); refine zR ?_
    iterate 2 (refine VX (Ga1 @t9) ?_)
    refine zN ?_; (repeat refine zS ?_);refine zR ?_
    (refine VX (Ga1 @t6) ?_)
    refine WO_bs1 el26 ⟨_, ze26⟩ (ee) n2.ok Dc fun h4 n4 => ?_;have e4 := n4.next;have g4 := g2.up n4.up fun q hq => (g2.lt hq).2
    refine WO_app (n0 := h.next) ap26_26 (Gt1 @t6) (ee) n4.cells rfl g4 n4.ok Om (m := out.length) (by rw [nums_length]; omega) Om Om Dc fun x5 h5 g5 => ?_;refine VO ?_
    exact zN ⟨rfl, y, x5, out ++ [1], hcut, hyb, fun z hz => (by
     rcases List.mem_append.1 hz with hz | hz
     ·have := hob z hz; omega
     ·rw [List.mem_singleton.1 hz]; omega), by simp, by simp; omega, gt t1, gt t2, gs, gs, gt t11, gt t12, gt t13, g5.grown.same (by rw [nums_append]; rfl), (u2.trans (n4.up.mono fun b hb => by omega)).trans (g5.below g4 Om), g5.ok⟩
  ·rintro T2 h2 ⟨n2, x2, out2, hcut2, hnc2, hob2, hne2, hol2, t1, t2, t6, t7, t11, t12, t13, g2, u2, o2⟩;refine zR ?_
   (refine VX (zB (Gs1 @t13) (Gs1 @t13) zA) ?_; (try rw [zI Om Om]))
   (refine VX (Ga1 @t13) ?_)
   exact zN ⟨l.length - (k + 1), by omega, k + 1, n2, x2, out2, rfl, hlt, hcut2, hnc2, hob2, ⟨fun e => absurd e hne2, fun e => by omega⟩, hol2, gt t1, gt t2, gt t6, gt t7, gt t11, gt t12, gs, g2, u2, o2⟩
 ·have hge : k = l.length := by have : ¬ (k : Int) < (l.length : Int) := by simpa using hge
                                omega
  rw [hge, List.drop_length, cutI_nil] at hcut;refine ⟨fun _ => ?_, fun hne => absurd rfl hne⟩
  (repeat refine zS ?_); refine zR ?_
  iterate 2 (refine VX (Ga1 @t6) ?_)
  refine zN (W_ret ⟨.inr rfl, _, RbA, x, rfl, ?_, u1, o1⟩);rw [← hcut]; exact gx
end Go.Ai
