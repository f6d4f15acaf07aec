/-
LayoutWraps, part 10 of 48: AiSym.
-/
import Derived.Test.YthacbaagffpkoaaLw09
set_option linter.unusedVariables false
set_option linter.unusedSimpArgs false
namespace Go.Ai
open F64
section
variable {P : Program} {ι : Inj} {w : World}
theorem boolV_some {q : Option Bool} {v : V} (h : boolV q = some v) : ∃ b, q = some b ∧ v = .one (.b b) := by
 unfold boolV at h;split at h
 ·cases h; exact ⟨_, rfl, rfl⟩
 ·cases h
def isCmp : BinOp → Bool
 | .eql | .neq | .lss | .leq | .gtr | .geq => true
 | _ => false
def cmpI (op : BinOp) (a b : Int) : Bool := match op with
 | .eql => decide (a = b)
 | .neq => !decide (a = b)
 | .lss => decide (a < b)
 | .leq => decide (a ≤ b)
 | .gtr => decide (b < a)
 | .geq => decide (b ≤ a)
 | _ => false
theorem cmpL_some {fs : List Lin} {op : BinOp} {a b : Lin} {r : Bool} {env : Nat → Int} (ha : a.ok env) (hb : b.ok env) (hf : FactsOk env fs) (h : cmpL fs op a b = some r) : isCmp op = true ∧ r = cmpI op (a.eval env) (b.eval env) := by
 cases op <;> simp only [cmpL, reduceCtorEq] at h
 ·exact ⟨rfl, eqL_some hf ha hb h⟩
 ·obtain ⟨q, h1, rfl⟩ := notO_some h;exact ⟨rfl, by rw [eqL_some hf ha hb h1]; rfl⟩
 ·exact ⟨rfl, ltL_some hf ha hb h⟩
 ·obtain ⟨q, h1, rfl⟩ := notO_some h;refine ⟨rfl, ?_⟩;rw [ltL_some hf hb ha h1];simp only [cmpI];rw [Bool.eq_iff_iff]; simp
 ·exact ⟨rfl, ltL_some hf hb ha h⟩
 ·obtain ⟨q, h1, rfl⟩ := notO_some h;refine ⟨rfl, ?_⟩;rw [ltL_some hf ha hb h1];simp only [cmpI];rw [Bool.eq_iff_iff]; simp
theorem run_cmp {op : BinOp} (hc : isCmp op = true) (t : TypeId) (k : IntKind) (a b : Int) : (binOp op t (.int k a) (.int k b)).run P w = .ok (.bool (cmpI op a b)) w := by
 cases op <;> simp only [isCmp, Bool.false_eq_true] at hc <;> simp [binOp, Op.intCmp, cmpI] <;> (try (rw [Bool.eq_iff_iff]; simp))
theorem divL_rel {quo : Bool} {k : IntKind} {a b : Lin} {v : V} (hk : ty64 k = true) (ha : a.ok ι.env) (hb : b.ok ι.env) (h : divL k a quo b.isNum = some v) (t : TypeId) :
  ∃ u, VR ι v u ∧ (binOp (if quo then .quo else .rem) t (.int k (k.wrap (a.eval ι.env))) (.int k (k.wrap (b.eval ι.env)))).run P w = .ok u w := by
 unfold divL at h;split at h
 ·rename_i c hc;simp only [Bool.cond_eq_ite] at h;split at h
  ·rename_i hg;simp only [Bool.and_eq_true, Bool.not_eq_true', ltI_eq, decide_eq_true_eq, decide_eq_false_iff_not] at hg;obtain ⟨⟨⟨⟨⟨g1, g2⟩, g3⟩, g4⟩, g5⟩, g6⟩ := hg;have hq := Lin.quo_rem (env := ι.env) a c;have hr := Lin.bounds (Lin.ok_rem c ha);have hA := Lin.bounds ha;have hcw : k.wrap c = c := by have := inR_wrap (env := ι.env) (Lin.ok_num c) g3; rwa [Lin.eval_num] at this
   rw [Lin.isNum_some (env := ι.env) hc, hcw, inR_wrap ha g2];have hu := (Int.ediv_emod_unique (a := a.eval ι.env) (b := c) (r := (a.rem c).eval ι.env) (q := (a.quo c).eval ι.env) g1).2 ⟨by omega, by omega, by omega⟩;have hne : c ≠ 0 := by omega
   cases quo with
   | true =>
    simp only [if_true] at h;cases h;refine ⟨_, mkY_rel (Lin.ok_quo c ha), ?_⟩;simp only [if_true];simp only [binOp, ne_eq, not_true, if_false, Op.intDiv, hne, Int.tdiv_eq_ediv_of_nonneg (show 0 ≤ a.eval ι.env by omega), hu.1];rfl
   | false =>
    simp only [Bool.false_eq_true, if_false] at h;cases h;refine ⟨_, mkY_rel (Lin.ok_rem c ha), ?_⟩;rw [wrap_le (k := k) (c := c) (by omega) (by omega) g3];simp only [Bool.false_eq_true, if_false];simp only [binOp, ne_eq, not_true, if_false, Op.intDiv, hne, Int.tmod_eq_emod_of_nonneg (show 0 ≤ a.eval ι.env by omega), hu.2];rfl
  ·cases h
 ·cases h
theorem intL_rel {fs : List Lin} (hf : FactsOk ι.env fs) {op : BinOp} {k : IntKind} {a b : Lin} {v : V} (hk : ty64 k = true) (ha : a.ok ι.env) (hb : b.ok ι.env) (h : intL fs op k a b = some v) (t : TypeId) :
  ∃ u, VR ι v u ∧ (binOp op t (.int k (k.wrap (a.eval ι.env))) (.int k (k.wrap (b.eval ι.env)))).run P w = .ok u w := by
 have cmp : isCmp op = true → (cond (inR k a && inR k b) (boolV (cmpL fs op a b)) none = some v) → ∃ u, VR ι v u ∧ (binOp op t (.int k (k.wrap (a.eval ι.env))) (.int k (k.wrap (b.eval ι.env)))).run P w = .ok u w := fun hc h => by
  simp only [Bool.cond_eq_ite] at h;split at h
  ·rename_i hg;simp only [Bool.and_eq_true] at hg;obtain ⟨r, h1, rfl⟩ := boolV_some h;obtain ⟨_, h2⟩ := cmpL_some ha hb hf h1;rw [inR_wrap ha hg.1, inR_wrap hb hg.2];exact ⟨.bool r, rfl, by rw [run_cmp hc, h2]⟩
  ·cases h
 cases op <;> simp only [intL, reduceCtorEq] at h <;> try exact cmp rfl h
 ·cases h;refine ⟨_, mkY_rel (Lin.ok_add ha hb), ?_⟩;rw [Lin.eval_add, ← wrap_add hk];simp [binOp, Op.intArith]
 ·cases h;refine ⟨_, mkY_rel (Lin.ok_sub ha hb), ?_⟩;rw [Lin.eval_sub, ← wrap_sub hk];simp [binOp, Op.intArith]
 ·unfold mulL at h;split at h
  ·rename_i c hc;cases h;refine ⟨_, mkY_rel (Lin.ok_scale c hb), ?_⟩;rw [Lin.eval_scale, ← Lin.isNum_some (env := ι.env) hc, ← wrap_mul hk];simp [binOp, Op.intArith]
  ·rename_i c h0 hc;cases h;refine ⟨_, mkY_rel (Lin.ok_scale c ha), ?_⟩;rw [Lin.eval_scale, ← Lin.isNum_some (env := ι.env) hc, Int.mul_comm, ← wrap_mul hk];simp [binOp, Op.intArith]
  ·cases h
 ·exact divL_rel hk ha hb h t
 ·exact divL_rel hk ha hb h t
theorem feq_fO {a b : Int} (ha : FOk a) (hb : FOk b) : feq (fO a) (fO b) = decide (a = b) := feq_of ha hb
theorem order_fO {a b : Int} (ha : FOk a) (hb : FOk b) : FloatKind.f64.format.order (fO a) (fO b) = some (compare a b) := by
 obtain ⟨s, hs⟩ := reps a (Ok.abs ha);obtain ⟨t, ht⟩ := reps b (Ok.abs hb);exact order_reps hs ht
theorem run_fcmp {op : BinOp} (hc : isCmp op = true) (t : TypeId) {a b : Int} (ha : FOk a) (hb : FOk b) : (binOp op t (.float .f64 (fO a)) (.float .f64 (fO b))).run P w = .ok (.bool (cmpI op a b)) w := by
 have ho := order_fO ha hb;have h1 : (compare a b = .lt) = (a < b) := by rw [Int.compare_eq_lt]
 have h2 : (compare a b = .eq) = (a = b) := by rw [Int.compare_eq_eq]
 have h3 : (compare a b = .gt) = (b < a) := by rw [Int.compare_eq_gt]
 cases op <;> simp only [isCmp, Bool.false_eq_true] at hc <;> simp only [binOp, Op.floatCmp, ho, cmpI, Sem.run_pure, ne_eq, not_true, if_false]
 all_goals (congr 2; rw [Bool.eq_iff_iff]; simp only [beq_iff_eq, bne_iff_ne, ne_eq, Option.some.injEq, Bool.or_eq_true, decide_eq_true_eq, Bool.not_eq_true', decide_eq_false_iff_not, h1, h2, h3]; try omega)
theorem fltL_rel {fs : List Lin} (hf : FactsOk ι.env fs) {op : BinOp} {a b : Lin} {v : V} (ha : a.ok ι.env) (hb : b.ok ι.env) (fa : FOk (a.eval ι.env)) (fb : FOk (b.eval ι.env)) (h : fltL fs op a b = some v) (t : TypeId) :
  ∃ u, VR ι v u ∧ (binOp op t (.float .f64 (fO (a.eval ι.env))) (.float .f64 (fO (b.eval ι.env)))).run P w = .ok u w := by
 have cmp : isCmp op = true → boolV (cmpL fs op a b) = some v → ∃ u, VR ι v u ∧ (binOp op t (.float .f64 (fO (a.eval ι.env))) (.float .f64 (fO (b.eval ι.env)))).run P w = .ok u w := fun hc h => by
  obtain ⟨r, h1, rfl⟩ := boolV_some h;obtain ⟨_, h2⟩ := cmpL_some ha hb hf h1;exact ⟨.bool r, rfl, by rw [run_fcmp hc t fa fb, h2]⟩
 cases op <;> simp only [fltL, reduceCtorEq] at h <;> try exact cmp rfl h
 simp only [Bool.cond_eq_ite] at h;split at h
 ·rename_i hg;cases h;have hs := inF_ok (Lin.ok_add ha hb) hg;refine ⟨_, ⟨Lin.ok_add ha hb, hs, rfl⟩, ?_⟩;rw [Lin.eval_add] at hs ⊢;have e : FloatKind.f64.format.add (fO (a.eval ι.env)) (fO (b.eval ι.env)) = some (fO (a.eval ι.env + b.eval ι.env)) := add_exact fa fb hs;simp [binOp, Op.floatArith, e]
 ·cases h
theorem andO_some {p q : Option Bool} {r : Bool} (h : andO p q = some r) : ∃ a b, p = some a ∧ q = some b ∧ r = (a && b) := by
 unfold andO at h;split at h
 ·cases h; exact ⟨_, _, rfl, rfl, rfl⟩
 ·cases h
theorem cpxL_rel {fs : List Lin} (hf : FactsOk ι.env fs) {op : BinOp} {a b c d : Lin} {v : V} (ha : a.ok ι.env) (hb : b.ok ι.env) (hc : c.ok ι.env) (hd : d.ok ι.env) (fa : FOk (a.eval ι.env)) (fb : FOk (b.eval ι.env)) (fc : FOk (c.eval ι.env)) (fd : FOk (d.eval ι.env)) (h : cpxL fs op a b c d = some v) (t : TypeId) :
  ∃ u, VR ι v u ∧ (binOp op t (.complex .f64 (fO (a.eval ι.env)) (fO (b.eval ι.env))) (.complex .f64 (fO (c.eval ι.env)) (fO (d.eval ι.env)))).run P w = .ok u w := by
 have e1 := feq_fO fa fc;have e2 := feq_fO fb fd;unfold feq at e1 e2;cases op <;> simp only [cpxL, reduceCtorEq] at h
 ·obtain ⟨r, h1, rfl⟩ := boolV_some h;obtain ⟨p, q, h2, h3, rfl⟩ := andO_some h1;refine ⟨.bool (p && q), rfl, ?_⟩;rw [eqL_some hf ha hc h2, eqL_some hf hb hd h3];simp [binOp, Op.complexOp, Op.Complex.cmp, Op.floatCmp, asBool, e1, e2]
 ·obtain ⟨r, h1, rfl⟩ := boolV_some h;obtain ⟨r', h1', rfl⟩ := notO_some h1;obtain ⟨p, q, h2, h3, rfl⟩ := andO_some h1';refine ⟨.bool (!(p && q)), rfl, ?_⟩;rw [eqL_some hf ha hc h2, eqL_some hf hb hd h3];simp [binOp, Op.complexOp, Op.Complex.cmp, Op.floatCmp, asBool, e1, e2]
theorem sym2_rel {fs : List Lin} (hf : FactsOk ι.env fs) {op : BinOp} {x y : Option V} {u u' : Value} {v : V} (hx : ∀ z, x = some z → VR ι z u) (hy : ∀ z, y = some z → VR ι z u') (h : sym2 fs op x y = some v) (t : TypeId) :
  (∃ q, VR ι v q ∧ (binOp op t u u').run P w = .ok q w) ∧ ∀ X Y, (eqGuard op t X Y u u').run P w = .ok () w := by
 have guard : (∃ k n k' n', u = .int k n ∧ u' = .int k' n') ∨ (∃ k n k' n', u = .float k n ∧ u' = .float k' n') ∨ (∃ k n m k' n' m', u = .complex k n m ∧ u' = .complex k' n' m') → ∀ X Y, (eqGuard op t X Y u u').run P w = .ok () w := by
  rintro (⟨_, _, _, _, rfl, rfl⟩ | ⟨_, _, _, _, rfl, rfl⟩ | ⟨_, _, _, _, _, _, rfl, rfl⟩) X Y <;> cases op <;> simp [eqGuard]
 unfold sym2 at h;split at h
 ·rename_i k a k' b h1 h2;simp only [Bool.cond_eq_ite] at h;split at h
  ·rename_i hk;have hk : k = k' := by simpa using hk
   subst hk;obtain ⟨a1, a2, rfl⟩ := asL_some hx h1;obtain ⟨b1, b2, rfl⟩ := asL_some hy h2;exact ⟨intL_rel hf a1 a2 b2 h t, guard (.inl ⟨_, _, _, _, rfl, rfl⟩)⟩
  ·cases h
 ·split at h
  ·rename_i a b h1 h2;obtain ⟨a1, a2, rfl⟩ := asF_some hx h1;obtain ⟨b1, b2, rfl⟩ := asF_some hy h2;exact ⟨fltL_rel hf a1 b1 a2 b2 h t, guard (.inr (.inl ⟨_, _, _, _, rfl, rfl⟩))⟩
  ·split at h
   ·rename_i a b c d h1 h2;obtain ⟨⟨a1, a2⟩, ⟨a3, a4⟩, rfl⟩ := asC_some hx h1;obtain ⟨⟨b1, b2⟩, ⟨b3, b4⟩, rfl⟩ := asC_some hy h2;exact ⟨cpxL_rel hf a1 a2 b1 b2 a3 a4 b3 b4 h t, guard (.inr (.inr ⟨_, _, _, _, _, _, rfl, rfl⟩))⟩
   ·cases h
theorem sym1_rel {op : UnOp} {x : Option V} {u : Value} {v : V} (hx : ∀ z, x = some z → VR ι z u) (h : sym1 op (asL x) = some v) : ∃ q, VR ι v q ∧ (Op.unary op u).run P w = .ok q w := by
 unfold sym1 at h;split at h
 ·rename_i k a ha;cases h;obtain ⟨a1, a2, rfl⟩ := asL_some hx ha;refine ⟨_, mkY_rel (Lin.ok_scale (-1) a2), ?_⟩;obtain ⟨q, hq⟩ := wrap_rep a1 (a.eval ι.env)
  have : k.wrap (0 - k.wrap (a.eval ι.env)) = k.wrap (-1 * a.eval ι.env) := by
   rw [hq, show 0 - (a.eval ι.env + q * 18446744073709551616) = -1 * a.eval ι.env + (-q) * 18446744073709551616 by omega, wrap_shift a1]
  rw [Lin.eval_scale, ← this];simp [Op.unary, Op.intArith]
 ·cases h
theorem convL_rel {s d : TypeId} {x : Option V} {u : Value} {v : V} (hx : ∀ z, x = some z → VR ι z u) (h : convL x (P.underlying s) (P.underlying d) = some v) : ∃ q, VR ι v q ∧ (convert s d u).run P w = .ok q w := by
 unfold convL at h;split at h
 ·rename_i S D su k hs hd;split at h
  ·rename_i k' e hl;obtain ⟨a1, a2, rfl⟩ := asL_some hx hl;simp only [Bool.cond_eq_ite] at h;split at h
   ·rename_i hk;cases h;refine ⟨_, mkY_rel a2, ?_⟩;rw [← wrap_wrap a1 hk];cases su <;> simp [convert, run_und hs, run_und hd, Conv.intToInt]
   ·cases h
  ·split at h
   ·rename_i e hf;cases h;obtain ⟨a1, a2, rfl⟩ := asF_some hx hf;refine ⟨_, mkY_rel a1, ?_⟩;have hd' : e.eval ι.env = IntKind.i64.wrap (e.eval ι.env) := (zI (by unfold FOk at a2; omega) (by unfold FOk at a2; omega)).symm;obtain ⟨t, ht⟩ := reps (e.eval ι.env) (Ok.abs a2);have hi : (FloatKind.f64.decode (fO (e.eval ι.env))).toInt .zero = some (e.eval ι.env) := toInt_reps ht
    have hr : (Conv.floatToInt .f64 (fO (e.eval ι.env)) .i64).run P w = .ok (.int .i64 (e.eval ι.env)) w := by
     unfold Conv.floatToInt;rw [hi];simp only;rw [if_pos (by rw [i64_min, i64_max]; unfold FOk at a2; omega)];rfl
    rw [← hd'];cases su <;> simp [convert, run_und hs, run_und hd, hr]
   ·cases h
 ·rename_i S D su hs hd;split at h
  ·rename_i k' e hl;obtain ⟨a1, a2, rfl⟩ := asL_some hx hl;simp only [Bool.cond_eq_ite] at h;split at h
   ·rename_i hk;simp only [Bool.and_eq_true] at hk;cases h;refine ⟨_, ⟨a2, inF_ok a2 hk.2, rfl⟩, ?_⟩;rw [inR_wrap a2 hk.1];cases su <;> simp [convert, run_und hs, run_und hd, Conv.intToFloat, fO]
   ·cases h
  ·cases h
 ·cases h
theorem pickL_min {fs : List Lin} (hf : FactsOk ι.env fs) {k : IntKind} {a b : Lin} {x y z : V} {u v : Value} (ha : a.ok ι.env) (hb : b.ok ι.env) (hx : VR ι x u) (hy : VR ι y v) (eu : u = .int k (a.eval ι.env)) (ev : v = .int k (b.eval ι.env)) (h : pickL (ltL fs b a) (ltL fs a b) x y = some z) :
  VR ι z (.int k (if b.eval ι.env < a.eval ι.env then b.eval ι.env else a.eval ι.env)) := by
 unfold pickL at h;split at h
 ·rename_i h1;cases h;have := ltL_some hf hb ha h1;rw [if_pos (by simpa using this.symm), ← ev]; exact hy
 ·rename_i h1;cases h;have := ltL_some hf hb ha h1;rw [if_neg (by simpa using this.symm), ← eu]; exact hx
 ·split at h
  ·rename_i h1;cases h;have := ltL_some hf ha hb h1;have hle : b.eval ι.env ≤ a.eval ι.env := by simpa using this.symm
   have : (if b.eval ι.env < a.eval ι.env then b.eval ι.env else a.eval ι.env) = b.eval ι.env := by split <;> omega
   rw [this, ← ev]; exact hy
  ·cases h
theorem symB_rel {kn : Kn} (hkn : KnOk P ι.env kn) {b : Builtin} {vs : List V} {ts : List TypeId} {us : List Value} {v : V} (hv : All2 (VR ι) vs us) (h : symB kn P b vs ts = some v) (ty : TypeId) :
  ∃ q, VR ι v q ∧ ∀ cs : Array Bool, (builtin b ts.toArray ty cs us.toArray).run P w = .ok (.value q) w := by
 have mm : ∀ mn, minL kn mn vs = some v → ∃ x y k, us = [.int k x, .int k y] ∧ VR ι v (.int k (if mn = true then (if y < x then y else x) else (if y > x then y else x))) := fun mn h => by
  unfold minL at h;split at h
  ·rename_i x y
   cases hv with
   | cons h1 h2 => cases h2 with
    | cons h3 h4 =>
     cases h4;rename_i u u';split at h
     ·rename_i k a k' b ha hb;simp only [Bool.cond_eq_ite] at h;split at h
      ·rename_i hg;simp only [Bool.and_eq_true, beq_iff_eq] at hg;obtain ⟨⟨rfl, g1⟩, g2⟩ := hg;obtain ⟨a1, a2, a3⟩ := asL_some (ι := ι) (u := u) (fun z hz => by cases hz; exact h1) ha;obtain ⟨b1, b2, b3⟩ := asL_some (ι := ι) (u := u') (fun z hz => by cases hz; exact h3) hb;rw [inR_wrap a2 g1] at a3;rw [inR_wrap b2 g2] at b3;refine ⟨a.eval ι.env, b.eval ι.env, k, by rw [a3, b3], ?_⟩
       cases mn with
       | true =>
        simp only [cond_true, if_true] at h ⊢;exact pickL_min hkn.facts a2 b2 h1 h3 a3 b3 h
       | false =>
        simp only [cond_false, Bool.false_eq_true, if_false] at h ⊢;unfold orMax at h;split at h;rotate_left
        ·split at h
         ·rename_i c hc;cases h;obtain ⟨c1, c2⟩ := maxL_some hkn.mx hc
          have hw : k.wrap (c.eval ι.env) = c.eval ι.env := by
           rw [c2];rcases Int.le_total (a.eval ι.env) (b.eval ι.env) with q | q
           ·rw [Int.max_eq_right q]; exact inR_wrap b2 g2
           ·rw [Int.max_eq_left q]; exact inR_wrap a2 g1
          have := mkY_rel (ι := ι) (k := k) c1;rw [hw] at this;have e : (if b.eval ι.env > a.eval ι.env then b.eval ι.env else a.eval ι.env) = c.eval ι.env := by rw [c2]; split <;> omega
          rw [e]; exact this
         ·cases h
        rename_i v' hpk;cases h;have h := hpk;unfold pickL at h;split at h
        ·rename_i h5;cases h;have := ltL_some hkn.facts a2 b2 h5;rw [if_pos (by simpa using this.symm), ← b3]; exact h3
        ·rename_i h5;cases h;have := ltL_some hkn.facts a2 b2 h5;have hle : b.eval ι.env ≤ a.eval ι.env := by simpa using this.symm
         rw [if_neg (by omega), ← a3]; exact h1
        ·split at h
         ·rename_i h5;cases h;have := ltL_some hkn.facts b2 a2 h5;have hle : a.eval ι.env ≤ b.eval ι.env := by simpa using this.symm
          have : (if b.eval ι.env > a.eval ι.env then b.eval ι.env else a.eval ι.env) = b.eval ι.env := by split <;> omega
          rw [this, ← b3]; exact h3
         ·cases h
      ·cases h
     ·cases h
  ·cases h
 unfold symB at h;split at h
 ·obtain ⟨x, y, k, rfl, hr⟩ := mm true h;refine ⟨_, hr, fun cs => ?_⟩;simp [builtin, Builtin.min_, Builtin.min2]
 ·obtain ⟨x, y, k, rfl, hr⟩ := mm false h;refine ⟨_, hr, fun cs => ?_⟩;simp [builtin, Builtin.max_, Builtin.max2]
 ·rename_i x y _
  cases hv with
  | cons h1 h2 => cases h2 with
   | cons h3 h4 =>
    cases h4;rename_i u u';split at h
    ·rename_i a b ha hb;cases h;obtain ⟨a1, a2, a3⟩ := asF_some (ι := ι) (u := u) (fun z hz => by cases hz; exact h1) ha;obtain ⟨b1, b2, b3⟩ := asF_some (ι := ι) (u := u') (fun z hz => by cases hz; exact h3) hb;subst a3 b3;exact ⟨_, ⟨⟨a1, b1⟩, ⟨a2, b2⟩, rfl⟩, fun cs => rfl⟩
    ·cases h
 ·rename_i x _
  cases hv with
  | cons h1 h2 =>
   cases h2;rename_i u;split at h
   ·rename_i a b ha;cases h;obtain ⟨⟨a1, a2⟩, ⟨a3, a4⟩, a5⟩ := asC_some (ι := ι) (u := u) (fun z hz => by cases hz; exact h1) ha;subst a5;exact ⟨_, ⟨a1, a3, rfl⟩, fun cs => rfl⟩
   ·cases h
 ·rename_i x _
  cases hv with
  | cons h1 h2 =>
   cases h2;rename_i u;split at h
   ·rename_i a b ha;cases h;obtain ⟨⟨a1, a2⟩, ⟨a3, a4⟩, a5⟩ := asC_some (ι := ι) (u := u) (fun z hz => by cases hz; exact h1) ha;subst a5;exact ⟨_, ⟨a2, a4, rfl⟩, fun cs => rfl⟩
   ·cases h
 ·rename_i e t
  cases hv with
  | cons h1 h2 =>
   cases h2;rename_i u;split at h
   ·rename_i elem ht;simp only [Bool.cond_eq_ite] at h;split at h
    ·rename_i hg;cases h;obtain ⟨a1, a, c, n, rfl, hn⟩ := h1;refine ⟨_, mkY_rel a1, fun cs => ?_⟩;rw [inR_wrap a1 hg, ← hn];simp [builtin, Builtin.len_, run_und ht, goInt]
    ·cases h
   ·cases h
 ·rename_i q0 o0 m0 e t
  cases hv with
  | cons h1 h2 =>
   cases h2;rename_i u;split at h
   ·rename_i elem ht;simp only [Bool.cond_eq_ite] at h;split at h
    ·rename_i hg;cases h;obtain ⟨_, a1, a, c, n, rfl, _, _, _, hn, _⟩ := h1;refine ⟨_, mkY_rel a1, fun cs => ?_⟩;rw [inR_wrap a1 hg, ← hn];simp [builtin, Builtin.len_, run_und ht, goInt]
    ·cases h
   ·cases h
 ·rename_i q0 z0 e0 e t
  cases hv with
  | cons h1 h2 =>
   cases h2;rename_i u;split at h
   ·rename_i elem ht;simp only [Bool.cond_eq_ite] at h;split at h
    ·rename_i hg;cases h;obtain ⟨_, a1, a, c, n, rfl, _, _, hn, _⟩ := h1;refine ⟨_, mkY_rel a1.2, fun cs => ?_⟩;rw [inR_wrap a1.2 hg, ← hn];simp [builtin, Builtin.len_, run_und ht, goInt]
    ·cases h
   ·cases h
 ·cases h
theorem prodL_some {env : Nat → Int} {k : IntKind} {a b : Lin} {v : V} : ∀ {l : List (Lin × Lin × Lin)}, (∀ p ∈ l, p.2.2.ok env ∧ p.1.eval env * p.2.1.eval env = p.2.2.eval env) → prodL k a b l = some v → ∃ z : Lin, v = mkY k z ∧ z.ok env ∧ a.eval env * b.eval env = z.eval env
 | [], _, h => by cases h
 | p :: l, hl, h => by
  unfold prodL at h
  cases hc : (linEq p.1 a && linEq p.2.1 b) with
  | false => rw [hc] at h; exact prodL_some (fun q hq => hl q (List.mem_cons_of_mem _ hq)) h
  | true =>
   rw [hc] at h;simp only [cond_true, Option.some.injEq] at h;simp only [Bool.and_eq_true] at hc;obtain ⟨h1, h2⟩ := hl p List.mem_cons_self;rw [linEq_spec hc.1, linEq_spec hc.2] at h2;exact ⟨p.2.2, h.symm, h1, h2⟩
theorem orProd_rel {kn : Kn} (hkn : KnOk P ι.env kn) {op : BinOp} {x y : Option V} {u u' : Value} {v : V} (hx : ∀ z, x = some z → VR ι z u) (hy : ∀ z, y = some z → VR ι z u') (h : orProd op (asL x) (asL y) kn.pr (sym2 kn.facts op x y) = some v) (t : TypeId) :
  (∃ q, VR ι v q ∧ (binOp op t u u').run P w = .ok q w) ∧ ∀ X Y, (eqGuard op t X Y u u').run P w = .ok () w := by
 unfold orProd at h;split at h
 ·rename_i v' hs;cases h;exact sym2_rel hkn.facts hx hy hs t
 ·split at h
  ·rename_i k a k' b h1 h2 hs;simp only [Bool.cond_eq_ite] at h;split at h
   ·rename_i hk;have hk : k = k' := by simpa using hk
    subst hk;obtain ⟨a1, a2, rfl⟩ := asL_some hx h1;obtain ⟨b1, b2, rfl⟩ := asL_some hy h2;obtain ⟨z, rfl, hz, he⟩ := prodL_some hkn.pr h;refine ⟨⟨_, mkY_rel hz, ?_⟩, fun X Y => by simp [eqGuard]⟩;rw [← he, ← wrap_mul a1];simp [binOp, Op.intArith]
   ·cases h
  ·cases h
theorem symV_sim {kn : Kn} (hkn : KnOk P ι.env kn) {T0 : Sl} {a : Act} {h : H} (kt : TR ι T0 a.tmps) {o : Oper} {v : V} (hx : symV kn P T0 o = some v) : ∃ q, VR ι v q ∧ (execOp a.eval o).run P w = .ok (.value q) w := by
 have he : ∀ x, ∀ z, ev T0 x = some z → VR ι z (a.eval x) := fun x z hz => ev_rel kt hz
 unfold symV at hx;split at hx
 ·rename_i op t x y pos hop;obtain ⟨⟨q, h1, h2⟩, h3⟩ := orProd_rel (P := P) (w := w) hkn (he x) (he y) hx t;refine ⟨q, h1, ?_⟩;simp only [execOp, hop];simp [h3, h2]
 ·rename_i op t x hop;obtain ⟨q, h1, h2⟩ := sym1_rel (P := P) (w := w) (he x) hx;refine ⟨q, h1, ?_⟩;simp only [execOp, hop];simp [h2]
 ·rename_i s d x hop;obtain ⟨q, h1, h2⟩ := convL_rel (P := P) (w := w) (he x) hx;refine ⟨q, h1, ?_⟩;simp only [execOp, hop];simp [h2]
 ·rename_i c hop;unfold symC at hx;split at hx
  ·rename_i b vs hb hvs;obtain ⟨callee, args, ts⟩ := c;simp only at hb hvs hx;subst hb;have hall := evs_rel kt hvs;obtain ⟨q, h1, h2⟩ := symB_rel (P := P) (w := w) hkn hall hx o.type;refine ⟨q, h1, ?_⟩;simp only [execOp, hop, resolve, Sem.run_bind, Sem.run_pure, Result.andThen_ok, invoke];have e : (List.map a.eval args.toList).toArray = args.map a.eval := by apply Array.ext'; simp
   rw [e] at h2;exact h2 _
  ·cases hx
 ·cases hx
theorem orPure_sim {h : H} {T0 : Sl} {a : Act} (k : HR P ι h w) (kt : TR ι T0 a.tmps) {o : Oper} {x : R} {r : Option R} (hs : ∀ cs b, o.op ≠ .select cs b) (hx : orPure P T0 h o r = some x)
  (hr : r = some x → Sim1 P ι h w x ((execOp a.eval o).run P w)) : Sim1 P ι h w x ((execOp a.eval o).run P w) := by
 unfold orPure at hx;split at hx
 ·exact hr (by rw [← hx])
 ·split at hx
  ·rename_i y hy;cases hx;exact pureOp_sim k kt hs hy
  ·split at hx
   ·rename_i v hv;cases hx;obtain ⟨q, h1, h2⟩ := symV_sim k.kn (h := h) (w := w) kt hv;exact Sim1.same k h1 h2
   ·cases hx
end
end Go.Ai
