/-
LayoutWraps, part 9 of 48: AiOps6.
-/
import Derived.Laws.StructEq
import Derived.Test.YthacbaagffpkoaaLw08
set_option linter.unusedVariables false
set_option linter.unusedSimpArgs false
namespace Go.Ai
section
variable {P : Program} {ι : Inj} {h : H} {w : World}
theorem doAppend_sim (k : HR P ι h w) {t u ty : TypeId} {s x : Option V} {v y : Value} {r : R} (hv : ∀ z, s = some z → VR ι z v) (hy : ∀ z, x = some z → VR ι z y) (hr : doAppend P h t u s x = some r) :
  SimV P ι h w r (Builtin.append_ #[t, u] ty #[v, y]) := by
 unfold doAppend at hr;split at hr
 ·rename_i x';split at hr
  ·rename_i elem ht;split at hr
   ·rename_i i hi
    cases hu : srcType P u with
    | false =>
     rw [hu] at hr;simp only [cond_false] at hr;unfold appendZ at hr;split at hr
     ·rename_i n;split at hr
      ·rename_i z hui hz;split at hr
       ·rename_i y' hy'
        cases hg : (Nat.blt 0 i.size && Nat.beq z.cells.size i.size && Nat.beq y'.cells.length i.size && !y'.isTup && Nat.ble (n * i.bytes) 1099511627776 && Nat.ble n 1099511627776) with
        | false => rw [hg] at hr; simp at hr
        | true =>
         rw [hg] at hr;simp only [cond_true] at hr;simp only [Bool.and_eq_true, Bool.not_eq_true'] at hg;obtain ⟨⟨⟨⟨⟨g1, g2⟩, g3⟩, g4⟩, g5⟩, g6⟩ := hg;have g1 : 0 < i.size := by simpa [Nat.blt_eq] using g1
         have g2 := Nat.eq_of_beq_eq_true g2;have g3 := Nat.eq_of_beq_eq_true g3;have e : y = .int .i64 n := hy _ rfl;subst e;have hzr := VR.cells (V.ofVal_rel (ι := ι) hy') g4;have hmade := madeZero hzr (by omega) n;rw [g3, ← g2] at hmade;exact appendTo_sim k g2 g1 hv (app_zeros ht hui hi hz g2 (Nat.le_of_ble_eq_true g5) (Nat.le_of_ble_eq_true g6)) hmade (by rw [repeatS_length, g3]) hr
       ·simp at hr
      ·simp at hr
     ·simp at hr
    | true =>
     rw [hu] at hr;simp only [cond_true] at hr;unfold appendAt at hr;split at hr
     ·rename_i z n hz hn;split at hr
      ·rename_i xs hs
       cases hg : (Nat.blt 0 i.size && Nat.beq z.cells.size i.size && Nat.beq xs.length (n * i.size)) with
       | false => rw [hg] at hr; simp at hr
       | true =>
        rw [hg] at hr;simp only [cond_true] at hr;simp only [Bool.and_eq_true] at hg;obtain ⟨cs, hsrc, hx⟩ := src_rel k (hy _ rfl) hn (Nat.le_refl _) hs;obtain ⟨du, hdu, hnot⟩ := srcType_some hu;exact appendTo_sim k (Nat.eq_of_beq_eq_true hg.1.2) (by simpa [Nat.blt_eq] using hg.1.1) hv (app_src ht hdu hnot hi hz hsrc) hx (Nat.eq_of_beq_eq_true hg.2) hr
      ·simp at hr
     ·simp at hr
   ·simp at hr
  ·simp at hr
 ·simp at hr
theorem store_any (k : HR P ι h w) {b o : Nat} {xs : List S} {h' : H} {cx : Array Value} {a : Addr} (hx : storeB h b o xs = some h') (hv : All2 (SR ι) xs cx.toList) (ha : xs ≠ [] → a = ⟨ι.blk b, ι.sh b + o, none⟩) :
  ∃ w', (storeCells a cx.toList).run P w = .ok () w' ∧ Step P ι h w ι h' w' := by
 obtain ⟨w', hr, hs⟩ := storeB_sim k hx hv
 by_cases hne : xs = []
 ·subst hne;have : cx.toList = [] := List.eq_nil_of_length_eq_zero (by simpa using hv.length.symm);rw [this] at hr ⊢;exact ⟨w', by simpa [storeCells] using hr, hs⟩
 ·rw [ha hne]; exact ⟨w', hr, hs⟩
theorem doCopy_sim (k : HR P ι h w) {t u ty : TypeId} {s x : Option V} {v y : Value} {r : R} (hv : ∀ z, s = some z → VR ι z v) (hy : ∀ z, x = some z → VR ι z y) (hr : doCopy P h t s x = some r) :
  SimV P ι h w r (Builtin.copy_ #[t, u] ty #[v, y]) := by
 unfold doCopy at hr;split at hr
 ·rename_i y';have e : v = .slice none 0 0 := hv _ rfl;subst e;split at hr
  ·rename_i elem ht;split at hr
   ·rename_i size n hs hn;split at hr
    ·rename_i xs hx;cases hr;obtain ⟨cs, hsrc, _⟩ := src_rel k (hy _ rfl) hn (Nat.zero_le _) hx;have h1 : (Builtin.lenOf y).run P w = .ok n w := hsrc.len w.drawn;have h2 : (Builtin.firstCells size 0 y).run P w = .ok cs w := hsrc.first w.drawn;refine SimV.same k (v := .one (.i .i64 0)) (v' := .int .i64 0) rfl ?_;have hz : Nat.min n 0 = 0 := Nat.min_zero n;simp [Builtin.copy_, run_und ht, h1, run_size hs, hz, h2, goInt]
    ·simp at hr
   ·simp at hr
  ·simp at hr
 ·rename_i b o len cap sz ex y';obtain ⟨hd, hlc, a, c, rfl, e1, e2, e3, e4, e5, e6⟩ := hv _ rfl;split at hr
  ·rename_i elem ht;split at hr
   ·rename_i size n hs hn;unfold copyB at hr;split at hr
    ·rename_i xs hx;split at hr
     ·rename_i h' hst;rw [forceN_eq] at hr;cases hr;obtain ⟨cs, hsrc, hxs⟩ := src_rel k (hy _ rfl) hn (Nat.min_le_left _ _) hx;have h1 : (Builtin.lenOf y).run P w = .ok n w := hsrc.len w.drawn;have h2 : (Builtin.firstCells size (Nat.min n len) y).run P w = .ok cs w := hsrc.first w.drawn
      have hax : xs ≠ [] → a = ⟨ι.blk b, ι.sh b + o, none⟩ := by
       intro hne
       cases a with
       | mk bb oo ss =>
        simp only at e1 e2 e3;subst e1; subst e2;rcases e3 with e3 | ⟨e3, _⟩
        ·rw [e3]
        ·subst e3;have hz : Nat.min n 0 = 0 := Nat.min_zero n;rw [hz] at hx;exfalso; apply hne;unfold srcB at hx;split at hx
         ·simpa using hx.symm
         ·simpa using hx.symm
         ·rename_i q _ _
          cases hq : Nat.beq size 1 with
          | false => rw [hq] at hx; simp at hx
          | true => rw [hq] at hx; simp at hx; exact hx
         ·simpa using hx.symm
         ·simp at hx
      obtain ⟨w', hrun, hstep⟩ := store_any k hst hxs hax;refine ⟨_, _, rfl, ι, .int .i64 (Nat.min n len : Nat), w', ?_, rfl, hstep⟩;simp [Builtin.copy_, run_und ht, h1, run_size hs, h2, goInt, hrun]
     ·simp at hr
    ·simp at hr
   ·simp at hr
  ·simp at hr
 ·simp at hr
theorem doClear_sim (k : HR P ι h w) {t ty : TypeId} {s : Option V} {v : Value} {r : R} (hv : ∀ z, s = some z → VR ι z v) (hr : doClear P h t s = some r) :
  SimV P ι h w r (Builtin.clear_ #[t] ty #[v]) := by
 unfold doClear at hr;split at hr
 ·have e : v = .slice none 0 0 := hv _ rfl;subst e;split at hr
  ·rename_i elem ht;cases hr;exact SimV.same k (v := .tup []) (v' := .tuple #[]) ⟨#[], rfl, .nil⟩ (by simp [Builtin.clear_, run_und ht])
  ·simp at hr
 ·rename_i b o len cap sz ex;obtain ⟨hd, hlc, a, c, rfl, e1, e2, e3, e4, e5, e6⟩ := hv _ rfl;split at hr
  ·rename_i elem ht;split at hr
   ·rename_i z hz
    cases hg : (Nat.blt 0 z.cells.length && !z.isTup) with
    | false => rw [hg] at hr; simp at hr
    | true =>
     rw [hg] at hr;simp only [cond_true] at hr;simp only [Bool.and_eq_true, Nat.blt_eq, Bool.not_eq_true'] at hg;split at hr
     ·rename_i h' hst;cases hr;obtain ⟨zv, hz1, hz2⟩ := run_zero hz;have hzc := (hz2 ι).cells hg.2;have hlz : z.cells.length = zv.cells.size := by simpa using hzc.length
      have hmade := madeZero hzc hg.1 len;rcases Nat.eq_zero_or_pos len with h0 | h0
      ·subst h0;simp only [repeatS] at hst;unfold storeB at hst;simp only [Option.some.injEq] at hst;subst hst;exact SimV.same k (v := .tup []) (v' := .tuple #[]) ⟨#[], rfl, .nil⟩ (by simp [Builtin.clear_, run_und ht])
      ·have hae : a = ⟨ι.blk b, ι.sh b + o, none⟩ := by
        cases a with
        | mk bb oo ss =>
         simp only at e1 e2 e3;subst e1; subst e2;rcases e3 with e3 | ⟨e3, _⟩
         ·rw [e3]
         ·omega
       obtain ⟨w', hrun, hstep⟩ := store_any k hst hmade fun _ => hae
       refine ⟨_, _, rfl, ι, .tuple #[], w', ?_, ⟨#[], rfl, .nil⟩, hstep⟩;rw [hlz] at hrun
       cases len with
       | zero => omega
       | succ m =>
        have : (Builtin.zeroCells zv.cells (m + 1)).toList = (Array.map (fun x => zv.cells[x % zv.cells.size]!) (Array.range ((m + 1) * zv.cells.size))).toList := rfl;simp [Builtin.clear_, run_und ht, hz1];rw [this, hrun];rfl
     ·simp at hr
   ·simp at hr
  ·simp at hr
 ·simp at hr
theorem doLen_sim (k : HR P ι h w) {t ty : TypeId} {s : Option V} {v : Value} {r : R} (hv : ∀ z, s = some z → VR ι z v) (hr : doLen P h t s = some r) :
  SimV P ι h w r (Builtin.len_ #[t] ty #[v]) := by
 unfold doLen at hr;split at hr
 ·rename_i b o len cap sz ex;obtain ⟨hd, hlc, a, c, rfl, _⟩ := hv _ rfl;split at hr
  ·rename_i elem ht;cases hr;exact SimV.same k (v := .one (.i .i64 (.ofNat len))) (v' := .int .i64 len) rfl (by simp [Builtin.len_, run_und ht, goInt])
  ·simp at hr
 ·obtain ⟨a, n, c, rfl⟩ := hv _ rfl;split at hr
  ·rename_i elem ht;cases hr;exact SimV.same k (v := .one .nat) (v' := .int .i64 n) ⟨n, rfl⟩ (by simp [Builtin.len_, run_und ht, goInt])
  ·simp at hr
 ·rename_i q;obtain ⟨hd, rfl⟩ := hv _ rfl;split at hr
  ·rename_i kt e es ht hg;cases hr;obtain ⟨_, en, cl, h1, h2⟩ := k.obj _ _ hg;refine SimV.same k (v := .one (.i .i64 (es.length : Int))) (v' := .int .i64 (es.length : Int)) rfl ?_;have hl : es.length = en.size := by simpa using h2.length
   have hobj : (getObj (ι.blk q)).run P w = .ok (.map en cl) w := by simp [getObj, Sem.run, h1]
   simp [Builtin.len_, run_und ht, goInt, hobj, hl]
  ·simp at hr
 ·simp at hr
theorem asNum_some {x : S} {k : IntKind} {n : Int} {v : Value} (hv : SR ι x v) (hx : asNum x = some (k, n)) : v = .int k n := by
 unfold asNum at hx;split at hx
 ·simp only [Option.some.injEq, Prod.mk.injEq] at hx; obtain ⟨rfl, rfl⟩ := hx; exact hv
 ·simp at hx
theorem asB_some {x : S} {n : Bool} {v : Value} (hv : SR ι x v) (hx : asB x = some n) : v = .bool n := by
 unfold asB at hx;split at hx
 ·simp only [Option.some.injEq] at hx; subst hx; exact hv
 ·simp at hx
theorem asStr_some {x : S} {n : ByteArray} {v : Value} (hv : SR ι x v) (hx : asStr x = some n) : v = .string n := by
 unfold asStr at hx;split at hx
 ·simp only [Option.some.injEq] at hx; subst hx; exact hv
 ·simp at hx
theorem asPtr_some {x : S} {p : Option (Nat × Nat)} {v : Value} (hv : SR ι x v) (hx : asPtr x = some p) :
  (p = none ∧ v = .pointer none) ∨ ∃ b o, p = some (b, o) ∧ ι.dom b ∧ v = .pointer (some ⟨ι.blk b, ι.sh b + o, none⟩) := by
 unfold asPtr at hx;split at hx
 ·simp only [Option.some.injEq] at hx; subst hx; exact .inl ⟨rfl, hv⟩
 ·simp only [Option.some.injEq] at hx; subst hx; exact .inr ⟨_, _, rfl, hv⟩
 ·simp at hx
theorem eqCell_rel (k : HR P ι h w) {t : TypeId} {x y : S} {u v : Value} {r : Bool} (hu : SR ι x u) (hv : SR ι y v) (hx : eqCell P h t x y = some r) (d : Nat) :
  (Op.equalIn (d + 1) t u v).run P w = .ok r w ∧ ∀ kind r', P.underlying t = some kind → Instr.sameNow kind u v = some r' → r' = r := by
 unfold eqCell at hx;split at hx
 ·rename_i kk ht;split at hx
  ·rename_i k1 a k2 b h1 h2
   cases hk : (k1 == k2) with
   | false => rw [hk] at hx; simp at hx
   | true =>
    rw [hk] at hx;simp only [cond_true, Option.some.injEq, eqI_eq] at hx;have hkk : k1 = k2 := by simpa using hk
    subst hkk;rw [asNum_some hu h1, asNum_some hv h2];subst hx;refine ⟨by rw [run_equalIn_int w d t k1 kk a b ht]; congr 1, fun kind r' hk' hs => ?_⟩;rw [ht] at hk'; cases hk';simp [Instr.sameNow] at hs;rw [← hs, Bool.eq_iff_iff]; simp
  ·unfold eqY at hx;split at hx
   ·rename_i k1 a k2 b h1 h2;simp only [Bool.cond_eq_ite] at hx;split at hx
    ·rename_i hg;simp only [Bool.and_eq_true, beq_iff_eq] at hg;obtain ⟨⟨rfl, g1⟩, g2⟩ := hg;obtain ⟨a1, a2, a3⟩ := asL_some (ι := ι) (u := u) (fun z hz => by cases hz; exact hu) h1;obtain ⟨b1, b2, b3⟩ := asL_some (ι := ι) (u := v) (fun z hz => by cases hz; exact hv) h2;rw [inR_wrap a2 g1] at a3;rw [inR_wrap b2 g2] at b3;subst a3 b3;rw [eqL_some k.kn.facts a2 b2 hx];refine ⟨by rw [run_equalIn_int w d t k1 kk _ _ ht]; congr 1, fun kind r' hk' hs => ?_⟩;rw [ht] at hk'; cases hk';simp [Instr.sameNow] at hs;rw [← hs, Bool.eq_iff_iff]; simp
    ·simp at hx
   ·simp at hx
 ·rename_i ht;split at hx
  ·rename_i a b h1 h2;simp only [Option.some.injEq] at hx; subst hx;rw [asB_some hu h1, asB_some hv h2];refine ⟨by rw [run_equalIn_bool' w d t a b ht], fun kind r' hk' hs => ?_⟩;rw [ht] at hk'; cases hk';simp [Instr.sameNow] at hs;exact hs.symm
  ·simp at hx
 ·rename_i ht;split at hx
  ·rename_i a b h1 h2;simp only [Option.some.injEq] at hx; subst hx;rw [asStr_some hu h1, asStr_some hv h2];refine ⟨by simp [Op.equalIn, run_und ht, beq_toListBytes], fun kind r' hk' hs => ?_⟩;rw [ht] at hk'; cases hk';simp only [Instr.sameNow, Option.some.injEq] at hs;rw [← hs, beq_toListBytes]
  ·simp at hx
 ·rename_i e ht;split at hx
  ·rename_i n hs;have hp : ptrB P t = true := by unfold ptrB; rw [ht]; simp only; rw [hs]
   have hno : ∀ kind r', P.underlying t = some kind → Instr.sameNow kind u v = some r' → r' = r := by
    intro kind r' hk' hs';rw [ht] at hk'; cases hk';simp [Instr.sameNow] at hs'
   refine ⟨?_, hno⟩;unfold eqPtr at hx;split at hx
   ·rename_i p q h1 h2;rcases asPtr_some hu h1 with ⟨rfl, rfl⟩ | ⟨b, o, rfl, hd, rfl⟩
    ·rcases asPtr_some hv h2 with ⟨rfl, rfl⟩ | ⟨b', o', rfl, hd', rfl⟩
     ·simp only [samePtrs, Option.some.injEq] at hx; subst hx;simp [Op.equalIn, run_und ht]
     ·simp only [samePtrs, Option.some.injEq] at hx; subst hx;exact (run_equal_ptr0 hp d).2
    ·rcases asPtr_some hv h2 with ⟨rfl, rfl⟩ | ⟨b', o', rfl, hd', rfl⟩
     ·simp only [samePtrs, Option.some.injEq] at hx; subst hx;exact (run_equal_ptr0 hp d).1
     ·simp only [samePtrs] at hx;exact run_equal_ptr k hp (samePtr_rel k hd hd' hx) d
   ·simp at hx
  ·simp at hx
 ·simp at hx
theorem flatB_agg {t : TypeId} (hf : flatB P t = true) : aggB P t = some false := by
 unfold flatB at hf;unfold aggB;split at hf <;> rename_i ht <;> first | (rw [ht]) | (simp at hf)
theorem run_part_flat {t : TypeId} {cs : Array Value} {i : Nat} {v : Value} (hf : flatB P t = true) (hv : cs[i]? = some v) (w : World) : (part t cs i).run P w = .ok v w := by
 simp [part, run_agg (flatB_agg hf), hv]
theorem flatFields_cons {n : Nat} {f : Field} {fs : List Field} (hf : flatFields P n (f :: fs) = true) : flatB P f.type = true ∧ f.offset = n ∧ f.name ≠ "_" ∧ flatFields P (n + 1) fs = true := by
 simp only [flatFields, Bool.and_eq_true, bne_iff_ne, ne_eq] at hf;exact ⟨hf.1.1.1, Nat.eq_of_beq_eq_true hf.1.1.2, hf.1.2, hf.2⟩
theorem eqFields_rel (k : HR P ι h w) {cs cs' : Array Value} (d : Nat) : ∀ (fs : List Field) (n : Nat) (xs ys : List S) (r : Bool), flatFields P n fs = true → All2 (SR ι) xs (cs.toList.drop n) → All2 (SR ι) ys (cs'.toList.drop n) → eqFieldsB P h fs xs ys = some r →
  (Op.eqFields (d + 1) cs cs' fs).run P w = .ok r w
 | [], n, xs, ys, r, _, hx, hy, he => by
  cases xs <;> cases ys <;> simp [eqFieldsB] at he;subst he; rfl
 | f :: fs, n, xs, ys, r, hf, hx, hy, he => by
  obtain ⟨f1, f2, f3, f4⟩ := flatFields_cons hf
  cases xs with
  | nil => simp [eqFieldsB] at he
  | cons x xs =>
   cases ys with
   | nil => simp [eqFieldsB] at he
   | cons y ys =>
    have split1 : ∀ {z : S} {zs : List S} {a : Array Value}, All2 (SR ι) (z :: zs) (a.toList.drop n) → ∃ u, a[n]? = some u ∧ SR ι z u ∧ All2 (SR ι) zs (a.toList.drop (n + 1)) := by
     intro z zs a ha
     have hn : n < a.toList.length := by
      have := ha.length;simp at this ⊢; omega
     rw [List.drop_eq_getElem_cons hn] at ha
     cases ha with
     | cons h1 h2 => exact ⟨_, by rw [← Array.getElem?_toList]; exact List.getElem?_eq_getElem hn, h1, h2⟩
    obtain ⟨u, hu1, hu2, hu3⟩ := split1 hx;obtain ⟨v, hv1, hv2, hv3⟩ := split1 hy;simp only [eqFieldsB] at he;simp only [Op.eqFields];rw [if_pos f3, f2];simp only [Sem.run_bind, run_part_flat f1 hu1, run_part_flat f1 hv1, Result.andThen_ok]
    cases hc : eqCell P h f.type x y with
    | none => simp [hc] at he
    | some q =>
     rw [(eqCell_rel k hu2 hv2 hc d).1]
     cases q with
     | true =>
      simp only [hc] at he;simp only [Result.andThen_ok, Bool.not_true, Bool.false_eq_true, if_false];exact eqFields_rel k d fs (n + 1) xs ys r f4 hu3 hv3 he
     | false =>
      simp only [hc, Option.some.injEq] at he;subst he; rfl
theorem keyB_some {t : TypeId} {q : Option (List Field)} (hk : keyB P t = some q) :
  (q = none ∧ flatB P t = true) ∨ ∃ fs, q = some fs.toList ∧ P.underlying t = some (.struct fs) ∧ flatFields P 0 fs.toList = true ∧ P.stoodInHeld t = false := by
 unfold keyB at hk
 cases hf : flatB P t with
 | true => rw [hf] at hk; simp at hk; exact .inl ⟨hk.symm, rfl⟩
 | false =>
  rw [hf] at hk;simp only [cond_false] at hk;split at hk
  ·rename_i fs hu
   cases hg : (flatFields P 0 fs.toList && !P.stoodInHeld t) with
   | false => rw [hg] at hk; simp at hk
   | true =>
    rw [hg] at hk;simp only [cond_true, Option.some.injEq] at hk;simp only [Bool.and_eq_true, Bool.not_eq_true'] at hg;exact .inr ⟨fs, hk.symm, hu, hg.1, hg.2⟩
  ·simp at hk
theorem eqKey_rel (k : HR P ι h w) {t : TypeId} {x y : V} {u v : Value} {r : Bool} (hu : VR ι x u) (hv : VR ι y v) (hx : eqKey P h t (keyB P t) x y = some r) :
  (Op.equal t u v).run P w = .ok r w ∧ ∀ kind r', P.underlying t = some kind → Instr.sameNow kind u v = some r' → r' = r := by
 unfold eqKey at hx;split at hx
 ·exact eqCell_rel k hu hv hx 9999
 ·rename_i fs xs ys hk;rcases keyB_some hk with ⟨h0, _⟩ | ⟨fs', h1, h2, h3, h4⟩
  ·cases h0
  ·cases h1;obtain ⟨cs, rfl, hc⟩ := hu;obtain ⟨cs', rfl, hc'⟩ := hv;have hfo : P.fieldsOf t = fs' := by simp [Program.fieldsOf, h2]
   refine ⟨?_, fun kind r' hk' hs => ?_⟩
   ·show (Op.equalIn (9999 + 1) t (.agg cs) (.agg cs')).run P w = _;rw [run_equalIn_struct w 9999 t cs cs' (by rw [hfo]; exact h2) h4, hfo];exact eqFields_rel k 9998 fs'.toList 0 xs ys r h3 (by simpa using hc) (by simpa using hc') hx
   ·rw [h2] at hk'; cases hk';simp [Instr.sameNow] at hs
 ·simp at hx
theorem run_check_flat {t : TypeId} {v : Value} (hf : flatB P t = true) (e : Bool) (n : Nat) (w : World) : (Instr.checkKey e (n + 1) t v).run P w = .ok () w := by
 unfold flatB at hf;split at hf <;> rename_i ht <;> first | (simp [Instr.checkKey, run_und ht]; done) | skip
 simp at hf
theorem run_check_struct {t : TypeId} {fs : Array Field} {cs : Array Value} (h2 : P.underlying t = some (.struct fs)) (h3 : flatFields P 0 fs.toList = true) (hl : fs.toList.length ≤ cs.size) (e : Bool) (m : Nat) (w : World) :
  (Instr.checkKey e (m + 1 + 1) t (.agg cs)).run P w = .ok () w := by
 rw [Instr.checkKey];simp only [Sem.run_bind, run_und h2, Result.andThen_ok];rw [← Array.forIn_toList];have hl0 : 0 + fs.toList.length ≤ cs.size := by omega
 clear h2 hl;generalize fs.toList = L at h3 hl0
 suffices H : ∀ n, flatFields P n L = true → n + L.length ≤ cs.size → _ from H 0 h3 hl0
 clear h3 hl0;intro n
 induction L generalizing n with
 | nil => intro h3 hl0; simp
 | cons f L ih =>
  intro h3 hl0;obtain ⟨f1, f2, f3, f4⟩ := flatFields_cons h3;simp only [List.length_cons] at hl0;have hcn : cs[n]? = some cs[n] := Array.getElem?_eq_getElem (by omega);simp only [List.forIn_cons, Sem.run_bind, f3, ne_eq, not_false_eq_true, if_true, f2, Result.andThen_ok, run_part_flat f1 hcn, run_check_flat f1 e m, Sem.run_pure];exact ih (n + 1) f4 (by omega)
theorem run_check {t : TypeId} {x : V} {v : Value} (hk : keyOk (keyB P t) x = true) (hv : VR ι x v) (e : Bool) (w : World) : (Instr.checkKey e 10000 t v).run P w = .ok () w := by
 unfold keyOk at hk;split at hk
 ·rename_i z hkb;rcases keyB_some hkb with ⟨_, hf⟩ | ⟨fs, h1, _⟩
  ·exact run_check_flat hf e 9999 w
  ·cases h1
 ·rename_i fs xs hkb;rcases keyB_some hkb with ⟨h0, _⟩ | ⟨fs', h1, h2, h3, h4⟩
  ·cases h0
  ·cases h1;obtain ⟨cs, rfl, hc⟩ := hv
   have hl : fs'.toList.length ≤ cs.size := by
    have := hc.length;have h5 := Nat.eq_of_beq_eq_true hk;simp at this h5 ⊢; omega
   exact run_check_struct h2 h3 hl e 9998 w
 ·simp at hk
end
end Go.Ai
