/-
LayoutWraps, part 7 of 48: AiOps5.
-/
import Derived.Test.YthacbaagffpkoaaLw06
set_option linter.unusedVariables false
set_option linter.unusedSimpArgs false
section
namespace Go.Ai
theorem gEi {α : Type _} {l : List α} {i : Nat} {a : α} : l[i]? = some a ↔ ∃ h : i < l.length, l[i] = a := List.getElem?_eq_some_iff
end Go.Ai
namespace Go.Ai
section
variable {P : Program} {ι : Inj} {h : H} {w : World}
structure Src (P : Program) (w : World) (size n m : Nat) (v : Value) (cs : Array Value) : Prop where
 len : ∀ k, (Builtin.lenOf v).run P { w with drawn := k } = .ok n { w with drawn := k }
 first : ∀ k, (Builtin.firstCells size m v).run P { w with drawn := k } = .ok cs { w with drawn := k }
theorem src_rel (k : HR P ι h w) {size m : Nat} {x : V} {v : Value} {n : Nat} {xs : List S} (hv : VR ι x v) (hl : srcLen x = some n) (hmn : m ≤ n) (hs : srcB h size m x = some xs) :
  ∃ cs, Src P w size n m v cs ∧ All2 (SR ι) xs cs.toList := by
 unfold srcLen at hl;split at hl
 ·simp only [Option.some.injEq] at hl; subst hl;have e : v = .slice none 0 0 := hv;subst e;simp only [srcB, Option.some.injEq] at hs; subst hs;exact ⟨#[], ⟨fun _ => rfl, fun _ => by simp [Builtin.firstCells]⟩, .nil⟩
 ·rename_i b o len cap sz ex;simp only [Option.some.injEq] at hl; subst hl;obtain ⟨hd, hlc, a, c, rfl, e1, e2, e3, e4, e5, e6⟩ := hv;simp only [srcB] at hs
  cases hm : Nat.beq m 0 with
  | true =>
   rw [hm] at hs;simp only [cond_true, Option.some.injEq] at hs; subst hs;have := Nat.eq_of_beq_eq_true hm;subst this;exact ⟨#[], ⟨fun _ => rfl, fun _ => by simp [Builtin.firstCells, loadCells, loadCellsFrom]⟩, .nil⟩
  | false =>
   rw [hm] at hs;simp only [cond_false] at hs;obtain ⟨_, vs, q1, q2, q3⟩ := row_rel k hs;have hm0 : m ≠ 0 := fun e => by rw [e, beq_self] at hm; cases hm
   have hoff : a = ⟨ι.blk b, ι.sh b + o, none⟩ := by
    cases a with
    | mk bb oo ss =>
     simp only at e1 e2 e3;subst e1; subst e2;rcases e3 with e3 | ⟨e3, _⟩
     ·rw [e3]
     ·omega
   subst hoff;refine ⟨vs.toArray, ⟨fun _ => rfl, fun kk => ?_⟩, by simpa using q2⟩;exact run_firstCells_some (P := P) { w with drawn := kk } size m _ len c vs q1 q3
 ·rename_i x;simp only [Option.some.injEq] at hl; subst hl;have e : v = .string x := hv;subst e;simp only [srcB] at hs
  cases hz : Nat.beq size 1 with
  | false => rw [hz] at hs; simp at hs
  | true =>
   rw [hz] at hs;simp only [cond_true, Option.some.injEq] at hs; subst hs;refine ⟨(x.extract 0 m).data.map fun b => .int .u8 b.toNat, ⟨fun _ => rfl, fun _ => by simp [Builtin.firstCells]⟩, ?_⟩;rw [Array.toList_map];generalize (x.extract 0 m).data.toList = l
   induction l with
   | nil => exact .nil
   | cons b l ih => exact .cons rfl ih
 ·rename_i e;split at hl
  ·rename_i hz;simp only [Option.some.injEq] at hl; subst hl;obtain ⟨_, a, c, n, rfl, hn⟩ := hv
   have he : e.eval ι.env = 0 := by
    unfold Lin.isNum at hz;split at hz
    ·rename_i ht;have hc : e.c = 0 := by simpa using hz
     simp [Lin.eval, ht, hc, evalTs]
    ·cases hz
   rw [he] at hn;have hn0 : n = 0 := by omega
   subst hn0;have hm0 : m = 0 := by omega
   subst hm0;simp only [srcB, Option.some.injEq] at hs; subst hs;refine ⟨#[], ⟨fun _ => rfl, fun _ => ?_⟩, .nil⟩;cases a <;> simp [Builtin.firstCells, loadCells, loadCellsFrom]
  ·cases hl
 ·simp at hl
theorem run_append_room {t u ty elem : TypeId} {i : TypeInfo} {du : TypeDesc} (ht : P.underlying t = some (.slice elem)) (hu : P.underlying u = some du) (hdu : ∀ k, du ≠ .int k) (hi : P.info? elem = some i)
  {base : Option Addr} {len c n : Nat} {x : Value} {cs : Array Value} (hsrc : Src P w i.size n n x cs) (hroom : len + n ≤ c) {w' : World}
  (hst : match base with | some a => (storeCells (a.add (len * i.size)) cs.toList).run P w = .ok () w' | none => w' = w) :
  (Builtin.append_ #[t, u] ty #[.slice base len c, x]).run P w = .ok (.slice base (len + n) c) w' := by
 have h1 : (Builtin.lenOf x).run P w = .ok n w := hsrc.len w.drawn;have h2 : (Builtin.firstCells i.size n x).run P w = .ok cs w := hsrc.first w.drawn;simp only [Builtin.append_, List.getElem?_toArray, List.getElem?_cons_zero, List.getElem?_cons_succ, Sem.run_bind, run_und ht, run_und hu, Result.andThen_ok, run_size (show sizeB P elem = some i.size by simp [sizeB, hi]), Sem.run_pure]
 cases du with
 | int kk => exact absurd rfl (hdu kk)
 | _ =>
  all_goals
   simp only [Bool.false_eq_true, if_false, Sem.run_bind, h1, Result.andThen_ok, hroom, if_true, Bool.not_false, h2]
   cases base with
   | none => simp only at hst; subst hst; rfl
   | some a => simp only at hst ⊢; simp only [Sem.run_bind, hst, Result.andThen_ok]; rfl
theorem run_append_grows {t u ty elem : TypeId} {i : TypeInfo} {du : TypeDesc} {z : Value} (ht : P.underlying t = some (.slice elem)) (hu : P.underlying u = some du) (hdu : ∀ k, du ≠ .int k) (hi : P.info? elem = some i) (hz : i.zero = some z)
  {base : Option Addr} {len c n : Nat} {x : Value} {cs old : Array Value} (hsrc : Src P w i.size n n x cs) (hold : (Builtin.firstCells i.size len (.slice base len c)).run P w.drew = .ok old w.drew)
  (hroom : ¬ len + n ≤ c) (hbytes : (len + n) * i.bytes ≤ 1099511627776) (hn : len + n ≤ 1099511627776) :
  (Builtin.append_ #[t, u] ty #[.slice base len c, x]).run P w = .ok (.slice (some ⟨w.heap.size, 0, none⟩) (len + n) (grownCap w (len + n) c elem)) (w.drew.alloc (.cells (old ++ cs ++ Builtin.zeroCells z.cells (grownCap w (len + n) c elem - (len + n))) elem)) := by
 have h1 : (Builtin.lenOf x).run P w = .ok n w := hsrc.len w.drawn;have h2 : (Builtin.firstCells i.size n x).run P w.drew = .ok cs w.drew := hsrc.first (w.drawn + 1);have h63 : ¬ ((len : Int) + (n : Int) > 9223372036854775807) := by omega
 have h48 := growslice_fits (need := len + n) (old := c) (bytes := i.bytes) (by omega) (by omega);have h48' : ¬ (Builtin.nextslicecap (len + n) c * i.bytes > 281474976710656) := by omega
 have hmax : IntKind.i64.max = 9223372036854775807 := by decide
 have h2p : 2 ^ 48 = 281474976710656 := by decide
 simp only [Builtin.append_, List.getElem?_toArray, List.getElem?_cons_zero, List.getElem?_cons_succ, Sem.run_bind, run_und ht, run_und hu, Result.andThen_ok, run_size (show sizeB P elem = some i.size by simp [sizeB, hi]), Sem.run_pure]
 cases du with
 | int kk => exact absurd rfl (hdu kk)
 | _ =>
  all_goals
   simp only [Bool.false_eq_true, if_false, Sem.run_bind, h1, Result.andThen_ok, hroom, Bool.not_false, if_true, run_info hi, Sem.run_ite, Sem.run_pure, hmax, Int.natCast_add, h63, false_and, h2p, h48', run_choose, Question.forced, run_askRoom, World.drew_eq, hold, h2, zeroValue, hz];rfl
structure App (P : Program) (w : World) (t u ty elem : TypeId) (i : TypeInfo) (z : Value) (n : Nat) (x : Value) (cs : Array Value) : Prop where
 room : ∀ {base : Option Addr} {len c : Nat} {w' : World}, len + n ≤ c → (match base with | some a => (storeCells (a.add (len * i.size)) cs.toList).run P w = .ok () w' | none => w' = w) → (Builtin.append_ #[t, u] ty #[.slice base len c, x]).run P w = .ok (.slice base (len + n) c) w'
 grows : ∀ {base : Option Addr} {len c : Nat} {old : Array Value}, (Builtin.firstCells i.size len (.slice base len c)).run P w.drew = .ok old w.drew → ¬ len + n ≤ c → (len + n) * i.bytes ≤ 1099511627776 → len + n ≤ 1099511627776 → (Builtin.append_ #[t, u] ty #[.slice base len c, x]).run P w = .ok (.slice (some ⟨w.heap.size, 0, none⟩) (len + n) (grownCap w (len + n) c elem)) (w.drew.alloc (.cells (old ++ cs ++ Builtin.zeroCells z.cells (grownCap w (len + n) c elem - (len + n))) elem))
theorem app_src {t u ty elem : TypeId} {i : TypeInfo} {du : TypeDesc} {z : Value} (ht : P.underlying t = some (.slice elem)) (hu : P.underlying u = some du) (hdu : ∀ k, du ≠ .int k) (hi : P.info? elem = some i) (hz : i.zero = some z) {n : Nat} {x : Value} {cs : Array Value} (hsrc : Src P w i.size n n x cs) : App P w t u ty elem i z n x cs :=
 ⟨fun h1 h2 => run_append_room ht hu hdu hi hsrc h1 h2, fun h1 h2 h3 h4 => run_append_grows ht hu hdu hi hz hsrc h1 h2 h3 h4⟩
theorem app_zeros {t u ty elem : TypeId} {i : TypeInfo} {z : Value} (ht : P.underlying t = some (.slice elem)) (hu : P.underlying u = some (.int .i64)) (hi : P.info? elem = some i) (hz : i.zero = some z) (hz1 : z.cells.size = i.size) {n : Nat} (hb : n * i.bytes ≤ 1099511627776) (hn : n ≤ 1099511627776) :
  App P w t u ty elem i z n (.int .i64 n) (Builtin.zeroCells z.cells n) := by
 have hw : IntKind.i64.wrap (n : Int) = n := zI (by omega) (by omega);have hneg : ¬ ((n : Int) < 0) := by omega
 have hbi : ((n : Int) * (i.bytes : Int)) = ((n * i.bytes : Nat) : Int) := by simp
 have hbig : ¬ ((n : Int) * (i.bytes : Int) > 281474976710656) := by rw [hbi]; omega
 have h2p : 2 ^ 48 = 281474976710656 := by decide
 have h2pi : (2 : Int) ^ 48 = 281474976710656 := by decide
 have hmax : IntKind.i64.max = 9223372036854775807 := by decide
 have hap : ∀ w1 : World, (if n * i.size = 0 then (pure #[] : Sem (Array Value)) else do pure (Builtin.zeroCells (← zeroValue elem).cells n)).run P w1 = .ok (Builtin.zeroCells z.cells n) w1 := by
  intro w1
  by_cases h0 : n * i.size = 0
  ·rw [if_pos h0];have : Builtin.zeroCells z.cells n = #[] := Array.eq_empty_of_size_eq_zero (by simp [Builtin.zeroCells, hz1, h0]);rw [this]; rfl
  ·rw [if_neg h0];simp [zeroValue, run_info hi, hz]
 have hap2 : ∀ w1 : World, (if n * i.size = 0 then (Result.ok #[] w1 : Result (Array Value)) else .ok (Builtin.zeroCells z.cells n) w1) = .ok (Builtin.zeroCells z.cells n) w1 := by
  intro w1
  by_cases h0 : n * i.size = 0
  ·rw [if_pos h0, show Builtin.zeroCells z.cells n = #[] from Array.eq_empty_of_size_eq_zero (by simp [Builtin.zeroCells, hz1, h0])]
  ·rw [if_neg h0]
 refine ⟨fun {base len c w'} hroom hst => ?_, fun {base len c old} hold hroom hbytes hnn => ?_⟩
 ·simp only [Builtin.append_, List.getElem?_toArray, List.getElem?_cons_zero, List.getElem?_cons_succ, Sem.run_bind, run_und ht, run_und hu, Result.andThen_ok, run_size (show sizeB P elem = some i.size by simp [sizeB, hi]), Sem.run_pure];simp only [if_true, Sem.run_bind, asInt, asIntOf, Sem.run_pure, Result.andThen_ok, hw, hneg, if_false, run_info hi, hbi, h2pi, Int.toNat_natCast, hroom, Bool.not_true, Bool.false_eq_true];rw [hbi] at hbig;simp only [hbig, if_false, Sem.run_pure, Result.andThen_ok, Sem.run_bind, hap];simp only [hroom, if_true, Sem.run_bind, hap, Result.andThen_ok]
  cases base with
  | none => simp only at hst; subst hst; rfl
  | some a => simp only at hst ⊢; simp only [Sem.run_bind, hst, Result.andThen_ok]; rfl
 ·have h63 : ¬ ((len : Int) + (n : Int) > 9223372036854775807) := by omega
  have h48 := growslice_fits (need := len + n) (old := c) (bytes := i.bytes) (by omega) (by omega);have h48' : ¬ (Builtin.nextslicecap (len + n) c * i.bytes > 281474976710656) := by omega
  simp only [Builtin.append_, List.getElem?_toArray, List.getElem?_cons_zero, List.getElem?_cons_succ, Sem.run_bind, run_und ht, run_und hu, Result.andThen_ok, run_size (show sizeB P elem = some i.size by simp [sizeB, hi]), Sem.run_pure];simp only [if_true, Sem.run_bind, asInt, asIntOf, Sem.run_pure, Result.andThen_ok, hw, hneg, if_false, run_info hi, hbi, h2pi, Int.toNat_natCast, hroom, Bool.not_true, Bool.false_eq_true];rw [hbi] at hbig;simp only [hbig, if_false, Sem.run_pure, Result.andThen_ok, Sem.run_bind, hap];simp only [hroom, if_false, Sem.run_pure, Result.andThen_ok, Sem.run_bind, hap, run_info hi, Sem.run_ite, hmax, Int.natCast_add, h63, false_and, h2p, h48', run_choose, Question.forced, run_askRoom, World.drew_eq, hold, zeroValue, hz, hap2, Bool.false_eq_true];rfl
theorem size_zeros (z : Array Value) (n : Nat) : (Builtin.zeroCells z n).size = n * z.size := by simp [Builtin.zeroCells]
theorem grown_simG (k : HR P ι h w) {elem size need n : Nat} {cs : T S} {old xs : List S} {co cx : Array Value} {z : Array Value} {g : Nat} (ho : All2 (SR ι) old co.toList) (hx : All2 (SR ι) xs cx.toList) (hlen : (old ++ xs).length = need * size) (hz : z.size = size) (hg : need ≤ g)
  (hn : n = (old ++ xs).length) (hcs : ∀ j, j < n → ∃ x, cs.get j = some x ∧ (old ++ xs)[j]? = some x) :
  ∃ ι', Step P ι h w ι' (h.alloc (.cells elem cs n)) (w.drew.alloc (.cells (co ++ cx ++ Builtin.zeroCells z (g - need)) elem)) ∧
   SR ι' (.sl h.next 0 need need size false) (.slice (some ⟨w.heap.size, 0, none⟩) need g) := by
 have hl1 := ho.length;have hl2 := hx.length;simp only [Array.length_toList] at hl1 hl2
 have hget : ∀ j, j < n → ∃ x v, cs.get j = some x ∧ (co ++ cx ++ Builtin.zeroCells z (g - need))[j]? = some v ∧ SR ι x v := by
  intro j hj;obtain ⟨x, hx1, hx2⟩ := hcs j hj;obtain ⟨v, hv, hr⟩ := (ho.append hx).get j x hx2;refine ⟨x, v, hx1, ?_, hr⟩;have hlt : j < (co.toList ++ cx.toList).length := (gEi.1 hv).1;rw [Array.getElem?_append_left (by simp at hlt ⊢; omega)];rw [← Array.getElem?_toList, Array.toList_append];exact hv
 have hsz : (co ++ cx ++ Builtin.zeroCells z (g - need)).size = co.size + cx.size + (g - need) * size := by simp only [Array.size_append, size_zeros, hz]
 have hcc : co.size + cx.size = need * size := by rw [← hlen, List.length_append]; omega
 have hstep := Step.rowG (w := w.drew) (k.drew (w.drawn + 1)) (e := elem) cs n _ (by rw [hsz, hn, hlen]; omega) hget;refine ⟨_, Step.drew0 (n := w.drawn + 1) hstep, Or.inl rfl, Nat.le_refl _, ⟨w.heap.size, 0, none⟩, g, rfl, by simp [Inj.add], rfl, .inl (by simp [Inj.add]), hg, by simp, ?_⟩;simp only [Inj.add, if_true];rw [hsz];have h2 : need * size + (g - need) * size = g * size := by rw [← Nat.add_mul]; congr 1; omega
 omega
theorem grown_sim (k : HR P ι h w) {elem size need : Nat} {old xs : List S} {co cx : Array Value} {z : Array Value} {g : Nat} (ho : All2 (SR ι) old co.toList) (hx : All2 (SR ι) xs cx.toList) (hlen : (old ++ xs).length = need * size) (hz : z.size = size) (hg : need ≤ g) :
  ∃ ι', Step P ι h w ι' (h.alloc (.cells elem (T.setMany .e 0 (old ++ xs)) (old ++ xs).length)) (w.drew.alloc (.cells (co ++ cx ++ Builtin.zeroCells z (g - need)) elem)) ∧
   SR ι' (.sl h.next 0 need need size false) (.slice (some ⟨w.heap.size, 0, none⟩) need g) :=
 grown_simG k ho hx hlen hz hg rfl fun j hj => ⟨_, by rw [T.get_row]; exact List.getElem?_eq_getElem hj, List.getElem?_eq_getElem hj⟩
theorem row_get {e m : Nat} {cs : T S} : ∀ (n j0 : Nat) (ys : List S), (O.cells e cs m).row n j0 = some ys → ys.length = n ∧ ∀ i, i < n → ∃ x, cs.get (j0 + i) = some x ∧ ys[i]? = some x
 | 0, j0, ys, hr => by simp [O.row] at hr; subst hr; exact ⟨rfl, fun i hi => by omega⟩
 | n + 1, j0, ys, hr => by
  simp only [O.row] at hr
  cases c1 : (O.cells e cs m).cell j0 with
  | none => simp [c1] at hr
  | some x =>
   cases c2 : (O.cells e cs m).row n (j0 + 1) with
   | none => simp [c1, c2] at hr
   | some r' =>
    simp [c1, c2] at hr; subst hr;obtain ⟨ih1, ih2⟩ := row_get n (j0 + 1) r' c2;refine ⟨by simp [ih1], fun i hi => ?_⟩
    cases i with
    | zero =>
     refine ⟨x, ?_, rfl⟩;simp only [O.cell] at c1
     cases hb : Nat.blt j0 m with
     | false => simp [hb] at c1
     | true => simpa [hb] using c1
    | succ i =>
     obtain ⟨x', y1, y2⟩ := ih2 i (by omega);exact ⟨x', by rw [show j0 + (i + 1) = j0 + 1 + i by omega]; exact y1, by simpa using y2⟩
theorem growB_form {b o l elem : Nat} {xs old : List S} {r : R} {K : H → Nat → Option R} (hold : h.row b o l = some old) (hK : growB h b o l elem xs old K = some r) :
  ∃ e cs m cs' n', h.get b = some (.cells e cs m) ∧ e = elem ∧ h.may b = true ∧ n' = (old ++ xs).length ∧ (∀ j, j < n' → ∃ x, cs'.get j = some x ∧ (old ++ xs)[j]? = some x) ∧ K ((h.kill b).alloc (.cells elem cs' n')) h.next = some r := by
 unfold growB at hK;split at hK
 ·rename_i e cs m hg
  cases hm : (h.may b && Nat.beq e elem) with
  | false => rw [hm] at hK; simp at hK
  | true =>
   rw [hm] at hK;simp only [cond_true] at hK;simp only [Bool.and_eq_true] at hm;have he := Nat.eq_of_beq_eq_true hm.2
   have hr0 : (O.cells e cs m).row l o = some old := by
    unfold H.row at hold;rw [hg] at hold;exact hold
   obtain ⟨hol, hO⟩ := row_get l o old hr0
   cases hfast : (Nat.beq o 0 && Nat.beq l m) with
   | true =>
    rw [hfast] at hK;simp only [cond_true, H.killK_eq, T.setManyK_eq, forceN_eq, H.allocK_eq] at hK;simp only [Bool.and_eq_true] at hfast;have ho0 := Nat.eq_of_beq_eq_true hfast.1;have hlm := Nat.eq_of_beq_eq_true hfast.2;subst ho0; subst hlm;refine ⟨e, cs, l, _, _, hg, he, hm.1, by rw [List.length_append, hol], ?_, hK⟩;intro j hj;rw [T.get_setMany]
    by_cases hin : l ≤ j ∧ j < l + xs.length
    ·rw [if_pos hin];exact ⟨_, List.getElem?_eq_getElem (by omega), by rw [List.getElem?_append_right (by omega), hol]; exact List.getElem?_eq_getElem (by omega)⟩
    ·rw [if_neg hin];obtain ⟨x, y1, y2⟩ := hO j (by omega);exact ⟨x, by simpa using y1, by rw [List.getElem?_append_left (by omega)]; exact y2⟩
   | false =>
    rw [hfast] at hK;simp only [cond_false, H.killK_eq, H.rowK_eq] at hK;exact ⟨e, cs, m, _, _, hg, he, hm.1, rfl, fun j hj => ⟨_, by rw [T.get_row]; exact List.getElem?_eq_getElem hj, List.getElem?_eq_getElem hj⟩, hK⟩
 ·simp at hK
theorem growB_move (k : HR P ι h w) {b o l elem size c : Nat} {xs old : List S} {cx : Array Value} {r : R} {K : H → Nat → Option R}
  (hold : h.row b o l = some old) (hx : All2 (SR ι) xs cx.toList) (hl : l + xs.length ≤ c * size) (hlim : o + c * size ≤ ι.lim b) (hK : growB h b o l elem xs old K = some r) :
  ∃ h' ι' w', K h' h.next = some r ∧ (storeCells ⟨ι.blk b, ι.sh b + o + l, none⟩ cx.toList).run P w = .ok () w' ∧ Step P ι h w ι' h' w' ∧ ι'.dom h.next ∧ ι'.blk h.next = ι.blk b ∧ ι'.sh h.next = ι.sh b + o ∧ ι'.lim h.next = ι.lim b - o := by
 obtain ⟨e, cs, m, cs', n', hg, rfl, hm, hn', hcs, hK⟩ := growB_form hold hK;obtain ⟨hd, arr, h1, h2, h3, h5, _⟩ := k.obj b _ hg;have hlx : xs.length = cx.size := by simpa using hx.length
 have hst := run_storeCells_at P (ι.blk b) (ι.sh b + o + l) e cx.toList 0 arr w h1 (by simp; omega) (SR.all_cell hx);simp only [Nat.add_zero] at hst;obtain ⟨_, vs, q1, q2, q3⟩ := row_rel k hold;have hol : old.length = l := by rw [q2.length, q1]
 have hext : Ext ι (ι.add h.next (ι.blk b) (ι.sh b + o) (ι.lim b - o) #[]) := Inj.add_ext k.fresh
 refine ⟨_, _, _, hK, hst, Step.moveObj k hg rfl hm (ι.sh b + o) (ι.lim b - o) #[] (by simp) (by simp) (by simp) (by simp) (fun g hg' => setRow_other w _ g _ hg') rfl
  ⟨(arr.toList.take (ι.sh b + o + l) ++ cx.toList ++ arr.toList.drop (ι.sh b + o + l + cx.toList.length)).toArray, ?_, ?_, ?_, fun j hj => ?_, fun j v _ hv => by simp [Inj.add] at hv⟩, Or.inl rfl, by simp [Inj.add], by simp [Inj.add], by simp [Inj.add]⟩
 ·simp only [Inj.add, if_true]; exact setRow_heap w _ arr _ e (0, 0) h1
 ·simp only [Inj.add, if_true]; simp; omega
 ·simp only [Inj.add, if_true]; rw [hn', List.length_append]; omega
 ·obtain ⟨x, e1, e2⟩ := hcs j hj;rw [hn', List.length_append] at hj;simp only [Inj.add, if_true]
  have key : ∃ v, ((arr.toList.take (ι.sh b + o + l) ++ cx.toList ++ arr.toList.drop (ι.sh b + o + l + cx.toList.length)).toArray)[ι.sh b + o + j]? = some v ∧ SR ι x v := by
   simp only [List.getElem?_toArray];rw [List.append_assoc];rcases Nat.lt_or_ge j l with hlo | hhi
   ·rw [List.getElem?_append_left (by omega)] at e2;obtain ⟨v, hv, hr⟩ := q2.get j _ e2;have hc := q3 j v hv;rw [add_none, cell_of_row w _ _ arr e (0, 0) h1] at hc;have hlt : ι.sh b + o + j < arr.size := (Array.getElem?_eq_some_iff.1 hc).1;refine ⟨v, ?_, hr⟩;rw [List.getElem?_append_left (by simp; omega), List.getElem?_take_of_lt (by omega)];simpa using hc
   ·rw [List.getElem?_append_right (by omega), hol] at e2;obtain ⟨v, hv, hr⟩ := hx.get (j - l) _ e2;refine ⟨v, ?_, hr⟩;rw [List.getElem?_append_right (by simp; omega), List.getElem?_append_left (by simp; omega)];simp only [List.length_take, Array.length_toList];rw [show ι.sh b + o + j - min (ι.sh b + o + l) arr.size = j - l by omega];exact hv
  obtain ⟨v, f2, f3⟩ := key;exact ⟨x, v, e1, f2, f3.ext hext⟩
theorem growB_new (k : HR P ι h w) {b o l elem size need : Nat} {xs old : List S} {co cx : Array Value} {z : Array Value} {g : Nat} {r : R} {K : H → Nat → Option R}
  (hold : h.row b o l = some old) (ho : All2 (SR ι) old co.toList) (hx : All2 (SR ι) xs cx.toList) (hlen : (old ++ xs).length = need * size) (hz : z.size = size) (hg : need ≤ g) (hK : growB h b o l elem xs old K = some r) :
  ∃ h' ι', K h' h.next = some r ∧ Step P ι h w ι' h' (w.drew.alloc (.cells (co ++ cx ++ Builtin.zeroCells z (g - need)) elem)) ∧ SR ι' (.sl h.next 0 need need size false) (.slice (some ⟨w.heap.size, 0, none⟩) need g) := by
 obtain ⟨e, cs, m, cs', n', hgb, rfl, hm, hn', hcs, hK⟩ := growB_form hold hK;have s1 := Step.kill k b;obtain ⟨ι', s2, hv⟩ := grown_simG s1.hr (elem := e) ho hx hlen hz hg hn' hcs;exact ⟨_, ι', hK, s1.trans s2, hv⟩
theorem srcType_some {u : TypeId} (hu : srcType P u = true) : ∃ du, P.underlying u = some du ∧ ∀ k, du ≠ .int k := by
 unfold srcType at hu;split at hu
 ·rename_i e he; exact ⟨_, he, fun k h => by cases h⟩
 ·rename_i he; exact ⟨_, he, fun k h => by cases h⟩
 ·simp at hu
theorem appendTo_sim (k : HR P ι h w) {t u ty elem : TypeId} {i : TypeInfo} {z : Value} {xs : List S} {n : Nat} {s : Option V} {v x : Value} {cx : Array Value} {r : R}
  (hz1 : z.cells.size = i.size) (hz0 : 0 < i.size)
  (hv : ∀ y, s = some y → VR ι y v) (hA : App P w t u ty elem i z n x cx) (hx : All2 (SR ι) xs cx.toList) (hl : xs.length = n * i.size) (hr : appendTo P h elem i xs n s = some r) :
  SimV P ι h w r (Builtin.append_ #[t, u] ty #[v, x]) := by
 have hlx : xs.length = cx.size := by simpa using hx.length
 unfold appendTo at hr;split at hr
 ·have e : v = .slice none 0 0 := hv _ rfl;subst e
  cases hn : Nat.beq n 0 with
  | true =>
   rw [hn] at hr;simp only [cond_true, Option.some.injEq] at hr; subst hr;have := Nat.eq_of_beq_eq_true hn;subst this;exact SimV.same k (v := .one .sl0) (v' := .slice none 0 0) rfl (hA.room (by omega) (w' := w) rfl)
  | false =>
   rw [hn] at hr;simp only [cond_false] at hr
   cases hg : (Nat.ble (n * i.bytes) 1099511627776 && Nat.ble n 1099511627776) with
   | false => rw [hg] at hr; simp at hr
   | true =>
    rw [hg, H.rowK_eq, slR_eq] at hr;simp only [cond_true, Option.some.injEq] at hr; subst hr;simp only [Bool.and_eq_true] at hg;have g1 := Nat.le_of_ble_eq_true hg.1;have g2 := Nat.le_of_ble_eq_true hg.2;have hn0 : n ≠ 0 := fun e => by rw [e, beq_self] at hn; cases hn
    obtain ⟨ι', hs, hv'⟩ := grown_sim k (elem := elem) (size := i.size) (need := n) (old := []) (xs := xs) (co := #[]) (cx := cx) (z := z.cells) (g := grownCap w (0 + n) 0 elem) .nil hx (by simpa using hl) hz1 (by have := grownCap_ge w (0 + n) 0 elem; omega);have hrun := hA.grows (base := none) (len := 0) (c := 0) (old := #[]) (by simp [Builtin.firstCells]) (by omega) (by simpa using g1) (by simpa using g2);simp only [Nat.zero_add] at hrun hs hv';exact ⟨_, _, rfl, ι', _, _, hrun, hv', by simpa using hs⟩
 ·rename_i b o len cap sz ex;obtain ⟨hd, hlc, a, c, rfl, e1, e2, e3, e4, e5, e6⟩ := hv _ rfl
  cases hsz : Nat.beq sz i.size with
  | false => rw [hsz] at hr; simp at hr
  | true =>
   rw [hsz] at hr;simp only [cond_true] at hr;have hsz' := Nat.eq_of_beq_eq_true hsz;subst hsz'
   have ha : len + n ≤ c → xs ≠ [] → a = ⟨ι.blk b, ι.sh b + o, none⟩ := by
    intro hc hne
    have hn0 : 0 < n := by
     rcases Nat.eq_zero_or_pos n with h0 | h0
     ·subst h0;have : xs = [] := List.eq_nil_of_length_eq_zero (by simpa using hl);exact absurd this hne
     ·exact h0
    cases a with
    | mk bb oo ss =>
     simp only at e1 e2 e3;subst e1; subst e2;rcases e3 with e3 | ⟨_, e3⟩
     ·rw [e3]
     ·omega
   have hmul : len * i.size + xs.length = (len + n) * i.size := by rw [hl, Nat.add_mul]
   cases hroom : Nat.ble (len + n) cap with
   | true =>
    rw [hroom] at hr;simp only [cond_true] at hr;have hroom := Nat.le_of_ble_eq_true hroom;split at hr
    ·rename_i h' hst;rw [slR_eq] at hr;simp only [Option.some.injEq] at hr; subst hr;obtain ⟨w', hr', hs⟩ := storeB_sim k hst hx;refine ⟨_, _, rfl, ι, .slice (some a) (len + n) c, w', ?_, ⟨hd, hroom, a, c, rfl, e1, e2, ?_, e4, e5, e6⟩, hs⟩
     ·refine hA.room (by omega) ?_;show (storeCells (a.add (len * i.size)) cx.toList).run P w = .ok () w'
      by_cases hne : xs = []
      ·subst hne;have : cx = #[] := by apply Array.eq_empty_of_size_eq_zero; simpa using hlx.symm
       subst this;simpa [storeCells] using hr'
      ·rw [ha (by omega) hne, add_none, Nat.add_assoc]; exact hr'
     ·rcases e3 with e3 | ⟨e3, e3'⟩
      ·exact .inl e3
      ·exact .inr ⟨by omega, e3'⟩
    ·simp at hr
   | false =>
    rw [hroom] at hr;simp only [cond_false] at hr;have hroom : ¬ len + n ≤ cap := fun hh => by rw [Nat.ble_eq_true_of_le hh] at hroom; cases hroom
    cases hg : (Nat.ble ((len + n) * i.bytes) 1099511627776 && Nat.ble (len + n) 1099511627776) with
    | false => rw [hg] at hr; simp at hr
    | true =>
     rw [hg] at hr;simp only [cond_true] at hr;simp only [Bool.and_eq_true] at hg;have g1 := Nat.le_of_ble_eq_true hg.1;have g2 := Nat.le_of_ble_eq_true hg.2;split at hr
     ·rename_i old hold;obtain ⟨_, vs, q1, q2, q3⟩ := row_rel k hold
      have hfirst : (Builtin.firstCells i.size len (.slice (some a) len c)).run P w.drew = .ok vs.toArray w.drew := by
       rcases Nat.eq_zero_or_pos len with h0 | h0
       ·subst h0;have : vs = [] := List.eq_nil_of_length_eq_zero (by simpa using q1);subst this;simp [Builtin.firstCells, loadCells, loadCellsFrom]
       ·have hae : a = ⟨ι.blk b, ι.sh b + o, none⟩ := by
         cases a with
         | mk bb oo ss =>
          simp only at e1 e2 e3;subst e1; subst e2;rcases e3 with e3 | ⟨e3, _⟩
          ·rw [e3]
          ·omega
        subst hae;exact run_firstCells_some (P := P) w.drew i.size len _ len c vs q1 q3
      have hlen : (old ++ xs).length = (len + n) * i.size := by rw [List.length_append, q2.length, q1, hmul]
      have grow : ¬ len + n ≤ c → ∃ ι', (Builtin.append_ #[t, u] ty #[.slice (some a) len c, x]).run P w = .ok (.slice (some ⟨w.heap.size, 0, none⟩) (len + n) (grownCap w (len + n) c elem)) (w.drew.alloc (.cells (vs.toArray ++ cx ++ Builtin.zeroCells z.cells (grownCap w (len + n) c elem - (len + n))) elem)) ∧
        Step P ι h w ι' (h.alloc (.cells elem (T.setMany .e 0 (old ++ xs)) (old ++ xs).length)) (w.drew.alloc (.cells (vs.toArray ++ cx ++ Builtin.zeroCells z.cells (grownCap w (len + n) c elem - (len + n))) elem)) ∧
        SR ι' (.sl h.next 0 (len + n) (len + n) i.size false) (.slice (some ⟨w.heap.size, 0, none⟩) (len + n) (grownCap w (len + n) c elem)) := by
       intro hc;obtain ⟨ι', hs, hv'⟩ := grown_sim k (elem := elem) (size := i.size) (need := len + n) (old := old) (xs := xs) (co := vs.toArray) (cx := cx) (z := z.cells) (g := grownCap w (len + n) c elem) (by simpa using q2) hx hlen hz1 (grownCap_ge w (len + n) c elem);exact ⟨ι', hA.grows hfirst hc g1 g2, hs, hv'⟩
      cases ex with
      | true =>
       simp only [cond_true, H.rowK_eq, slR_eq, Option.some.injEq] at hr;subst hr;have hcc := e5 rfl;obtain ⟨ι', hrun, hs, hv'⟩ := grow (by omega);exact ⟨_, _, rfl, ι', _, _, hrun, hv', hs⟩
      | false =>
       simp only [cond_false] at hr
       by_cases hc : len + n ≤ c
       ·-- there is room: in place, under a new number
        have hle : len * i.size + xs.length ≤ c * i.size := by rw [hmul]; exact Nat.mul_le_mul_right _ hc
        obtain ⟨h', ι', w', hK, hst, hs, d1, d2, d3, d4⟩ := growB_move k hold hx hle e6 hr;rw [slR_eq] at hK;simp only [Option.some.injEq] at hK; subst hK;have hn0 : 0 < n := by omega
        have hne : xs ≠ [] := fun e => by
         rw [e] at hl;have : 0 < n * i.size := Nat.mul_pos hn0 hz0;simp at hl; omega
        have hae := ha hc hne;refine ⟨_, _, rfl, ι', .slice (some a) (len + n) c, w', ?_, ⟨d1, Nat.le_refl _, a, c, rfl, by rw [d2]; exact e1, e2, .inl (by rw [d3, hae]; rfl), hc, by simp, ?_⟩, hs⟩
        ·refine hA.room hc ?_;show (storeCells (a.add (len * i.size)) cx.toList).run P w = .ok () w';rw [hae, add_none]; exact hst
        ·rw [d4]; omega
       ·obtain ⟨ι', hrun, _, _⟩ := grow hc;obtain ⟨h', ι2, hK, hs, hv'⟩ := growB_new (co := vs.toArray) (cx := cx) (z := z.cells) (g := grownCap w (len + n) c elem) k hold (by simpa using q2) hx hlen hz1 (grownCap_ge w (len + n) c elem) hr;rw [slR_eq] at hK;simp only [Option.some.injEq] at hK; subst hK;exact ⟨_, _, rfl, ι2, _, _, hrun, hv', hs⟩
     ·simp at hr
 ·simp at hr
end
end Go.Ai
end
