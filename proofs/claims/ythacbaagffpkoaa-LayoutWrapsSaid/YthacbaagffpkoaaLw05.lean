/-
LayoutWraps, part 5 of 48: AiOps2 AiOps3.
-/
import Derived.Test.YthacbaagffpkoaaLw04
set_option linter.unusedVariables false
set_option linter.unusedSimpArgs false
namespace Go.Ai
section
variable {P : Program} {ι : Inj} {h : H} {w : World}
theorem Step.rowG (k : HR P ι h w) {e : Nat} (cs : T S) (n : Nat) (c : Array Value) (hn : n ≤ c.size) (hc : ∀ j, j < n → ∃ x v, cs.get j = some x ∧ c[j]? = some v ∧ SR ι x v) :
  Step P ι h w (ι.add h.next w.heap.size 0 c.size #[]) (h.alloc (.cells e cs n)) (w.alloc (.cells c e)) := by
 have hx : Ext ι (ι.add h.next w.heap.size 0 c.size #[]) := Inj.add_ext k.fresh;refine Step.newObj k _ _ _ _ _ ⟨c, ?_, by simp [Inj.add], ?_, fun j hj => ?_, fun j v _ hv => by simp [Inj.add] at hv⟩
 ·simp only [Inj.add, if_true]; exact heap_alloc_new w _
 ·simp only [Inj.add, if_true]; exact hn
 ·obtain ⟨x, v, h1, h2, h3⟩ := hc j hj;exact ⟨x, v, h1, by simp only [Inj.add, if_true, Nat.zero_add]; exact h2, h3.ext hx⟩
theorem Step.row (k : HR P ι h w) {e : Nat} (xs : List S) (c : Array Value) (hc : ∀ (j : Nat) (x : S), xs[j]? = some x → ∃ v : Value, c[j]? = some v ∧ SR ι x v) :
  Step P ι h w (ι.add h.next w.heap.size 0 c.size #[]) (h.alloc (.cells e (T.setMany .e 0 xs) xs.length)) (w.alloc (.cells c e)) := by
 refine Step.rowG k _ _ c ?_ fun j hj => ?_
 ·rcases Nat.lt_or_ge c.size xs.length with hlt | hge
  ·obtain ⟨v, hv, _⟩ := hc c.size _ (List.getElem?_eq_getElem hlt);simp at hv
  ·exact hge
 ·obtain ⟨v, hv, hr⟩ := hc j _ (List.getElem?_eq_getElem hj);exact ⟨_, v, by rw [T.get_row]; exact List.getElem?_eq_getElem hj, hv, hr⟩
theorem Step.kill (k : HR P ι h w) (b : Nat) : Step P ι h w ι (h.kill b) w := by
 have get : ∀ c x, (h.kill b).get c = some x → h.get c = some x := by
  intro c x hc;rw [H.get_kill] at hc
  by_cases e : c = b
  ·rw [if_pos e] at hc; cases hc
  ·rw [if_neg e] at hc; exact hc
 exact ⟨.refl ι, ⟨k.dom, fun c x hc => k.obj c x (get c x hc), fun c c' x x' hc hc' => k.inj c c' x x' (get c x hc) (get c' x' hc'), k.hid, fun c x hc => k.lt c x (get c x hc), k.frz, k.kn⟩, Nat.le_refl _, rfl, rfl, rfl, rfl, rfl, Nat.le_refl _, fun _ h => .inl h,
  fun c x _ hc => ⟨x, get c x hc, rfl, rfl⟩, fun c x hn hc => absurd (k.dom c (k.obj c x (get c x hc)).1) (by omega),
  fun c _ ⟨d, x, hd, h1, h2, h3⟩ => ⟨d, x, get d x hd, h1, h2, h3⟩, fun _ _ _ => rfl, rfl, rfl⟩
theorem all2_arr {xs : List S} {c : Array Value} (k : All2 (SR ι) xs c.toList) : ∀ (j : Nat) (x : S), xs[j]? = some x → ∃ v : Value, c[j]? = some v ∧ SR ι x v := fun j x hx => by
 obtain ⟨v, hv, hr⟩ := k.get j x hx;exact ⟨v, by simpa using hv, hr⟩
theorem alloc1_sim (k : HR P ι h w) {e : TypeId} {v : V} {u : Value} {r : R} (hv : VR ι v u) (ht : v.isTup = false) (hx : alloc1 h e v = some r) : SimV P ι h w r (do pure (.pointer (some (← newVar e u)))) := by
 unfold alloc1 at hx;rw [H.rowK_eq] at hx;cases hx;refine ⟨_, _, rfl, _, .pointer (some ⟨w.heap.size, 0, none⟩), _, ?_, ?_, Step.row k v.cells u.cells (all2_arr (hv.cells ht))⟩
 ·simp [newVar, newRow]
 ·exact ⟨Or.inl rfl, by simp [Inj.add]⟩
theorem doAlloc_sim (k : HR P ι h w) {e : TypeId} {r : R} (hx : doAlloc P h e = some r) : SimV P ι h w r (Instr.alloc e true (.tuple #[])) := by
 unfold doAlloc at hx;split at hx
 ·rename_i z hz;rw [zeroB_isTup hz] at hx;obtain ⟨u, hu, hr⟩ := run_zero hz;obtain ⟨v, h', e1, ι', v', w', e2, e3, e4⟩ := alloc1_sim k (hr ι) (zeroB_isTup hz) hx;exact ⟨v, h', e1, ι', v', w', by simpa [Instr.alloc, hu] using e2, e3, e4⟩
 ·simp at hx
theorem doBox_sim (k : HR P ι h w) {e : TypeId} {x : Option V} {u : Value} {r : R} (hv : ∀ y, x = some y → VR ι y u) (hx : doBox P h e x = some r) : SimV P ι h w r (Instr.box e u) := by
 unfold doBox at hx;split at hx
 ·rename_i v hy
  have : x = some v ∧ v.isTup = false := by
   unfold ofTup at hy;split at hy
   ·simp at hy
   ·rename_i hn;refine ⟨hy, ?_⟩
    cases v with
    | tup ps => exact absurd hy (hn ps)
    | _ => rfl
  exact alloc1_sim k (hv v this.1) this.2 hx
 ·simp at hx
theorem storeB_sim (k : HR P ι h w) {b o : Nat} {xs : List S} {h' : H} {vs : List Value} (hx : storeB h b o xs = some h') (hv : All2 (SR ι) xs vs) :
  ∃ w', (storeCells ⟨ι.blk b, ι.sh b + o, none⟩ vs).run P w = .ok () w' ∧ Step P ι h w ι h' w' := by
 unfold storeB at hx;split at hx
 ·cases hv; cases hx; exact ⟨w, rfl, .refl k⟩
 ·rename_i hne;split at hx
  ·rename_i e cs n hg
   cases hm : (h.may b && Nat.ble (o + xs.length) n) with
   | false => rw [hm] at hx; simp at hx
   | true =>
    rw [hm] at hx;simp only [cond_true, T.setManyK_eq, H.putK_eq, Option.some.injEq] at hx;subst hx;simp only [Bool.and_eq_true] at hm;have hle := Nat.le_of_ble_eq_true hm.2;obtain ⟨hd, c, h1, h2, h3, h5, h6⟩ := k.obj b _ hg;have hl : xs.length = vs.length := hv.length;have hst := run_storeCells_at P (ι.blk b) (ι.sh b + o) e vs 0 c w h1 (by omega) (SR.all_cell hv);simp only [Nat.add_zero] at hst;refine ⟨_, hst, Step.putObj k hg rfl hm.1 (by simp) (by simp) (by simp) (by simp) (fun g hg' => setRow_other w _ g _ hg') rfl ⟨_, setRow_heap w _ c _ e (0, 0) h1, ?_, h3, fun j hj => ?_, fun j v hj hv => ?_⟩⟩
    ·simp; omega
    ·rw [T.get_setMany]
     by_cases hin : o ≤ j ∧ j < o + xs.length
     ·rw [if_pos hin];have hlt : j - o < xs.length := by omega
      obtain ⟨v, hv', hr⟩ := hv.get (j - o) _ (List.getElem?_eq_getElem hlt);refine ⟨_, v, List.getElem?_eq_getElem hlt, ?_, hr⟩;simp only [List.getElem?_toArray];rw [List.append_assoc, List.getElem?_append_right (by simp; omega), List.getElem?_append_left (by simp; omega)];simp only [List.length_take, Array.length_toList];rw [show ι.sh b + j - min (ι.sh b + o) c.size = j - o by omega];exact hv'
     ·rw [if_neg hin];obtain ⟨x, v, p, q, r⟩ := h5 j hj;refine ⟨x, v, p, ?_, r⟩;simp only [List.getElem?_toArray];rw [List.append_assoc];rcases Nat.lt_or_ge j o with hlo | hhi
      ·rw [List.getElem?_append_left (by simp; omega), List.getElem?_take_of_lt (by omega)];simpa using q
      ·rw [List.getElem?_append_right (by simp; omega), List.getElem?_append_right (by simp; omega), List.getElem?_drop];simp only [List.length_take, Array.length_toList];rw [show ι.sh b + o + vs.length + (ι.sh b + j - min (ι.sh b + o) c.size - vs.length) = ι.sh b + j by omega];simpa using q
    ·have q := h6 j v hj hv;simp only [List.getElem?_toArray];rw [List.append_assoc];have hxs : 0 < xs.length := List.length_pos_iff.2 (by simpa using hne);rcases hj with hlo | hhi
     ·rw [List.getElem?_append_left (by simp; omega), List.getElem?_take_of_lt (by omega)];simpa using q
     ·rw [List.getElem?_append_right (by simp; omega), List.getElem?_append_right (by simp; omega), List.getElem?_drop];simp only [List.length_take, Array.length_toList];rw [show ι.sh b + o + vs.length + (j - min (ι.sh b + o) c.size - vs.length) = j by omega];simpa using q
  ·simp at hx
theorem doStore_sim (k : HR P ι h w) {t : TypeId} {x y : Option V} {u v : Value} {r : R} (hu : ∀ z, x = some z → VR ι z u) (hv : ∀ z, y = some z → VR ι z v) (hx : doStore P h t x y = some r) : SimU P ι h w r (Instr.storeAt t u v) := by
 unfold doStore at hx;split at hx
 ·rename_i b o y';obtain ⟨hd, rfl⟩ := hu _ rfl;have hy := hv _ rfl;split at hx
  ·rename_i n hs
   cases hc : (Nat.beq y'.cells.length n && !y'.isTup) with
   | false => rw [hc] at hx; simp at hx
   | true =>
    rw [hc] at hx;simp only [cond_true] at hx;simp only [Bool.and_eq_true, Bool.not_eq_true'] at hc;have hn := Nat.eq_of_beq_eq_true hc.1;split at hx
    ·rename_i h' hst;cases hx;have hcs := hy.cells hc.2;obtain ⟨w', hr, hstep⟩ := storeB_sim k hst hcs;refine ⟨h', rfl, ι, w', ?_, hstep⟩;have hl : v.cells.size = n := by have := hcs.length; simp at this; omega
     simp [Instr.storeAt, Instr.sureAddr, storeVar, run_size hs, hl, hr]
    ·simp at hx
  ·simp at hx
 ·simp at hx
theorem bound_some {T0 : Sl} {a : Act} (kt : TR ι T0 a.tmps) {x : Operand} {d y n : Nat} (hb : bound T0 (some x) d y = some n) : ∃ kk, a.eval x = .int kk (n : Int) ∧ n ≤ y := by
 unfold bound at hb;simp only at hb;split at hb
 ·rename_i i hi;unfold evInt at hi;split at hi
  ·rename_i kk m hm;simp only [Option.some.injEq] at hi; subst hi;obtain ⟨rfl, hn⟩ := inRange_some hb;exact ⟨kk, ev_rel kt hm, by omega⟩
  ·simp at hi
 ·simp at hb
theorem run_bound {T0 : Sl} {a : Act} (kt : TR ι T0 a.tmps) {x : Operand} {d y n : Nat} (hb : bound T0 (some x) d y = some n) {y' : Nat} (hy : y ≤ y') (code : BoundsCode) (w : World) : (Instr.sliceBound (a.eval x) y' code).run P w = .ok n w := by
 obtain ⟨kk, he, hn⟩ := bound_some kt hb;rw [he];have : (n : Int) ≤ (y' : Int) := by omega
 simp [Instr.sliceBound, asIntOf, this]
theorem run_bounds {T0 : Sl} {a : Act} (kt : TR ι T0 a.tmps) {lo hi mx : Option Operand} {len cap c l kk m : Nat} (hlc : len ≤ cap) (hcc : cap ≤ c) (hg : (mx.isNone || hi.isSome) = true)
  (hm : bound T0 mx cap cap = some m) (hk : bound T0 hi len m = some kk) (hl : bound T0 lo 0 kk = some l) (w : World) :
  ∃ M, (Instr.sliceBounds true len c (lo.map a.eval) (hi.map a.eval) (mx.map a.eval)).run P w = .ok (l, kk, M) w ∧ l ≤ kk ∧ kk ≤ m ∧ m ≤ M ∧ M ≤ c ∧ (mx.isSome = true → M = m) ∧ (mx.isSome = false → M = c ∧ m = cap) := by
 have hlk : l ≤ kk := by
  cases lo with
  | none => simp [bound] at hl; omega
  | some y => exact (bound_some kt hl).choose_spec.2
 cases mx with
 | none =>
  simp [bound] at hm;subst hm
  have hkm : kk ≤ cap := by
   cases hi with
   | none => simp [bound] at hk; omega
   | some y => exact (bound_some kt hk).choose_spec.2
  refine ⟨c, ?_, hlk, hkm, hcc, Nat.le_refl _, by simp, fun _ => ⟨rfl, rfl⟩⟩
  cases hi with
  | none =>
   simp [bound] at hk;subst hk
   cases lo with
   | none => simp [bound] at hl; subst hl; simp [Instr.sliceBounds]
   | some z => simp [Instr.sliceBounds, run_bound kt hl (Nat.le_refl _)]
  | some y =>
   cases lo with
   | none => simp [bound] at hl; subst hl; simp [Instr.sliceBounds, run_bound kt hk hcc]
   | some z => simp [Instr.sliceBounds, run_bound kt hk hcc, run_bound kt hl (Nat.le_refl _)]
 | some x =>
  cases hi with
  | none => simp at hg
  | some y =>
   have hmc : m ≤ cap := (bound_some kt hm).choose_spec.2;refine ⟨m, ?_, hlk, (bound_some kt hk).choose_spec.2, Nat.le_refl _, by omega, fun _ => rfl, by simp⟩
   cases lo with
   | none => simp [bound] at hl; subst hl; simp [Instr.sliceBounds, run_bound kt hm hcc, run_bound kt hk (Nat.le_refl _)]
   | some z => simp [Instr.sliceBounds, run_bound kt hm hcc, run_bound kt hk (Nat.le_refl _), run_bound kt hl (Nat.le_refl _)]
theorem doSlice_sim (k : HR P ι h w) {T0 : Sl} {a : Act} (kt : TR ι T0 a.tmps) {t : TypeId} {lo hi mx : Option Operand} {x : Option V} {v : Value} {r : R} (hv : ∀ y, x = some y → VR ι y v) (hx : doSlice P T0 h t lo hi mx x = some r) :
  SimV P ι h w r (Instr.sliceAt t v (lo.map a.eval) (hi.map a.eval) (mx.map a.eval)) := by
 unfold doSlice at hx;split at hx
 ·rename_i b o len cap sz ex;obtain ⟨hd, hlc, ad, c, rfl, e1, e2, e3, e4, e5, e6⟩ := hv _ rfl;split at hx
  ·rename_i elem hel;split at hx
   ·rename_i size m hs hm;split at hx
    ·rename_i kk hk;split at hx
     ·rename_i l hl
      cases hg : ((mx.isNone || hi.isSome) && Nat.beq size sz) with
      | false => rw [hg] at hx; simp at hx
      | true =>
       rw [hg, slR_eq] at hx;simp only [cond_true, Option.some.injEq] at hx;subst hx;simp only [Bool.and_eq_true] at hg;have hsz := Nat.eq_of_beq_eq_true hg.2;subst hsz;obtain ⟨M, hB, h1, h2, h3, h4, h5, h6⟩ := run_bounds (P := P) kt hlc e4 hg.1 hm hk hl w
       have hrun : (Instr.sliceAt t (.slice (some ad) len c) (lo.map a.eval) (hi.map a.eval) (mx.map a.eval)).run P w = .ok (.slice (some (if M = l then ad else ad.add (l * size))) (kk - l) (M - l)) w := by
        unfold Instr.sliceAt Instr.slice;simp only [Sem.run_bind, run_und hel, Result.andThen_ok, hB, run_size hs, Sem.run_pure]
        by_cases hml : M = l <;> simp [hml]
       have had : ad = ⟨ι.blk b, ad.off, none⟩ := by cases ad; simp_all
       have hmul : (M - l) * size + l * size = M * size := by rw [← Nat.add_mul]; congr 1; omega
       have hmul2 : M * size ≤ c * size := Nat.mul_le_mul_right _ h4;refine SimV.same k (v := .one (.sl _ _ _ _ _ _)) ⟨hd, by omega, (if M = l then ad else ad.add (l * size)), M - l, rfl, ?_, ?_, ?_, by omega, ?_, by omega⟩ hrun
       ·split
        ·exact e1
        ·rw [had, add_none]
       ·split
        ·exact e2
        ·rw [had, add_none]
       ·by_cases hml : M = l
        ·rw [if_pos hml];exact .inr ⟨by omega, by omega⟩
        ·rw [if_neg hml, had, add_none];rcases e3 with e3 | ⟨e3, e3'⟩
         ·left; show ad.off + l * size = _; omega
         ·exfalso; apply hml; subst e3; subst e3'; omega
       ·intro hex
        cases hmx : mx.isSome with
        | true => rw [h5 hmx]
        | false =>
         rw [hmx, Bool.or_false] at hex;have := h6 hmx;rw [this.1, this.2, e5 hex]
     ·simp at hx
    ·simp at hx
   ·simp at hx
  ·simp at hx
 ·simp at hx
end
end Go.Ai
namespace Go.Ai
section
variable {P : Program} {ι : Inj} {h : H} {w : World}
theorem fold_set (off : Nat) : ∀ (vs : List Value) (i : Nat) (cs : Array Value), off + i + vs.length ≤ cs.size →
  ((vs.zipIdx i).foldl (fun cs (x : Value × Nat) => cs.setIfInBounds (off + x.2) x.1) cs).toList = cs.toList.take (off + i) ++ vs ++ cs.toList.drop (off + i + vs.length)
 | [], i, cs, _ => by simp
 | v :: vs, i, cs, hl => by
  simp only [List.length_cons] at hl;simp only [List.zipIdx_cons, List.foldl_cons];rw [fold_set off vs (i + 1) _ (by simp; omega)];have hi : off + i < cs.toList.length := by simp; omega
  rw [Array.toList_setIfInBounds, show off + (i + 1) = off + i + 1 by omega, List.take_set, List.take_succ_eq_append_getElem hi, List.set_append_right _ _ (by simp; omega), List.drop_set_of_lt (by omega)];have : off + i - (cs.toList.take (off + i)).length = 0 := by simp; omega
  rw [this];simp [Nat.add_assoc, Nat.add_comm 1]
theorem fill_rel {place : Nat → Option (Nat × Nat)} {vs : List (Nat × V)} {us : List (Nat × Value)} (hv : All2 (fun (x : Nat × V) (y : Nat × Value) => x.1 = y.1 ∧ VR ι x.2 y.2) vs us) :
  ∀ {cells cells' : List S} {cs : Array Value}, All2 (SR ι) cells cs.toList → fillS place cells vs = some cells' → ∃ cs', Instr.fill place cs us = some cs' ∧ All2 (SR ι) cells' cs'.toList := by
 induction hv with
 | nil => intro cells cells' cs hc hf; simp [fillS] at hf; subst hf; exact ⟨cs, rfl, hc⟩
 | @cons x y l m hxy _ ih =>
  intro cells cells' cs hc hf;obtain ⟨i, v⟩ := x;obtain ⟨i', u⟩ := y;obtain ⟨rfl, hr⟩ := hxy;simp only [fillS] at hf
  cases hp : place i with
  | none => simp [hp] at hf
  | some os =>
   obtain ⟨off, size⟩ := os;simp only [hp] at hf
   cases hg : (Nat.beq v.cells.length size && Nat.ble (off + v.cells.length) cells.length && !v.isTup) with
   | false => rw [hg] at hf; simp at hf
   | true =>
    rw [hg] at hf;simp only [cond_true] at hf;simp only [Bool.and_eq_true, Bool.not_eq_true'] at hg;have h1 := Nat.eq_of_beq_eq_true hg.1.1;have h2 := Nat.le_of_ble_eq_true hg.1.2;have hcs := hr.cells hg.2;have hl1 := hcs.length;have hl2 := hc.length;simp only [Array.length_toList] at hl1 hl2;have hfold := fold_set off u.cells.toList 0 cs (by simp; omega);simp only [Nat.add_zero] at hfold
    have hnew : All2 (SR ι) (cells.take off ++ v.cells ++ cells.drop (off + v.cells.length)) (((u.cells.toList.zipIdx 0).foldl (fun cs (x : Value × Nat) => cs.setIfInBounds (off + x.2) x.1) cs)).toList := by
     rw [hfold, hl1];refine ((hc.take off).append hcs).append ?_;have := hc.drop (off + u.cells.size);simpa using this
    obtain ⟨cs', e1, e2⟩ := ih hnew hf;refine ⟨cs', ?_, e2⟩;simp only [Instr.fill, hp];rw [if_neg (by simp; omega)]
    have : (Array.foldl (fun cs (x : Value × Nat) => cs.setIfInBounds (off + x.2) x.1) cs u.cells.zipIdx) = ((u.cells.toList.zipIdx 0).foldl (fun cs (x : Value × Nat) => cs.setIfInBounds (off + x.2) x.1) cs) := by
     rw [← Array.foldl_toList, Array.toList_zipIdx]
    rw [← this] at e1;exact e1
theorem fillS_length {place : Nat → Option (Nat × Nat)} {vs : List (Nat × V)} : ∀ {cells cells' : List S}, fillS place cells vs = some cells' → cells'.length = cells.length := by
 induction vs with
 | nil => intro c c' hf; simp [fillS] at hf; subst hf; rfl
 | cons x l ih =>
  intro c c' hf;obtain ⟨i, v⟩ := x;simp only [fillS] at hf
  cases hp : place i with
  | none => simp [hp] at hf
  | some os =>
   obtain ⟨off, size⟩ := os;simp only [hp] at hf
   cases hg : (Nat.beq v.cells.length size && Nat.ble (off + v.cells.length) c.length && !v.isTup) with
   | false => rw [hg] at hf; simp at hf
   | true =>
    rw [hg] at hf;simp only [cond_true] at hf;simp only [Bool.and_eq_true, Bool.not_eq_true'] at hg;have h2 := Nat.le_of_ble_eq_true hg.1.2;rw [ih hf];simp; omega
theorem evParts_rel {T0 : Sl} {a : Act} (k : TR ι T0 a.tmps) {xs : List (Nat × Operand)} {vs : List (Nat × V)} (hv : evParts T0 xs = some vs) :
  All2 (fun (x : Nat × V) (y : Nat × Value) => x.1 = y.1 ∧ VR ι x.2 y.2) vs (xs.map fun p => (p.1, a.eval p.2)) := by
 induction xs generalizing vs with
 | nil => simp [evParts] at hv; subst hv; exact .nil
 | cons x xs ih =>
  obtain ⟨i, x⟩ := x;simp only [evParts] at hv
  cases h1 : ev T0 x with
  | none => simp [h1] at hv
  | some v =>
   cases h2 : evParts T0 xs with
   | none => simp [h1, h2] at hv
   | some r => simp [h1, h2] at hv; subst hv; exact .cons ⟨rfl, ev_rel k h1⟩ (ih h2)
theorem run_places {fs : List Field} {pl : List (Nat × Nat)} (hp : placesB P fs = some pl) (w : World) : (fs.mapM (m := Sem) fun f => do pure (f.offset, ← sizeOf f.type)).run P w = .ok pl w := by
 induction fs generalizing pl with
 | nil => simp [placesB] at hp; subst hp; rfl
 | cons f fs ih =>
  simp only [placesB] at hp
  cases h1 : sizeB P f.type with
  | none => simp [h1] at hp
  | some s =>
   cases h2 : placesB P fs with
   | none => simp [h1, h2] at hp
   | some r =>
    simp [h1, h2] at hp; subst hp;rw [List.mapM_cons];simp only [Sem.run_bind, run_size h1, Result.andThen_ok, Sem.run_pure, ih h2]
theorem doBuild_sim (k : HR P ι h w) {T0 : Sl} {a : Act} (kt : TR ι T0 a.tmps) {t : TypeId} {ps : Array (Nat × Operand)} {r : R} (hx : doBuild P T0 h t ps = some r) :
  SimV P ι h w r (Instr.build t (ps.map fun p => (p.1, a.eval p.2))) := by
 unfold doBuild at hx;split at hx
 ·rename_i zero fields vs hz hu hv;split at hx
  ·rename_i pl hpl;split at hx
   ·rename_i cells hf;cases hx;obtain ⟨z, hz1, hz2⟩ := run_zero hz;obtain ⟨cs, rfl, hc⟩ := hz2 ι;obtain ⟨cs', e1, e2⟩ := fill_rel (evParts_rel kt hv) hc hf;refine SimV.same k (v := .agg cells) (v' := .agg cs') ⟨cs', rfl, e2⟩ ?_
    have hm : (fields.mapM (m := Sem) fun f => do pure (f.offset, ← sizeOf f.type)).run P w = .ok pl.toArray w := by
     rw [Array.mapM_eq_mapM_toList, Sem.run_map, run_places hpl];rfl
    simp only [Instr.build, Sem.run_bind, hz1, Result.andThen_ok, run_und hu, hm];simp only [Value.cells, Array.toList_map, List.getElem?_toArray];rw [e1]; rfl
   ·simp at hx
  ·simp at hx
 ·rename_i zero n elem vs hz hu hv;split at hx
  ·rename_i size hs;split at hx
   ·rename_i cells hf;cases hx;obtain ⟨z, hz1, hz2⟩ := run_zero hz;obtain ⟨cs, rfl, hc⟩ := hz2 ι;obtain ⟨cs', e1, e2⟩ := fill_rel (evParts_rel kt hv) hc hf;refine SimV.same k (v := .agg cells) (v' := .agg cs') ⟨cs', rfl, e2⟩ ?_;simp only [Instr.build, Sem.run_bind, hz1, Result.andThen_ok, run_und hu, run_size hs];simp only [Value.cells, Array.toList_map];rw [e1]; rfl
   ·simp at hx
  ·simp at hx
 ·simp at hx
theorem repeatS_length (z : List S) (n : Nat) : (repeatS z n).length = n * z.length := by
 induction n with
 | zero => simp [repeatS]
 | succ n ih => simp only [repeatS, List.length_append, ih]; rw [Nat.succ_mul, Nat.add_comm]
theorem repeatS_get (z : List S) (hz : 0 < z.length) : ∀ (n i : Nat), i < n * z.length → (repeatS z n)[i]? = z[i % z.length]?
 | 0, i, hi => by simp at hi
 | n + 1, i, hi => by
  simp only [repeatS];rcases Nat.lt_or_ge i z.length with h1 | h1
  ·rw [List.getElem?_append_left h1, Nat.mod_eq_of_lt h1]
  ·rw [List.getElem?_append_right h1, repeatS_get z hz n (i - z.length) (by rw [Nat.succ_mul] at hi; omega)]
   congr 1
   rw [← Nat.mod_eq_sub_mod h1]
theorem madeZero {z : List S} {cs : Array Value} (hc : All2 (SR ι) z cs.toList) (hz : 0 < z.length) (n : Nat) : All2 (SR ι) (repeatS z n) ((Array.range (n * z.length)).map (cs[· % cs.size]!)).toList := by
 have hl : z.length = cs.size := by simpa using hc.length
 refine All2.of_get (by simp [repeatS_length]) fun i x hx => ?_
 have hi : i < n * z.length := by
  rcases Nat.lt_or_ge i (n * z.length) with h | h
  ·exact h
  ·rw [List.getElem?_eq_none (by rw [repeatS_length]; exact h)] at hx; cases hx
 rw [repeatS_get z hz n i hi] at hx;obtain ⟨v, hv, hr⟩ := hc.get _ _ hx;refine ⟨v, ?_, hr⟩;have hm : i % cs.size < cs.size := Nat.mod_lt _ (by omega);simp only [Array.toList_map, Array.toList_range, List.getElem?_map, List.getElem?_range hi, Option.map_some];rw [hl] at hv;have : cs[i % cs.size]? = some v := by simpa using hv
 rw [Array.getElem?_eq_getElem hm] at this;rw [getElem!_pos cs _ hm];exact this
theorem doBuildSlice_sim (k : HR P ι h w) {T0 : Sl} {a : Act} (kt : TR ι T0 a.tmps) {t : TypeId} {len : Nat} {ps : Array (Nat × Operand)} {r : R} (hx : doBuildSlice P T0 h t len ps = some r) :
  SimV P ι h w r (Instr.buildSlice t len (ps.map fun p => (p.1, a.eval p.2))) := by
 unfold doBuildSlice at hx;split at hx
 ·rename_i elem vs hu hv;split at hx
  ·rename_i size z hs hz
   cases hg : (Nat.ble (len * size) 16777216 && Nat.beq z.cells.length size && Nat.blt 0 size) with
   | false => rw [hg] at hx; simp at hx
   | true =>
    rw [hg] at hx;simp only [cond_true] at hx;simp only [Bool.and_eq_true] at hg;have h1 := Nat.le_of_ble_eq_true hg.1.1;have h2 := Nat.eq_of_beq_eq_true hg.1.2;have h3 : 0 < size := by simpa [Nat.blt_eq] using hg.2
    split at hx
    ·rename_i cells hf;rw [H.rowK_eq] at hx;cases hx;obtain ⟨zv, hz1, hz2⟩ := run_zero hz;have hzc := (hz2 ι).cells (zeroB_isTup hz);subst h2;have hl : z.cells.length = zv.cells.size := by simpa using hzc.length
     have hmade := madeZero hzc h3 len;obtain ⟨cs', e1, e2⟩ := fill_rel (evParts_rel kt hv) hmade hf;have hlen : cells.length = cs'.size := by simpa using e2.length
     refine ⟨_, _, rfl, _, .slice (some ⟨w.heap.size, 0, none⟩) len len, _, ?_, ?_, Step.row k cells cs' (all2_arr e2)⟩
     ·have hps : (Array.map (fun p : Nat × Operand => (p.1, a.eval p.2)) ps).toList = List.map (fun p => (p.1, a.eval p.2)) ps.toList := by simp
      have hE : len * z.cells.length = 0 → ∀ f : Nat → Value, Array.map f (Array.range (len * z.cells.length)) = #[] := by intro h0 f; rw [h0]; simp
      simp only [Instr.buildSlice, Sem.run_bind, run_und hu, Result.andThen_ok, run_size hs];rw [if_neg (by omega)];simp only [Sem.run_ite, Sem.run_bind, Sem.run_pure, Result.andThen_ok, hps]
      by_cases h0 : len * z.cells.length = 0
      ·rw [if_pos h0];rw [hE h0] at e1 ⊢;rw [e1];simp [newRow]
      ·rw [if_neg h0, hz1];simp only [Result.andThen_ok];rw [e1];simp [newRow]
     ·refine ⟨Or.inl rfl, Nat.le_refl _, ⟨w.heap.size, 0, none⟩, len, rfl, by simp [Inj.add], rfl, .inl (by simp [Inj.add]), Nat.le_refl _, fun _ => rfl, ?_⟩;simp only [Inj.add, if_true];have := fillS_length hf;rw [repeatS_length] at this;omega
    ·simp at hx
  ·simp at hx
 ·simp at hx
end
end Go.Ai
