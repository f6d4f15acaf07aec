/-
LayoutWraps, part 11 of 48: AiOps7.
-/
import Derived.KernelRfl
import Derived.Laws.BytesArg
import Derived.Laws.IdiomStrings
import Derived.Lib.Bytealg
import Derived.Test.YthacbaagffpkoaaLw10
set_option linter.unusedVariables false
set_option linter.unusedSimpArgs false
namespace Go.Ai
section
variable {P : Program} {ι : Inj} {h : H} {w : World}
def Entry (ι : Inj) (kv : V × V) (e : MapEntry) : Prop := VR ι kv.1 e.key ∧ VR ι kv.2 e.val
def Found (ι : Inj) (r : Option V) (q : Option (Nat × Value)) : Prop := match r, q with
 | none, none => True
 | some v, some (_, u) => VR ι v u
 | _, _ => False
theorem find_rel (k : HR P ι h w) {t : TypeId} {x : V} {u : Value} {kind : TypeDesc} (hk : P.underlying t = some kind) (hu : VR ι x u) : ∀ {es : List (V × V)} {en : List MapEntry}, All2 (Entry ι) es en → ∀ (i : Nat) (r : Option V), findB P h t (keyB P t) x es = some r →
  (∀ q, Instr.findNow kind u en i = some q → Found ι r q) ∧ ∃ q, (Instr.findAsking t u en i).run P w = .ok q w ∧ Found ι r q
 | _, _, .nil, i, r, hf => by
  simp only [findB, Option.some.injEq] at hf; subst hf;exact ⟨fun q hq => by simp [Instr.findNow] at hq; subst hq; trivial, none, by simp [Instr.findAsking], trivial⟩
 | (kx, vx) :: es, e :: en, .cons hh ht, i, r, hf => by
  simp only [findB] at hf
  cases hq : eqKey P h t (keyB P t) x kx with
  | none => simp [hq] at hf
  | some b =>
   obtain ⟨he, hn⟩ := eqKey_rel k hu hh.1 hq
   cases b with
   | true =>
    simp only [hq, Option.some.injEq] at hf; subst hf;refine ⟨fun q hq' => ?_, some (i, e.val), by simp [Instr.findAsking, he], hh.2⟩;simp only [Instr.findNow] at hq'
    cases hs : Instr.sameNow kind u e.key with
    | none => simp [hs] at hq'
    | some r' =>
     have := hn kind r' hk hs;subst this;simp [hs] at hq'; subst hq'; exact hh.2
   | false =>
    simp only [hq] at hf;obtain ⟨ih1, q, ih2, ih3⟩ := find_rel k hk hu ht (i + 1) r hf;refine ⟨fun q' hq' => ?_, q, by simp [Instr.findAsking, he, ih2], ih3⟩;simp only [Instr.findNow] at hq'
    cases hs : Instr.sameNow kind u e.key with
    | none => simp [hs] at hq'
    | some r' =>
     have := hn kind r' hk hs;subst this;simp [hs] at hq';exact ih1 q' hq'
theorem run_findKey (k : HR P ι h w) {t : TypeId} {x : V} {u : Value} {kind : TypeDesc} (hk : P.underlying t = some kind) (hu : VR ι x u) {es : List (V × V)} {en : List MapEntry} (he : All2 (Entry ι) es en) {r : Option V} (hf : findB P h t (keyB P t) x es = some r) :
  ∃ q, (Instr.findKey t u en).run P w = .ok q w ∧ Found ι r q := by
 obtain ⟨h1, q, h2, h3⟩ := find_rel k hk hu he 0 r hf;unfold Instr.findKey;simp only [Sem.run_bind, run_und hk, Result.andThen_ok]
 cases hn : Instr.findNow kind u en 0 with
 | none => exact ⟨q, h2, h3⟩
 | some q' => exact ⟨q', rfl, h1 q' hn⟩
theorem keyOk_und {t : TypeId} {x : V} (hk : keyOk (keyB P t) x = true) : ∃ kind, P.underlying t = some kind := by
 unfold keyOk at hk;split at hk
 ·rename_i z hkb;rcases keyB_some hkb with ⟨_, hf⟩ | ⟨fs, h1, _⟩
  ·unfold flatB at hf;split at hf <;> rename_i ht <;> first | exact ⟨_, ht⟩ | simp at hf
  ·cases h1
 ·rename_i fs xs hkb;rcases keyB_some hkb with ⟨h0, _⟩ | ⟨fs', h1, h2, h3, h4⟩
  ·cases h0
  ·exact ⟨_, h2⟩
 ·simp at hk
theorem run_getObj_map {g : Nat} {en : Array MapEntry} {cl : Nat} (hg : w.heap[g]? = some (.map en cl)) : (getObj g).run P w = .ok (.map en cl) w := by simp [getObj, Sem.run, hg]
theorem lookR_sim (k : HR P ι h w) {v : V} {u : Value} {there ok : Bool} {r : R} (hv : VR ι v u) (hr : lookR h v there ok = some r) : ∃ v' u', r = .val v' h ∧ VR ι v' u' ∧ u' = (if ok then .tuple #[u, .bool there] else u) := by
 unfold lookR at hr
 cases ok with
 | false => simp only [cond_false, Option.some.injEq] at hr; subst hr; exact ⟨v, u, rfl, hv, rfl⟩
 | true =>
  simp only [cond_true] at hr;split at hr
  ·rename_i p hp;cases hr;exact ⟨_, .tuple #[u, .bool there], rfl, ⟨_, rfl, .cons (V.part_rel hv hp) (.cons ⟨.b there, rfl, rfl⟩ .nil)⟩, rfl⟩
  ·simp at hr
theorem doLookup_sim (k : HR P ι h w) {t : TypeId} {ok : Bool} {m x : Option V} {u v : Value} {r : R} (hu : ∀ z, m = some z → VR ι z u) (hv : ∀ z, x = some z → VR ι z v) (hr : doLookup P h t ok m x = some r) :
  SimV P ι h w r (Instr.lookup t u v ok) := by
 unfold doLookup at hr;split at hr
 ·rename_i q kx;obtain ⟨hd, rfl⟩ := hu _ rfl;have hvk := hv _ rfl;split at hr
  ·rename_i key elem es ht hg
   cases hk : keyOk (keyB P key) kx with
   | false => rw [hk] at hr; simp at hr
   | true =>
    rw [hk] at hr;simp only [cond_true] at hr;obtain ⟨_, en, cl, h1, h2⟩ := k.obj _ _ hg;obtain ⟨kind, hkind⟩ := keyOk_und hk;have hobj := run_getObj_map (P := P) h1;unfold lookB at hr;split at hr
    ·rename_i v' hf;obtain ⟨qq, hf1, hf2⟩ := run_findKey k hkind hvk h2 hf
     cases qq with
     | none => exact hf2.elim
     | some p =>
      obtain ⟨j, uu⟩ := p;obtain ⟨v2, u2, rfl, hv2, rfl⟩ := lookR_sim k (show VR ι v' uu from hf2) hr;refine SimV.same k hv2 ?_;simp [Instr.lookup, run_und ht, hobj, run_check hk hvk, hf1]
    ·rename_i hf;split at hr
     ·rename_i z hz;obtain ⟨qq, hf1, hf2⟩ := run_findKey k hkind hvk h2 hf
      cases qq with
      | some p => exact hf2.elim
      | none =>
       obtain ⟨zv, hz1, hz2⟩ := run_zero hz;obtain ⟨v2, u2, rfl, hv2, rfl⟩ := lookR_sim k (hz2 ι) hr;refine SimV.same k hv2 ?_;simp [Instr.lookup, run_und ht, hobj, run_check hk hvk, hf1, hz1]
     ·simp at hr
    ·simp at hr
  ·simp at hr
 ·simp at hr
theorem sameC_one {x y : S} {u v : Value} (hs : sameC x y = true) (hu : SR ι x u) (hv : SR ι y v) : u = v ∧ ∀ n, Instr.sameBits n u u = true := by
 unfold sameC at hs;split at hs
 ·simp only [Bool.and_eq_true, beq_iff_eq, eqI_eq, decide_eq_true_eq] at hs;obtain ⟨rfl, rfl⟩ := hs;have hu : u = _ := hu;have hv : v = _ := hv;subst hu; subst hv;exact ⟨rfl, fun n => by simp [Instr.sameBits]⟩
 ·simp only [Bool.and_eq_true] at hs;have h1 := Nat.eq_of_beq_eq_true hs.1;have h2 := Nat.eq_of_beq_eq_true hs.2;subst h1; subst h2;obtain ⟨_, rfl⟩ := hu;obtain ⟨_, rfl⟩ := hv;exact ⟨rfl, fun n => by simp [Instr.sameBits]⟩
 ·cases hs
theorem sameCs_all {xs ys : List S} {us vs : List Value} (hs : sameCs xs ys = true) (hu : All2 (SR ι) xs us) (hv : All2 (SR ι) ys vs) : us = vs ∧ ∀ n, ((us.zip us).all fun (x, y) => Instr.sameBits n x y) = true := by
 induction hu generalizing ys vs with
 | nil => cases hv with
  | nil => exact ⟨rfl, fun n => rfl⟩
  | cons h t => simp [sameCs] at hs
 | cons h t ih => cases hv with
  | nil => simp [sameCs] at hs
  | cons h' t' =>
   simp only [sameCs, Bool.and_eq_true] at hs;obtain ⟨rfl, q⟩ := sameC_one hs.1 h h';obtain ⟨rfl, q2⟩ := ih hs.2 t';exact ⟨rfl, fun n => by simp only [List.zip_cons_cons, List.all_cons, q n, q2 n, Bool.and_self]⟩
theorem sameV_one {x y : V} {u v : Value} (hs : sameV x y = true) (hu : VR ι x u) (hv : VR ι y v) : u = v ∧ Instr.sameBits 10000 u u = true := by
 unfold sameV at hs;split at hs
 ·obtain ⟨rfl, q⟩ := sameC_one hs hu hv;exact ⟨rfl, q _⟩
 ·obtain ⟨us, rfl, hu⟩ := hu;obtain ⟨vs, rfl, hv⟩ := hv;obtain ⟨e, q⟩ := sameCs_all hs hu hv;have : us = vs := Array.toList_inj.1 e;subst this;exact ⟨rfl, by simpa [Instr.sameBits] using q 9999⟩
 ·cases hs
def Swapped (ι : Inj) (u z : Value) (l : List (V × V)) (en : List MapEntry) (j : Nat) : Prop := ∃ e, en[j]? = some e ∧ e.key = u ∧ Instr.sameBits 10000 u u = true ∧ All2 (Entry ι) l (en.set j { e with key := u, val := z })
theorem swap_rel (k : HR P ι h w) {t : TypeId} {x v : V} {u z : Value} {kind : TypeDesc} (hk : P.underlying t = some kind) (hu : VR ι x u) (hz : VR ι v z) : ∀ {es : List (V × V)} {en : List MapEntry}, All2 (Entry ι) es en → ∀ (i : Nat) (l : List (V × V)), swapB P h t (keyB P t) x v es = some l →
  (∀ q, Instr.findNow kind u en i = some q → ∃ j y, q = some (i + j, y) ∧ Swapped ι u z l en j) ∧ ∃ j y, (Instr.findAsking t u en i).run P w = .ok (some (i + j, y)) w ∧ Swapped ι u z l en j
 | _, _, .nil, i, l, hf => by simp [swapB] at hf
 | (kx, vx) :: es, e :: en, .cons hh ht, i, l, hf => by
  simp only [swapB] at hf
  cases hq : eqKey P h t (keyB P t) x kx with
  | none => simp [hq] at hf
  | some b =>
   obtain ⟨he, hn⟩ := eqKey_rel k hu hh.1 hq
   cases b with
   | true =>
    simp only [hq] at hf
    cases hs : sameV x kx with
    | false => rw [hs] at hf; cases hf
    | true =>
     rw [hs] at hf;simp only [cond_true, Option.some.injEq] at hf; subst hf;obtain ⟨e1, e2⟩ := sameV_one hs hu hh.1;have hS : Swapped ι u z ((kx, v) :: es) (e :: en) 0 := ⟨e, rfl, e1.symm, e2, .cons ⟨by show VR ι kx u; rw [e1]; exact hh.1, hz⟩ ht⟩;refine ⟨fun q hq' => ?_, 0, e.val, by simp [Instr.findAsking, he], hS⟩;simp only [Instr.findNow] at hq'
     cases hs2 : Instr.sameNow kind u e.key with
     | none => simp [hs2] at hq'
     | some r' =>
      have := hn kind r' hk hs2;subst this;simp [hs2] at hq'; subst hq'; exact ⟨0, e.val, rfl, hS⟩
   | false =>
    simp only [hq] at hf
    cases hl : swapB P h t (keyB P t) x v es with
    | none => simp [hl] at hf
    | some l' =>
     simp only [hl, Option.some.injEq] at hf; subst hf;obtain ⟨ih1, j, y, ih2, ih3⟩ := swap_rel k hk hu hz ht (i + 1) l' hl;have up : ∀ j, Swapped ι u z l' en j → Swapped ι u z ((kx, vx) :: l') (e :: en) (j + 1) := fun j ⟨e', q1, q2, q3, q4⟩ => ⟨e', by simpa using q1, q2, q3, .cons hh q4⟩
     refine ⟨fun q' hq' => ?_, j + 1, y, by simp [Instr.findAsking, he, ih2, show i + 1 + j = i + (j + 1) by omega], up j ih3⟩;simp only [Instr.findNow] at hq'
     cases hs : Instr.sameNow kind u e.key with
     | none => simp [hs] at hq'
     | some r' =>
      have := hn kind r' hk hs;subst this;simp [hs] at hq';obtain ⟨j', y', q1, q2⟩ := ih1 q' hq';exact ⟨j' + 1, y', by rw [q1, show i + 1 + j' = i + (j' + 1) by omega], up j' q2⟩
theorem run_swapKey (k : HR P ι h w) {t : TypeId} {x v : V} {u z : Value} {kind : TypeDesc} (hk : P.underlying t = some kind) (hu : VR ι x u) (hz : VR ι v z) {es : List (V × V)} {en : List MapEntry} (he : All2 (Entry ι) es en) {l : List (V × V)} (hf : swapB P h t (keyB P t) x v es = some l) :
  ∃ j y, (Instr.findKey t u en).run P w = .ok (some (j, y)) w ∧ Swapped ι u z l en j := by
 obtain ⟨h1, j, y, h2, h3⟩ := swap_rel k hk hu hz he 0 l hf;unfold Instr.findKey;simp only [Sem.run_bind, run_und hk, Result.andThen_ok]
 cases hn : Instr.findNow kind u en 0 with
 | none => exact ⟨j, y, by simpa using h2, h3⟩
 | some q' =>
  obtain ⟨j', y', rfl, q⟩ := h1 q' hn;exact ⟨j', y', by simp, q⟩
theorem doMapUpdate_sim (k : HR P ι h w) {t : TypeId} {m x y : Option V} {u v z : Value} {r : R} (hu : ∀ q, m = some q → VR ι q u) (hv : ∀ q, x = some q → VR ι q v) (hz : ∀ q, y = some q → VR ι q z) (hr : doMapUpdate P h t m x y = some r) :
  SimU P ι h w r (Instr.mapUpdate t u v z) := by
 unfold doMapUpdate at hr;split at hr
 ·rename_i q kx vx;obtain ⟨hd, rfl⟩ := hu _ rfl;have hvk := hv _ rfl;have hvz := hz _ rfl;split at hr
  ·rename_i key elem es ht hg
   cases hk : (keyOk (keyB P key) kx && h.may q && !vx.isTup) with
   | false => rw [hk] at hr; simp at hr
   | true =>
    rw [hk] at hr;simp only [cond_true] at hr;simp only [Bool.and_eq_true] at hk;obtain ⟨_, en, cl, h1, h2⟩ := k.obj _ _ hg;obtain ⟨kind, hkind⟩ := keyOk_und hk.1.1;have hobj := run_getObj_map (P := P) h1;split at hr
    ·rename_i hf;rw [H.putK_eq] at hr;cases hr;obtain ⟨qq, hf1, hf2⟩ := run_findKey k hkind hvk h2 hf
     cases qq with
     | some p => exact hf2.elim
     | none =>
      have hlt : ι.blk q < w.heap.size := (Array.getElem?_eq_some_iff.1 h1).1;have hset : ∀ o', ({ w with heap := w.heap.setIfInBounds (ι.blk q) o' } : World).heap[ι.blk q]? = some o' := by intro o'; simp [hlt]
      refine ⟨_, rfl, ι, { w with heap := w.heap.setIfInBounds (ι.blk q) (.map (en.push { key := v, val := z, born := cl }) (cl + 1)) }, ?_, ?_⟩
      ·simp [Instr.mapUpdate, run_und ht, hobj, run_check hk.1.1 hvk, hf1, setObj, Sem.run, h1]
      ·refine Step.putObj k hg rfl hk.1.2 (by simp) rfl rfl rfl (fun g hg' => ?_) rfl ⟨en.push { key := v, val := z, born := cl }, cl + 1, hset _, ?_⟩
       ·simp only [Array.getElem?_setIfInBounds];rw [if_neg (fun e => hg' e.symm)]
       ·rw [Array.toList_push];exact h2.append (.cons ⟨hvk, hvz⟩ .nil)
    ·split at hr
     ·rename_i l hl;rw [H.putK_eq] at hr;cases hr;obtain ⟨j, y, hf1, e, q1, q2, q3, q4⟩ := run_swapKey k hkind hvk hvz h2 hl;have hlt : ι.blk q < w.heap.size := (Array.getElem?_eq_some_iff.1 h1).1;have hset : ∀ o', ({ w with heap := w.heap.setIfInBounds (ι.blk q) o' } : World).heap[ι.blk q]? = some o' := by intro o'; simp [hlt]
      have hj : en[j]? = some e := by rw [← Array.getElem?_toList]; exact q1
      have hstay : (Instr.keyThatStays v v).run P w = .ok v w := by simp [Instr.keyThatStays, q3]
      refine ⟨_, rfl, ι, { w with heap := w.heap.setIfInBounds (ι.blk q) (.map (en.modify j fun e => { e with key := v, val := z }) cl) }, ?_, ?_⟩
      ·simp [Instr.mapUpdate, run_und ht, hobj, run_check hk.1.1 hvk, hf1, hj, q2, hstay, setObj, Sem.run, h1]
      ·refine Step.putObj k hg rfl hk.1.2 (by simp) rfl rfl rfl (fun g hg' => ?_) rfl ⟨en.modify j fun e => { e with key := v, val := z }, cl, hset _, ?_⟩
       ·simp only [Array.getElem?_setIfInBounds];rw [if_neg (fun e => hg' e.symm)]
       ·rw [Array.toList_modify, show en.toList.modify j (fun e => { e with key := v, val := z }) = en.toList.set j { e with key := v, val := z } from List.ext_getElem? fun i => by
         rw [List.getElem?_modify, List.getElem?_set]
         by_cases hi : j = i
         ·subst hi; rw [if_pos rfl, if_pos (gEi.1 q1).1, q1]; simp
         ·simp [hi]]
        exact q4
     ·cases hr
    ·simp at hr
  ·simp at hr
 ·simp at hr
theorem doIndexW_sim (k : HR P ι h w) {t : TypeId} {x y : Option V} {v u : Value} {r : R} (hv : ∀ z, x = some z → VR ι z v) (hu : ∀ z, y = some z → VR ι z u) (hx : doIndexW P h t x y = some r) : SimV P ι h w r (Instr.indexAt t v u) := by
 unfold doIndexW at hx;split at hx
 ·rename_i b z e n;obtain ⟨hd, h0, a, c, m, rfl, e1, e2, e3, e4, e5, e6⟩ := hv _ rfl;split at hx
  ·rename_i elem kk e' hel hy;obtain ⟨_, hok, rfl⟩ := asL_some hu hy;split at hx
   ·rename_i size hs
    cases hg : (linEq e e' && inR kk e' && Nat.beq size z) with
    | false => rw [hg] at hx; simp at hx
    | true =>
     rw [hg, ptrR_eq] at hx;simp only [cond_true, Option.some.injEq] at hx; subst hx;simp only [Bool.and_eq_true] at hg;have g1 := linEq_spec hg.1.1;have g3 := Nat.eq_of_beq_eq_true hg.2;subst g1 g3;have hz := inR_wrap hok hg.1.2;obtain ⟨i, hi⟩ : ∃ i : Nat, e.eval ι.env = (i : Int) := ⟨(e.eval ι.env).toNat, by omega⟩;rw [hi] at e4 e5 e6 hz;refine SimV.same k (v := .one (.p _ _)) (v' := .pointer (some ⟨ι.blk b, ι.sh b + 0, none⟩)) ⟨hd, rfl⟩ ?_
     have hoff : a.off + i * size = ι.sh b := by
      have : ((a.off + i * size : Nat) : Int) = (ι.sh b : Int) := by simpa using e6
      omega
     cases a with
     | mk bb oo ss =>
      simp only at e1 e2 hoff;subst e1; subst e2;have hj : i < m := by omega
      rw [hi, hz];simp [Instr.indexAt, asIntOf, run_und hel, run_size hs, add_none, hj, hoff]
   ·simp at hx
  ·simp at hx
 ·exact doIndexAddr_sim k hv hu hx
theorem doPick_sim (k : HR P ι h w) {T0 : Sl} {ac : Act} (kt : TR ι T0 ac.tmps) {a b : Operand} {c : Option V} {u : Value} {r : R} (hu : ∀ z, c = some z → VR ι z u) (hr : doPick T0 h a b c = some r) :
  SimV P ι h w r (do pure (if ← asBool u then ac.eval a else ac.eval b)) := by
 unfold doPick at hr;split at hr
 ·rename_i t;have e : u = .bool t := hu _ rfl;subst e;unfold doMove at hr;split at hr
  ·rename_i v hv;cases hr;refine SimV.same k (ev_rel kt hv) ?_;cases t <;> simp [asBool]
  ·simp at hr
 ·simp at hr
theorem doUn_sim (k : HR P ι h w) {op : UnOp} {x : Option V} {v : Value} {r : R} (hv : ∀ z, x = some z → VR ι z v) (hr : doUn h op x = some r) : SimV P ι h w r (Op.unary op v) := by
 unfold doUn at hr;split at hr
 ·rename_i b;have e : v = .bool b := hv _ rfl;subst e;rw [boolR_eq] at hr;cases hr;exact SimV.same k (v := .one (.b (!b))) (v' := .bool (!b)) rfl rfl
 ·simp at hr
theorem bytesT_some {t e : TypeId} (ht : bytesT P t = some e) : P.underlying t = some (.slice e) ∧ P.underlying e = some (.int .u8) := by
 unfold bytesT at ht;split at ht
 ·split at ht
  ·simp only [Option.some.injEq] at ht; subst ht; exact ⟨by assumption, by assumption⟩
  ·simp at ht
 ·simp at ht
theorem strT_true {t : TypeId} (ht : strT P t = true) : P.underlying t = some .string := by
 unfold strT at ht;split at ht
 ·assumption
 ·simp at ht
theorem bytesOf_all {xs : List S} {vs : List Value} (hx : All2 (SR ι) xs vs) : ∀ {l : List UInt8}, bytesOf xs = some l → vs = l.map fun b => Value.int .u8 (b.toNat : Int) := by
 induction hx with
 | nil => intro l hl; simp [bytesOf] at hl; subst hl; rfl
 | @cons x v xs vs h _ ih =>
  intro l hl;unfold bytesOf at hl;split at hl
  ·rename_i heq; cases heq
  ·rename_i n l' heq;cases heq;split at hl
   ·rename_i r hr
    cases hb : Nat.blt n 256 with
    | false => rw [hb] at hl; simp at hl
    | true =>
     rw [hb] at hl;simp only [cond_true, Option.some.injEq] at hl;subst hl;have hn : n < 256 := by simpa [Nat.blt_eq] using hb
     have e : v = .int .u8 (Int.ofNat n) := h;subst e;rw [List.map_cons, ih hr]
     congr 2
     simp [UInt8.toNat_ofNat, Nat.mod_eq_of_lt hn]
   ·simp at hl
  ·simp at hl
theorem doConv_sim (k : HR P ι h w) {s d : TypeId} {x : Option V} {v : Value} {r : R} (hv : ∀ z, x = some z → VR ι z v) (hr : doConv P h s d x = some r) : SimV P ι h w r (convert s d v) := by
 unfold doConv at hr;split at hr
 ·rename_i n;have e : v = .int .i64 n := hv _ rfl;subst e
  cases hg : (intT P s && intT P d) with
  | false => rw [hg] at hr; simp at hr
  | true =>
   rw [hg, numR_eq] at hr;simp only [cond_true, Option.some.injEq] at hr; subst hr;simp only [Bool.and_eq_true] at hg
   have isInt : ∀ t, intT P t = true → P.underlying t = some (.int .i64) := by
    intro t ht;unfold intT at ht;split at ht
    ·assumption
    ·simp at ht
   refine SimV.same k (v := .one (.i .i64 (IntKind.i64.wrap n))) (v' := .int .i64 (IntKind.i64.wrap n)) rfl ?_;simp [convert, run_und (isInt s hg.1), run_und (isInt d hg.2), Conv.intToInt]
 ·have e : v = .slice none 0 0 := hv _ rfl;subst e;split at hr
  ·rename_i e he;obtain ⟨h1, h2⟩ := bytesT_some he
   cases hd : strT P d with
   | false => rw [hd] at hr; simp at hr
   | true =>
    rw [hd] at hr;simp only [cond_true, Option.some.injEq] at hr; subst hr;exact SimV.same k (v := .one (.s ⟨#[]⟩)) (v' := .string ⟨#[]⟩) rfl (run_convert_bytes_nil w s e h1 h2 0 0 d (strT_true hd))
  ·simp at hr
 ·rename_i b o len cap sz ex;obtain ⟨hdom, hlc, a, c, rfl, e1, e2, e3, e4, e5, e6⟩ := hv _ rfl;split at hr
  ·rename_i e he;obtain ⟨h1, h2⟩ := bytesT_some he
   cases hd : strT P d with
   | false => rw [hd] at hr; simp at hr
   | true =>
    rw [hd] at hr;simp only [cond_true] at hr;have h3 := strT_true hd
    cases hl : Nat.beq len 0 with
    | true =>
     rw [hl] at hr;simp only [cond_true, Option.some.injEq] at hr; subst hr;have := Nat.eq_of_beq_eq_true hl;subst this;exact SimV.same k (v := .one (.s ⟨#[]⟩)) (v' := .string ⟨#[]⟩) rfl (run_convert_bytes_back w s d e a c [] h1 h2 h3 (by simp))
    | false =>
     rw [hl] at hr;simp only [cond_false] at hr;have hl0 : len ≠ 0 := fun e => by rw [e, beq_self] at hl; cases hl
     unfold strOf at hr;split at hr
     ·rename_i xs hrow;split at hr
      ·rename_i l hb;cases hr;obtain ⟨_, vs, q1, q2, q3⟩ := row_rel k hrow;have hvs := bytesOf_all q2 hb;have hll : l.length = len := by rw [← q1, hvs]; simp
       have ha : a = ⟨ι.blk b, ι.sh b + o, none⟩ := by
        cases a with
        | mk bb oo ss =>
         simp only at e1 e2 e3;subst e1; subst e2;rcases e3 with e3 | ⟨e3, _⟩
         ·rw [e3]
         ·omega
       refine SimV.same k (v := .one (.s ⟨l.toArray⟩)) (v' := .string ⟨l.toArray⟩) rfl ?_;rw [← hll];refine run_convert_bytes_back w s d e a c l h1 h2 h3 fun j hj => ?_;rw [ha];refine q3 j _ ?_;rw [hvs]; simp [hj]
      ·simp at hr
     ·simp at hr
  ·simp at hr
 ·rename_i x;have e : v = .string x := hv _ rfl;subst e;split at hr
  ·rename_i e he;obtain ⟨h1, h2⟩ := bytesT_some he
   cases hs : strT P s with
   | false => rw [hs] at hr; simp at hr
   | true =>
    rw [hs] at hr;simp only [cond_true] at hr;unfold bytesR at hr;rw [T.setManyK_eq, forceN_eq, forceN_eq, H.allocK_eq] at hr;cases hr;have hrun := run_bytes_of_string w s d e x (strT_true hs) h1 h2;have hge := grownCap_ge w x.size 0 e
    have hsz : (bytesRow x (grownCap w x.size 0 e)).size = grownCap w x.size 0 e := by
     simp only [bytesRow, Array.size_append, Array.size_map, Array.size_replicate];show x.size + _ = _;omega
    generalize hC : bytesRow x (grownCap w x.size 0 e) = C at hrun hsz
    have hstep := Step.newObj (w := w.drew) (k.drew (w.drawn + 1)) (.ro (T.setMany .e 0 (x.data.toList.map fun c => S.i .u8 c.toNat)) x.size) (.cells C e (C.size, C.size + 1)) 0 C.size #[] (by
     refine ⟨fun j hj => ?_, fun c s hc => ?_⟩;rotate_left
     ·unfold roAt at hc;rw [T.get_row, List.getElem?_eq_none (by simp)] at hc; cases hc
     have hj' : j < x.data.toList.length := by simpa using hj
     refine ⟨.i .u8 (x.data.toList[j]).toNat, .int .u8 (x.data.toList[j]).toNat, ?_, ?_, rfl⟩
     ·rw [T.get_row]; exact by simp [List.getElem?_eq_getElem hj']
     ·have := World.cell?_alloc_mark w.drew C e (C.size, C.size + 1) j;simp only [Inj.add, if_true, Nat.zero_add];refine Eq.trans this ?_;rw [← hC];unfold bytesRow;have hj2 : j < x.data.size := by simpa using hj'
      rw [Array.getElem?_append_left (by simpa using hj2)]
      simp [Array.getElem?_eq_getElem hj2])
    refine ⟨_, _, rfl, _, _, _, hrun, ?_, Step.drew0 (n := w.drawn + 1) hstep⟩;refine ⟨Or.inl rfl, Nat.le_refl _, ⟨w.heap.size, 0, none⟩, _, rfl, by simp [Inj.add], rfl, .inl (by simp [Inj.add]), hge, by simp, ?_⟩;simp only [Inj.add, if_true];omega
  ·simp at hr
 ·simp at hr
theorem doMinMax_sim (k : HR P ι h w) {mn : Bool} {xs : Option (List V)} {us : List Value} {ts : Array TypeId} {ty : TypeId} {r : R} (hv : ∀ z, xs = some z → All2 (VR ι) z us) (hr : doMinMax mn h xs = some r) :
  SimV P ι h w r (match mn with | true => Builtin.min_ ts ty us.toArray | false => Builtin.max_ ts ty us.toArray) := by
 unfold doMinMax at hr;split at hr
 ·rename_i x y;have hh := hv _ rfl
  cases hh with
  | @cons _ u _ us' h1 h2 =>
   cases h2 with
   | @cons _ v _ us'' h3 h4 =>
    cases h4;have e1 : u = .int .i64 x := h1;have e2 : v = .int .i64 y := h3;subst e1; subst e2;simp only [ltI_eq] at hr
    cases mn with
    | true =>
     simp only [cond_true] at hr;refine ⟨.one (.i .i64 (if y < x then y else x)), h, ?_, ι, .int .i64 (if y < x then y else x), w, ?_, rfl, .refl k⟩
     ·by_cases hc : y < x
      ·simp [hc] at hr ⊢; exact hr.symm
      ·simp [hc] at hr ⊢; exact hr.symm
     ·simp [Builtin.min_, Builtin.min2]
    | false =>
     simp only [cond_false] at hr;refine ⟨.one (.i .i64 (if y > x then y else x)), h, ?_, ι, .int .i64 (if y > x then y else x), w, ?_, rfl, .refl k⟩
     ·by_cases hc : x < y
      ·simp [hc] at hr ⊢; exact hr.symm
      ·simp [hc] at hr ⊢; exact hr.symm
     ·simp [Builtin.max_, Builtin.max2]
 ·simp at hr
theorem exec_builtin {ρ : Operand → Value} {o : Oper} {b : Builtin} {args : Array Operand} {ts : Array TypeId} (ho : o.op = .call { callee := .builtin b, args := args, argTypes := ts }) (w : World) :
  (execOp ρ o).run P w = (builtin b ts o.type (args.map fun | .const _ => true | _ => false) (args.map ρ)).run P w := by
 simp only [execOp, ho, resolve, Sem.run_bind, Sem.run_pure, Result.andThen_ok, invoke];rfl
theorem cmpFn_true {g : FuncId} (hc : cmpFn P g = true) : ∃ fn, P.funcs[g]? = some fn ∧ fn.body.isNone = true ∧ fn.name = cmpName ∧ fn.origin = "" := by
 unfold cmpFn at hc;split at hc
 ·rename_i fn hf;split at hc
  ·rename_i hb;simp only [Bool.and_eq_true, beq_iff_eq] at hc;exact ⟨fn, hf, by rw [hb]; rfl, hc.1, hc.2⟩
  ·simp at hc
 ·simp at hc
theorem cmp_next : Extern.allNextRows.lookup cmpName = none := by kernel_rfl
theorem cmp_next0 : Extern.allNextRows.lookup "" = none := by kernel_rfl
theorem cmp_gen : Extern.allGenericRows.lookup cmpName = none := by kernel_rfl
theorem cmp_typed : Extern.allTypedRows.lookup cmpName = none := by kernel_rfl
theorem cmp_row : Extern.allRows.lookup cmpName = some Extern.BytealgCompare.compare := by kernel_rfl
theorem cmpS_eq : ∀ (a b : List UInt8), cmpS a b = Go.Lib.compareBytes a b
 | [], [] => rfl
 | [], _ :: _ => rfl
 | _ :: _, [] => rfl
 | x :: a, y :: b => by
  unfold cmpS Go.Lib.compareBytes;rw [cmpS_eq a b]
  by_cases h1 : x < y
  ·rw [if_pos h1, blt_true (by exact h1)]; rfl
  ·rw [if_neg h1, blt_false (by exact h1)]
   by_cases h2 : y < x
   ·rw [if_pos h2, blt_true (by exact h2)]; rfl
   ·rw [if_neg h2, blt_false (by exact h2)]; rfl
theorem run_cmpFn {g : FuncId} (hc : cmpFn P g = true) (x y : ByteArray) (w : World) : (callFunc g #[.string x, .string y]).run P w = .ok (.value (.int .i64 (cmpS x.data.toList y.data.toList))) w := by
 obtain ⟨fn, h1, h2, h3, h4⟩ := cmpFn_true hc
 have hn : Extern.findNext fn = none := by
  unfold Extern.findNext;simp only [h3, h4, cmp_next, cmp_next0];rfl
 have he : Extern.find fn = some Extern.BytealgCompare.compare := by
  unfold Extern.find;simp only [h3, cmp_gen, cmp_typed, cmp_row];rfl
 rw [run_callFunc_extern h1 (by rw [h3]; decide) h2 hn he, Go.Lib.run_compareString, cmpS_eq];rfl
theorem doCall_sim (k : HR P ι h w) {T0 : Sl} {a : Act} (kt : TR ι T0 a.tmps) {o : Oper} {f : Operand} {args : Array Operand} {ts : Array TypeId} {r : R} (ho : o.op = .call { callee := .value f, args := args, argTypes := ts }) (hr : doCall P T0 h f args = some r) :
  Sim1 P ι h w r ((execOp a.eval o).run P w) := by
 have enter : ∀ g (vs : Array Value), HasBody P g → (callFunc g vs).run P w = .ok (.enter g vs) w := by
  rintro g vs ⟨fn, h1, h2, h3⟩
  have h4 : fn.body.isNone = false := by cases hb : fn.body with
   | none => rw [hb] at h2; simp at h2
   | some c => rfl
  simp only [callFunc, Sem.run_bind, run_program, Result.andThen_ok, h1, h3, h4, Bool.false_eq_true, if_false, Sem.run_pure]
 unfold doCall at hr;split at hr
 ·rename_i g vs hf hvs;have e : a.eval f = .func (.func g) #[] #[] := ev_rel kt hf
  have hargs : (#[] ++ Array.map a.eval args ++ #[] : Array Value) = (args.toList.map a.eval).toArray := by
   apply Array.ext';simp
  have plain : Sim1 P ι h w (.enter g vs h) ((execOp a.eval o).run P w) := by
   refine ⟨rfl, args.toList.map a.eval, fun hb => ?_, evs_rel kt hvs⟩;simp only [execOp, ho, resolve, e, Deferred.ofValue, Sem.run_bind, Sem.run_pure, Result.andThen_ok, invoke];rw [hargs]; exact enter g _ hb
  unfold callR at hr;split at hr
  ·rename_i x y
   cases hc : cmpFn P g with
   | false =>
    rw [hc] at hr;simp only [cond_false, Option.some.injEq] at hr; subst hr;exact plain
   | true =>
    rw [hc] at hr;simp only [cond_true, Option.some.injEq] at hr; subst hr;have hl := evs_rel kt hvs
    have h2 : args.toList.map a.eval = [.string x, .string y] := by
     generalize args.toList.map a.eval = l at hl
     cases hl with
     | cons p1 t1 => cases t1 with
      | cons p2 t2 => cases t2 with
       | nil =>
        have q1 := p1;have q2 := p2;simp only [VR, SR] at q1 q2;rw [q1, q2]
    refine Sim1.same k (v := .one (.i .i64 (cmpS x.data.toList y.data.toList))) (v' := .int .i64 (cmpS x.data.toList y.data.toList)) rfl ?_;simp only [execOp, ho, resolve, e, Deferred.ofValue, Sem.run_bind, Sem.run_pure, Result.andThen_ok, invoke];rw [hargs, h2]; exact run_cmpFn hc x y w
  ·cases hr; exact plain
 ·rename_i g q vs hf hvs;split at hr
  ·rename_i cs hg;cases hr;obtain ⟨hd, e⟩ := ev_rel kt hf;obtain ⟨_, hc⟩ := k.obj _ _ hg;refine ⟨rfl, args.toList.map a.eval ++ (ι.caps q).toList, fun hb => ?_, (evs_rel kt hvs).append hc⟩;simp only [execOp, ho, resolve, e, Deferred.ofValue, Sem.run_bind, Sem.run_pure, Result.andThen_ok, invoke]
   have : (#[] ++ Array.map a.eval args ++ ι.caps q : Array Value) = (args.toList.map a.eval ++ (ι.caps q).toList).toArray := by
    apply Array.ext';simp
   rw [this]; exact enter g _ hb
  ·simp at hr
 ·simp at hr
theorem evOpt {T0 : Sl} {a : Act} (kt : TR ι T0 a.tmps) (x : Operand) : ∀ y, ev T0 x = some y → VR ι y (a.eval x) := fun y hy => ev_rel kt hy
theorem list_one {α : Type} {a : Array α} {x : α} (h : a.toList = [x]) : a = #[x] := by apply Array.ext'; simpa using h
theorem list_two {α : Type} {a : Array α} {x y : α} (h : a.toList = [x, y]) : a = #[x, y] := by apply Array.ext'; simpa using h
theorem doBuiltin_sim (k : HR P ι h w) {T0 : Sl} {a : Act} (kt : TR ι T0 a.tmps) {o : Oper} {b : Builtin} {args : Array Operand} {ts : Array TypeId} {r : R} (ho : o.op = .call { callee := .builtin b, args := args, argTypes := ts }) (hr : doBuiltin P T0 h o args ts b = some r) :
  Sim1 P ι h w r ((execOp a.eval o).run P w) := by
 have hs : ∀ cs bb, o.op ≠ .select cs bb := by intro cs bb e; rw [ho] at e; cases e
 have two : ∀ {f : TypeId → TypeId → Option V → Option V → Option R}, doTwo P T0 args.toList ts.toList f = some r → ∃ x y t u, args = #[x, y] ∧ ts = #[t, u] ∧ f t u (ev T0 x) (ev T0 y) = some r := by
  intro f hf
  cases hA : args.toList with
  | nil => simp [doTwo, hA] at hf
  | cons x l => cases l with
   | nil => simp [doTwo, hA] at hf
   | cons y l => cases l with
    | cons _ _ => simp [doTwo, hA] at hf
    | nil => cases hT : ts.toList with
     | nil => simp [doTwo, hA, hT] at hf
     | cons t l => cases l with
      | nil => simp [doTwo, hA, hT] at hf
      | cons u l => cases l with
       | cons _ _ => simp [doTwo, hA, hT] at hf
       | nil =>
        simp only [doTwo, hA, hT] at hf;exact ⟨x, y, t, u, list_two hA, list_two hT, hf⟩
 have one : ∀ {f : TypeId → Option V → Option R}, doOne P T0 args.toList ts.toList f = some r → ∃ x t, args = #[x] ∧ ts = #[t] ∧ f t (ev T0 x) = some r := by
  intro f hf
  cases hA : args.toList with
  | nil => simp [doOne, hA] at hf
  | cons x l => cases l with
   | cons _ _ => simp [doOne, hA] at hf
   | nil => cases hT : ts.toList with
    | nil => simp [doOne, hA, hT] at hf
    | cons t l => cases l with
     | cons _ _ => simp [doOne, hA, hT] at hf
     | nil =>
      simp only [doOne, hA, hT] at hf;exact ⟨x, t, list_one hA, list_one hT, hf⟩
 unfold doBuiltin at hr;split at hr
 ·unfold doLenOp at hr;split at hr
  ·rename_i x t h1 h2;refine orPure_sim k kt hs hr fun hr' => ?_;rw [exec_builtin ho, list_one h1, list_one h2];have := (doLen_sim (ty := o.type) k (evOpt kt x) hr').one;simpa [builtin] using this
  ·simp at hr
 ·obtain ⟨x, y, t, u, rfl, rfl, hf⟩ := two hr;rw [exec_builtin ho];have := (doAppend_sim (ty := o.type) k (evOpt kt x) (evOpt kt y) hf).one;simpa [builtin] using this
 ·obtain ⟨x, y, t, u, rfl, rfl, hf⟩ := two hr;rw [exec_builtin ho];have := (doCopy_sim (u := u) (ty := o.type) k (evOpt kt x) (evOpt kt y) hf).one;simpa [builtin] using this
 ·obtain ⟨x, t, rfl, rfl, hf⟩ := one hr;rw [exec_builtin ho];have := (doClear_sim (ty := o.type) k (evOpt kt x) hf).one;simpa [builtin] using this
 ·refine orPure_sim k kt hs hr fun hr' => ?_;rw [exec_builtin ho, show Array.map a.eval args = (List.map a.eval args.toList).toArray from by apply Array.ext'; simp];have := (doMinMax_sim (ts := ts) (ty := o.type) k (fun z hz => evs_rel kt hz) hr').one;simpa [builtin] using this
 ·refine orPure_sim k kt hs hr fun hr' => ?_;rw [exec_builtin ho, show Array.map a.eval args = (List.map a.eval args.toList).toArray from by apply Array.ext'; simp];have := (doMinMax_sim (ts := ts) (ty := o.type) k (fun z hz => evs_rel kt hz) hr').one;simpa [builtin] using this
 ·cases hp : pureBuiltin b with
  | false => rw [hp] at hr; simp at hr
  | true => rw [hp] at hr; exact orPure_sim k kt hs (by simpa using hr) (fun e => by cases e)
theorem execO_sim (k : HR P ι h w) {T0 : Sl} {a : Act} (kt : TR ι T0 a.tmps) {o : Oper} {r : R} (hr : execO P T0 h o = some r) : Sim1 P ι h w r ((execOp a.eval o).run P w) := by
 unfold execO at hr;split at hr <;> rename_i ho
 all_goals try have hs : ∀ cs bb, o.op ≠ .select cs bb := by (intro cs bb e; rw [ho] at e; cases e)
 ·have := (doMove_sim k (evOpt kt _) hr).one;simpa [execOp, ho] using this
 ·have := (doMove_sim k (evOpt kt _) hr).one;simpa [execOp, ho] using this
 ·have := (doPick_sim k kt (evOpt kt _) hr).one;simpa [execOp, ho] using this
 ·have := (doAlloc_sim k hr).one;simpa [execOp, ho] using this
 ·have := (doBox_sim k (evOpt kt _) hr).one;simpa [execOp, ho] using this
 ·have := (doBuild_sim k kt hr).one;simpa [execOp, ho] using this
 ·have := (doBuildSlice_sim k kt hr).one;simpa [execOp, ho] using this
 ·have := (doLoad_sim k (evOpt kt _) hr).one;simpa [execOp, ho] using this
 ·have := (doStore_sim k (evOpt kt _) (evOpt kt _) hr).one;simpa [execOp, ho] using this
 ·exact doNilCheck_sim k (evOpt kt _) hr ho rfl
 ·have := (doFieldAddr_sim k (evOpt kt _) hr).one;simpa [execOp, ho] using this
 ·have := (doIndexW_sim k (evOpt kt _) (evOpt kt _) hr).one;simpa [execOp, ho] using this
 ·refine orPure_sim k kt hs hr fun hr' => ?_;have := (doSlice_sim k kt (evOpt kt _) hr').one;simpa [execOp, ho] using this
 ·have := (doField_sim k (evOpt kt _) hr).one;simpa [execOp, ho] using this
 ·have := (doExtract_sim k (evOpt kt _) hr).one;simpa [execOp, ho] using this
 ·have := (doMakeSlice_sim k (evOpt kt _) (evOpt kt _) hr).one;simpa [execOp, ho] using this
 ·have := (doMakeFunc_sim k kt hr).one;simpa [execOp, ho] using this
 ·rename_i op t x y _;refine orPure_sim k kt hs hr fun hr' => ?_;have := (doBin_sim (X := x) (Y := y) k (evOpt kt x) (evOpt kt y) hr').one;simpa [execOp, ho] using this
 ·refine orPure_sim k kt hs hr fun hr' => ?_;have := (doUn_sim k (evOpt kt _) hr').one;simpa [execOp, ho] using this
 ·refine orPure_sim k kt hs hr fun hr' => ?_;have := (doConv_sim k (evOpt kt _) hr').one;simpa [execOp, ho] using this
 ·exact pureOp_sim k kt hs hr
 ·rename_i c;obtain ⟨callee, args, ts⟩ := c;unfold doCallOp at hr
  cases callee with
  | value f => exact doCall_sim k kt ho hr
  | builtin b => exact doBuiltin_sim k kt ho hr
  | invoke => simp at hr
 ·have := (doLookup_sim k (evOpt kt _) (evOpt kt _) hr).one;simpa [execOp, ho] using this
 ·have := (doMapUpdate_sim k (evOpt kt _) (evOpt kt _) (evOpt kt _) hr).one;simpa [execOp, ho] using this
 ·have := (doMakeMap_sim (ρ := a.eval) k hr).one;simpa [execOp, ho] using this
 ·simp at hr
end
end Go.Ai
