/-
LayoutWraps, part 12 of 48: AiExec AiLow.
-/
import Derived.Scope
import Derived.ScopeJumps
import Derived.Test.YthacbaagffpkoaaLw11
set_option linter.unusedVariables false
set_option linter.unusedSimpArgs false
namespace Go.Ai
theorem Sl.get_set (t : Sl) (k i : Nat) (v : V) (hk : k < 1024) : (t.set k v).get i = if i = k then some v else t.get i := T.get_set ..
theorem Sl.get_set' (t : Sl) (k i : Nat) (v : V) : (t.set k v).get i = if i = k then some v else t.get i := T.get_set ..
theorem Sl.get_new (i : Nat) : Sl.new.get i = none := T.get_e i
theorem Sl.setMany_nil (t : Sl) (k : Nat) : t.setMany k [] = t := rfl
theorem Sl.setMany_cons (t : Sl) (k : Nat) (x : V) (l : List V) : t.setMany k (x :: l) = (t.set k x).setMany (k + 1) l := rfl
theorem Sl.get_setMany (l : List V) : ∀ (t : Sl) (k i : Nat), k + l.length ≤ 1024 → (t.setMany k l).get i = if k ≤ i ∧ i < k + l.length then l[i - k]? else t.get i := by
 induction l with
 | nil => intro t k i _; rw [Sl.setMany_nil, if_neg (by simp)]
 | cons x l ih =>
  intro t k i hl;simp only [List.length_cons] at hl;rw [Sl.setMany_cons, ih _ _ _ (by omega), Sl.get_set _ _ _ _ (by omega)]
  by_cases h : i = k
  ·subst h;rw [if_neg (by omega), if_pos rfl, if_pos (by simp)]; simp
  ·by_cases h2 : k + 1 ≤ i ∧ i < k + 1 + l.length
   ·rw [if_pos h2, if_pos (by simp; omega), show i - k = (i - (k + 1)) + 1 by omega, List.getElem?_cons_succ]
   ·rw [if_neg h2, if_neg h, if_neg (by simp; omega)]
structure Rel (P : Program) (ι : Inj) (T0 : Sl) (h : H) (nt : Nat) (a : Act) (w : World) : Prop where
 hr : HR P ι h w
 tr : TR ι T0 a.tmps
 defers : a.defers = []
 size : a.tmps.size = nt
structure CallOk (P : Program) (call : CallF) : Prop where
 body : ∀ f args h v h', call f args h = some (v, h') → ∀ (ι : Inj) (w : World), HR P ι h w → HasBody P f
 sim : ∀ f args h v h', call f args h = some (v, h') → ∀ (ι : Inj) (w : World) (cargs : List Value), HR P ι h w → All2 (VR ι) args cargs →
  Calls P f cargs.toArray w fun e w' => ∃ ι' cv, e = .returned cv ∧ VR ι' v cv ∧ Step P ι h w ι' h' w'
section
variable {P : Program} {call : CallF} {nt : Nat} (hnt : nt ≤ 1024) {ι : Inj} {h : H} {w : World} {a : Act} {T0 : Sl}
theorem put_size (a : Act) (d : Option Tmp) (u : Value) : (a.put d u).tmps.size = a.tmps.size := by cases d <;> simp [Act.put]
theorem put_defers (a : Act) (d : Option Tmp) (u : Value) : (a.put d u).defers = a.defers := by cases d <;> simp [Act.put]
include hnt in
theorem putT_rel {T1 : Sl} {d : Option Tmp} {v : V} {u : Value} (hp : putT nt T0 d v = some T1) (kt : TR ι T0 a.tmps) (hv : VR ι v u) (hs : a.tmps.size = nt) : TR ι T1 (a.put d u).tmps := by
 unfold putT at hp
 cases d with
 | none => simp at hp; subst hp; exact kt
 | some d =>
  simp only at hp
  cases hb : Nat.blt d nt with
  | false => rw [hb] at hp; simp at hp
  | true =>
   rw [hb] at hp;simp only [cond_true, Sl.setK_eq, Option.some.injEq] at hp;subst hp;have hd : d < nt := by rw [Nat.blt_eq] at hb; exact hb
   intro t x hx;rw [Sl.get_set _ _ _ _ (Nat.lt_of_lt_of_le hd hnt)] at hx
   by_cases e : t = d
   ·rw [if_pos e] at hx; cases hx; subst e;simp only [Act.put];rw [Array.getD_eq_getD_getElem?, Array.getElem?_setIfInBounds_self, if_pos (hs ▸ hd)];exact hv
   ·rw [if_neg e] at hx;simp only [Act.put];rw [Array.getD_eq_getD_getElem?, Array.getElem?_setIfInBounds_ne (Ne.symm e), ← Array.getD_eq_getD_getElem?];exact kt t x hx
theorem wantB_rel {ops : Array Oper} {o : Oper} {b : Bool} (kt : TR ι T0 a.tmps) (hw : wantB ops.toList T0 o = some b) : Region.wanted o (yielded ops a.tmps) = b := by
 unfold wantB at hw;unfold Region.wanted;split at hw
 ·rename_i hg; rw [hg]; simpa using hw
 ·rename_i j want hg;rw [hg];simp only;split at hw
  ·rename_i g hj;have hj' : ops[j]? = some g := by simpa using hj
   split at hw
   ·rename_i d hd;split at hw
    ·rename_i t ht;simp only [Option.some.injEq] at hw;have hv : a.tmps.getD d undef = .bool t := kt d _ ht
     have : a.tmps[d]? = some (.bool t) := by
      rw [Array.getD_eq_getD_getElem?] at hv
      cases hh : a.tmps[d]? with
      | none => rw [hh] at hv; simp [undef] at hv
      | some q => rw [hh] at hv; simp at hv; rw [hv]
     simp only [yielded, hj', Option.bind_some, hd, this];rw [← hw];cases t <;> cases want <;> rfl
    ·rename_i ht;simp only [Option.some.injEq] at hw;obtain ⟨vs, hv, hvs⟩ := kt d _ ht
     have : yielded ops a.tmps j = none := by
      simp only [yielded, hj', Option.bind_some, hd];rw [Array.getD_eq_getD_getElem?] at hv
      cases hh : a.tmps[d]? with
      | none => rfl
      | some q => rw [hh] at hv; simp at hv; rw [hv]
     rw [this, ← hw]; rfl
    ·simp at hw
   ·simp at hw
  ·simp at hw
theorem execW_wp (hc : CallOk P call) {o : Oper} {v : V} {h' : H} {next : Act → World → Prop} {Q : Exit → Act → World → Prop} (hx : execW P call T0 h o = some (v, h')) (k : HR P ι h w) (kt : TR ι T0 a.tmps)
  (K : ∀ ι' v' w', VR ι' v v' → Step P ι h w ι' h' w' → next (a.put o.dst v') w') : o.wp P a w next Q := by
 unfold execW goR at hx;split at hx
 ·rename_i v1 h1 he;cases hx;obtain ⟨ι', v', w', hr, hv, hs⟩ := execO_sim k kt he;unfold Oper.wp;rcases hr with hr | ⟨hr, rfl⟩
  ·rw [hr]; exact K ι' v' w' hv hs
  ·rw [hr]; exact K ι' undef w' hv hs
 ·rename_i f args h1 he;obtain ⟨rfl, args', hr, hall⟩ := execO_sim k kt he;have hb := hc.body _ _ _ _ _ hx ι w k;unfold Oper.wp;rw [hr hb];exact (hc.sim _ _ _ _ _ hx ι w args' k hall).mono fun e w' ⟨ι', cv, he, hv, hs⟩ => by subst he; exact K ι' cv w' hv hs
 ·simp at hx
include hnt in
theorem oneOp_wp (hc : CallOk P call) {ops : Array Oper} {o : Oper} {T1 : Sl} {h1 : H} {next : Act → World → Prop} {Q : Exit → Act → World → Prop} (hx : oneOp P call nt ops.toList o T0 h = some (T1, h1)) (R : Rel P ι T0 h nt a w)
  (K : ∀ ι' a' w', Rel P ι' T1 h1 nt a' w' → Step P ι h w ι' h1 w' → next a' w') :
  if Region.wanted o (yielded ops a.tmps) then o.wp P a w next Q ∨ (o.asks P a w ∧ LetsOut Q) else next (a.put o.dst undef) w := by
 unfold oneOp at hx;split at hx
 ·simp at hx
 ·rename_i hw;rw [wantB_rel R.tr hw];simp only [Bool.false_eq_true, if_false];unfold putR at hx;simp only at hx;split at hx
  ·rename_i T2 hp;cases hx;exact K ι _ w ⟨R.hr, putT_rel hnt hp R.tr VR.undef_ R.size, by rw [put_defers]; exact R.defers, by rw [put_size]; exact R.size⟩ (.refl R.hr)
  ·simp at hx
 ·rename_i hw;rw [wantB_rel R.tr hw];simp only [if_true];unfold putR at hx;split at hx
  ·rename_i v h2 he;split at hx
   ·rename_i T2 hp;cases hx;refine .inl (execW_wp hc he R.hr R.tr fun ι' v' w' hv hs => ?_);exact K ι' _ w' ⟨hs.hr, putT_rel hnt hp (R.tr.ext hs.ext) hv R.size, by rw [put_defers]; exact R.defers, by rw [put_size]; exact R.size⟩ hs
   ·simp at hx
  ·simp at hx
theorem runOps_cons (all : List Oper) (o : Oper) (l : List Oper) (T0 : Sl) (h : H) : runOps P call nt all (o :: l) T0 h = match oneOp P call nt all o T0 h with
  | some (T1, h1) => runOps P call nt all l T1 h1
  | none => none := rfl
include hnt in
theorem runOps_wp (hc : CallOk P call) {ops : Array Oper} {Q : Exit → Act → World → Prop} : ∀ (l : List Oper) {T0 : Sl} {h : H} {ι : Inj} {a : Act} {w : World} {T1 : Sl} {h1 : H}, runOps P call nt ops.toList l T0 h = some (T1, h1) → Rel P ι T0 h nt a w →
  (∀ ι' a' w', Rel P ι' T1 h1 nt a' w' → Step P ι h w ι' h1 w' → Q .normal a' w') → wpList P ops Q l a w
 | [], T0, h, ι, a, w, T1, h1, hx, R, K => by
  have e : some (T0, h) = some (T1, h1) := hx;cases e;exact K ι a w R (.refl R.hr)
 | o :: l, T0, h, ι, a, w, T1, h1, hx, R, K => by
  rw [runOps_cons] at hx;split at hx
  ·rename_i T2 h2 he;exact oneOp_wp hnt hc he R fun ι' a' w' R' hs => runOps_wp hc l hx R' fun ι2 a2 w2 R2 hs2 => K ι2 a2 w2 R2 (hs.trans hs2)
  ·simp at hx
def Ex.out : Ex → Exit
 | .normal => .normal
 | .exit id => .exit id
 | .goto l => .goto l
 | .ret => .ret
def DrawOk (P : Program) (call : CallF) (nt : Nat) : Prop := ∀ (id : Nat) (ops : Array Oper) (T0 : Sl) (h : H) (T1 : Sl) (h1 : H) (ι : Inj) (a : Act) (w : World) (Q : Exit → Act → World → Prop), drawR P call nt ops T0 h = some (T1, h1) → Rel P ι T0 h nt a w →
 (∀ ι' a' w', Rel P ι' T1 h1 nt a' w' → Step P ι h w ι' h1 w' → Q .normal a' w') → (Code.region id ops true).wp P Q a w
def CodeOk (P : Program) (nt : Nat) (c : Code) (T0 : Sl) (h : H) (e : Ex) (T1 : Sl) (h1 : H) : Prop := ∀ (ι : Inj) (a : Act) (w : World) (Q : Exit → Act → World → Prop), Rel P ι T0 h nt a w →
 (∀ ι' a' w', Rel P ι' T1 h1 nt a' w' → Step P ι h w ι' h1 w' → Q e.out a' w') → c.wp P Q a w
def wpScope (P : Program) (body c : Code) (Q : Exit → Act → World → Prop) (a : Act) (w : World) : Prop :=
 ∀ (b : Frame) (k : List Item) (cs : List Frame), ∃ e a' w', Q e a' w' ∧ Arrives P (lone (b.at a (.code c :: .inScope body :: k)) cs w) b k cs e a' w'
def ScopeOk (P : Program) (nt : Nat) (body c : Code) (T0 : Sl) (h : H) (e : Ex) (T1 : Sl) (h1 : H) : Prop := ∀ (ι : Inj) (a : Act) (w : World) (Q : Exit → Act → World → Prop), Rel P ι T0 h nt a w →
 (∀ ι' a' w', Rel P ι' T1 h1 nt a' w' → Step P ι h w ι' h1 w' → Q e.out a' w') → wpScope P body c Q a w
def wpRound (P : Program) (body : Code) (Q : Exit → Act → World → Prop) (a : Act) (w : World) : Prop :=
 ∀ (b : Frame) (k : List Item) (cs : List Frame), ∃ e a' w', Q e a' w' ∧ Arrives P (lone (b.at a (.code body :: .inLoop body :: k)) cs w) b k cs e a' w'
def RoundOk (P : Program) (nt : Nat) (body : Code) (T0 : Sl) (h : H) (e : Ex) (T1 : Sl) (h1 : H) : Prop := ∀ (ι : Inj) (a : Act) (w : World) (Q : Exit → Act → World → Prop), Rel P ι T0 h nt a w →
 (∀ ι' a' w', Rel P ι' T1 h1 nt a' w' → Step P ι h w ι' h1 w' → Q e.out a' w') → wpRound P body Q a w
theorem wp_loop_of {body : Code} {Q : Exit → Act → World → Prop} {a : Act} {w : World} (hw : wpRound P body Q a w) : (Code.loop body).wp P Q a w := by
 intro b k cs;obtain ⟨e, a', w', q, r⟩ := hw b k cs;exact ⟨e, a', w', q, .of_steps (.one step_loop) r⟩
theorem wpRound_of {body : Code} {Q : Exit → Act → World → Prop} {a : Act} {w : World} (hw : body.wp P (Exit.then (fun a' w' => wpRound P body Q a' w') Q) a w) : wpRound P body Q a w := by
 intro b k cs;obtain ⟨x, a1, w1, hq, harr⟩ := hw b (.inLoop body :: k) cs
 cases x with
 | normal =>
  obtain ⟨e2, a2, w2, hq2, harr2⟩ := hq b k cs;exact ⟨e2, a2, w2, hq2, .of_steps (Steps.trans harr (.one step_inLoop)) harr2⟩
 | exit id => exact ⟨_, a1, w1, hq, .pass (x := .inLoop body) rfl (fun _ _ => .inl (by simp)) harr⟩
 | goto l => exact ⟨_, a1, w1, hq, .pass (x := .inLoop body) rfl (fun _ _ => .inl (by simp)) harr⟩
 | ret => exact ⟨_, a1, w1, hq, .pass (x := .inLoop body) rfl (fun _ _ => .inl (by simp)) harr⟩
 | panic ch => exact ⟨_, a1, w1, hq, .pass (x := .inLoop body) rfl (fun _ _ => .inl (by simp)) harr⟩
 | outgrown => exact ⟨_, a1, w1, hq, .pass (x := .inLoop body) rfl (fun _ _ => .inl (by simp)) harr⟩
theorem step_scopeIn {P : Program} {b : Frame} {a : Act} {k : List Item} {cs : List Frame} {w : World} {c : Code} : step P (lone (b.at a (.inScope c :: k)) cs w) = .next (lone (b.at a k) cs w) :=
 step_lone_go (by simp [stepG, stepG.exec, Frame.at])
theorem step_scopeTo {P : Program} {b : Frame} {a : Act} {k : List Item} {cs : List Frame} {w : World} {c : Code} : step P (lone (b.at a (.code (.scope c) :: k)) cs w) = .next (lone (b.at a (.code c :: .inScope c :: k)) cs w) :=
 step_lone_go (by simp [stepG, stepG.exec, Frame.at])
theorem wp_scope_of {body : Code} {Q : Exit → Act → World → Prop} {a : Act} {w : World} (hw : wpScope P body body Q a w) : (Code.scope body).wp P Q a w := by
 intro b k cs;obtain ⟨e, a', w', q, r⟩ := hw b k cs;exact ⟨e, a', w', q, .of_steps (.one step_scopeTo) r⟩
theorem wpScope_out {body c : Code} {Q : Exit → Act → World → Prop} {a : Act} {w : World} {e : Ex} {Q' : Act → World → Prop} (hg : ∀ l, e = .goto l → findLabel body l = none)
  (hw : c.wp P (fun x a' w' => x = e.out ∧ Q' a' w') a w) (K : ∀ a' w', Q' a' w' → Q e.out a' w') : wpScope P body c Q a w := by
 intro b k cs;obtain ⟨x, a', w', ⟨rfl, q⟩, r⟩ := hw b (.inScope body :: k) cs;refine ⟨e.out, a', w', K a' w' q, ?_⟩
 cases e with
 | normal => exact Steps.trans r (.one step_scopeIn)
 | exit id => exact fun k' hk => r k' (by simp [exitTo, hk])
 | goto l => exact fun k' hk => r k' (by simp [gotoIn, hg l rfl, hk])
 | ret => exact r
theorem wpScope_jump {body c rest : Code} {l : Nat} {Q : Exit → Act → World → Prop} {a : Act} {w : World} {Q' : Act → World → Prop} (hf : findLabel body l = some rest)
  (hw : c.wp P (fun x a' w' => x = .goto l ∧ Q' a' w') a w) (K : ∀ a' w', Q' a' w' → wpScope P body rest Q a' w') : wpScope P body c Q a w := by
 intro b k cs;obtain ⟨x, a', w', ⟨rfl, q⟩, r⟩ := hw b (.inScope body :: k) cs;obtain ⟨e, a2, w2, q2, r2⟩ := K a' w' q b k cs;exact ⟨e, a2, w2, q2, .of_steps (r _ (by simp [gotoIn, hf])) r2⟩
theorem execC_succ (n : Nat) (c : Code) (sc : Option Code) (T0 : Sl) (h : H) : execC P call nt (n + 1) c sc T0 h = bothC P call nt (execC P call nt n) c sc T0 h := rfl
include hnt in
theorem execC_ok (hc : CallOk P call) (hd : DrawOk P call nt) (n : Nat) : (∀ c T0 h e T1 h1, execC P call nt n c none T0 h = some (e, T1, h1) → CodeOk P nt c T0 h e T1 h1) ∧
  (∀ body c T0 h e T1 h1, execC P call nt n c (some body) T0 h = some (e, T1, h1) → ScopeOk P nt body c T0 h e T1 h1) ∧
  (∀ body T0 h e T1 h1, execC P call nt n (.loop body) none T0 h = some (e, T1, h1) → RoundOk P nt body T0 h e T1 h1) := by
 induction n with
 | zero =>
  constructor
  ·intro c T0 h e T1 h1 hx; cases hx
  ·constructor
   ·intro body c T0 h e T1 h1 hx; cases hx
   ·intro body T0 h e T1 h1 hx; cases hx
 | succ n ih =>
  obtain ⟨ih1, ih2, ih3⟩ := ih
  have seq : ∀ {a b : Code} {T0 : Sl} {h : H} {e : Ex} {T1 : Sl} {h1 : H}, thenC (execC P call nt n b none) (execC P call nt n a none T0 h) = some (e, T1, h1) →
    (∃ T2 h2, execC P call nt n a none T0 h = some (.normal, T2, h2) ∧ execC P call nt n b none T2 h2 = some (e, T1, h1)) ∨ (e ≠ .normal ∧ execC P call nt n a none T0 h = some (e, T1, h1)) := by
   intro a b T0 h e T1 h1 hx;unfold thenC at hx;split at hx
   ·rename_i T2 h2 he; exact .inl ⟨T2, h2, he, hx⟩
   ·rename_i hne;refine .inr ⟨fun e' => ?_, hx⟩;subst e';exact hne _ _ hx
  have round : ∀ body T0 h e T1 h1, execC P call nt (n + 1) (.loop body) none T0 h = some (e, T1, h1) → RoundOk P nt body T0 h e T1 h1 := by
   intro body T0 h e T1 h1 hx ι a w Q R K;rcases seq (show thenC (execC P call nt n (.loop body) none) (execC P call nt n body none T0 h) = _ from hx) with ⟨T2, h2, he1, he2⟩ | ⟨hne, he⟩
   ·refine wpRound_of (ih1 body T0 h _ _ _ he1 ι a w _ R fun ι' a' w' R' hs => ?_);exact ih3 body T2 h2 _ _ _ he2 ι' a' w' Q R' fun ι2 a2 w2 R2 hs2 => K ι2 a2 w2 R2 (hs.trans hs2)
   ·refine wpRound_of (ih1 body T0 h _ _ _ he ι a w _ R fun ι' a' w' R' hs => ?_);have := K ι' a' w' R' hs;cases e <;> first | exact absurd rfl hne | exact this
  refine ⟨fun c T0 h e T1 h1 hx => ?_, fun body c T0 h e T1 h1 hx => ?_, round⟩
  ·rw [execC_succ] at hx;intro ι a w Q R K
   cases c with
   | skip =>
    have e' : some (Ex.normal, T0, h) = some (e, T1, h1) := hx;cases e';exact wp_skip (K ι a w R (.refl R.hr))
   | label l =>
    have e' : some (Ex.normal, T0, h) = some (e, T1, h1) := hx;cases e';exact wp_label (K ι a w R (.refl R.hr))
   | exit id =>
    have e' : some (Ex.exit id, T0, h) = some (e, T1, h1) := hx;cases e';exact wp_exit (K ι a w R (.refl R.hr))
   | goto l =>
    have e' : some (Ex.goto l, T0, h) = some (e, T1, h1) := hx;cases e';exact wp_goto (K ι a w R (.refl R.hr))
   | ret =>
    have e' : some (Ex.ret, T0, h) = some (e, T1, h1) := hx;cases e';exact wp_ret (K ι a w R (.refl R.hr))
   | region id ops draw =>
    have hx' : normC (cond draw (drawR P call nt ops T0 h) (runOps P call nt ops.toList ops.toList T0 h)) = some (e, T1, h1) := hx;unfold normC at hx';split at hx'
    ·rename_i T2 h2 he;cases hx'
     cases draw with
     | true => exact hd id ops T0 h _ _ ι a w Q he R K
     | false => exact wp_region_list (runOps_wp hnt hc ops.toList he R K)
    ·simp at hx'
   | seq c1 c2 =>
    rcases seq (show thenC (execC P call nt n c2 none) (execC P call nt n c1 none T0 h) = _ from hx) with ⟨T2, h2, he1, he2⟩ | ⟨hne, he⟩
    ·refine wp_seq (ih1 c1 T0 h _ _ _ he1 ι a w _ R fun ι' a' w' R' hs => ?_);exact ih1 c2 T2 h2 _ _ _ he2 ι' a' w' Q R' fun ι2 a2 w2 R2 hs2 => K ι2 a2 w2 R2 (hs.trans hs2)
    ·refine wp_seq (ih1 c1 T0 h _ _ _ he ι a w _ R fun ι' a' w' R' hs => ?_);have := K ι' a' w' R' hs;cases e <;> first | exact absurd rfl hne | exact this
   | cond x c1 c2 =>
    have hx' : condC (execC P call nt n) c1 c2 T0 h (ev T0 x) = some (e, T1, h1) := hx;unfold condC at hx';split at hx'
    ·rename_i t ht;have hv : a.eval x = .bool t := ev_rel R.tr ht;refine wp_cond hv ?_;have := ih1 _ T0 h _ _ _ hx' ι a w Q R K;cases t <;> exact this
    ·simp at hx'
   | block id body =>
    have hx' : inBlockC id (execC P call nt n body none T0 h) = some (e, T1, h1) := hx;unfold inBlockC at hx';split at hx'
    ·rename_i id' T2 h2 he
     cases hb : Nat.beq id' id with
     | true =>
      rw [hb] at hx';have := Nat.eq_of_beq_eq_true hb;subst this;cases hx';refine wp_block (ih1 body T0 h _ _ _ he ι a w _ R fun ι' a' w' R' hs => ?_);show Exit.inBlock id' Q (.exit id') a' w';simp only [Exit.inBlock, if_true];exact K ι' a' w' R' hs
     | false =>
      rw [hb] at hx';cases hx';have hne : id' ≠ id := fun q => by subst q; rw [beq_self] at hb; cases hb
      refine wp_block (ih1 body T0 h _ _ _ he ι a w _ R fun ι' a' w' R' hs => ?_);show Exit.inBlock id Q (.exit id') a' w';simp only [Exit.inBlock, hne, if_false];exact K ι' a' w' R' hs
    ·rename_i hne;refine wp_block (ih1 body T0 h _ _ _ hx' ι a w _ R fun ι' a' w' R' hs => ?_);have := K ι' a' w' R' hs
     cases e with
     | exit id' => exact absurd hx' (hne _ _ _)
     | _ => exact this
   | loop body =>
    exact wp_loop_of (round body T0 h e T1 h1 (by rw [execC_succ]; exact hx) ι a w Q R K)
   | scope body =>
    have hx' : execC P call nt n body (some body) T0 h = some (e, T1, h1) := hx;exact wp_scope_of (ih2 body body T0 h _ _ _ hx' ι a w Q R K)
   | rangeFunc => exact absurd (show (none : Option (Ex × Sl × H)) = some (e, T1, h1) from hx) (by simp)
   | refuse => exact absurd (show (none : Option (Ex × Sl × H)) = some (e, T1, h1) from hx) (by simp)
  ·rw [execC_succ] at hx;have hx' : scopeC (execC P call nt n) body (execC P call nt n c none T0 h) = some (e, T1, h1) := hx;unfold scopeC at hx';intro ι a w Q R K;split at hx'
   ·rename_i l T2 h2 he;unfold restC at hx';split at hx'
    ·rename_i rest hf;refine wpScope_jump (Q' := fun a' w' => ∃ ι', Rel P ι' T2 h2 nt a' w' ∧ Step P ι h w ι' h2 w') hf (ih1 c T0 h _ _ _ he ι a w _ R fun ι' a' w' R' hs => ⟨rfl, ι', R', hs⟩) ?_;rintro a' w' ⟨ι', R', hs⟩;exact ih2 body rest T2 h2 _ _ _ hx' ι' a' w' Q R' fun ι2 a2 w2 R2 hs2 => K ι2 a2 w2 R2 (hs.trans hs2)
    ·rename_i hf;cases hx';exact wpScope_out (e := .goto l) (Q' := fun a' w' => Q (.goto l) a' w') (fun l' e' => by cases e'; exact hf) (ih1 c T0 h _ _ _ he ι a w _ R fun ι' a' w' R' hs => ⟨rfl, K ι' a' w' R' hs⟩) fun _ _ q => q
   ·rename_i hne;exact wpScope_out (e := e) (Q' := fun a' w' => Q e.out a' w') (fun l' e' => by subst e'; exact absurd hx' (hne _ _ _)) (ih1 c T0 h _ _ _ hx' ι a w _ R fun ι' a' w' R' hs => ⟨rfl, K ι' a' w' R' hs⟩) fun _ _ q => q
end
end Go.Ai
namespace Go.Ai
structure Low (h h' : H) : Prop where
 floor : h'.floor = h.floor
 hid : h'.hid = h.hid
 next : h.next ≤ h'.next
 tr : ∀ b, b < h.next → (b < h.floor ∨ hidden h.hid b = true ∨ hidden h.frz b = true) → h'.tr.get b = h.tr.get b
 top : ∀ b, h'.next ≤ b → h.tr.get b = none → h'.tr.get b = none
 frz : h'.frz = h.frz
 kn : h'.kn = h.kn
theorem Low.refl (h : H) : Low h h := ⟨rfl, rfl, Nat.le_refl _, fun _ _ _ => rfl, fun _ _ h => h, rfl, rfl⟩
theorem Low.trans {a b c : H} (h : Low a b) (k : Low b c) : Low a c :=
 ⟨k.floor.trans h.floor, k.hid.trans h.hid, Nat.le_trans h.next k.next, fun x hx hl => (k.tr x (Nat.lt_of_lt_of_le hx h.next) (by rw [h.floor, h.hid, h.frz]; exact hl)).trans (h.tr x hx hl), fun x hx hn => k.top x hx (h.top x (Nat.le_trans k.next hx) hn), k.frz.trans h.frz, k.kn.trans h.kn⟩
theorem Low.alloc (h : H) (o : O) : Low h (h.alloc o) :=
 ⟨rfl, rfl, Nat.le_succ _, fun b hb _ => by show (h.tr.set h.next o).get b = _; rw [T.get_set, if_neg (by omega)],
  fun b hb hn => by
   have hb' : h.next + 1 ≤ b := hb;show (h.tr.set h.next o).get b = _
   rw [T.get_set, if_neg (by omega)]; exact hn, rfl, rfl⟩
theorem may_not {h : H} {b : Nat} (k : h.may b = true) : ¬ (b < h.floor ∨ hidden h.hid b = true ∨ hidden h.frz b = true) := by
 obtain ⟨⟨h1, h3⟩, h2⟩ := H.may_iff k;rintro (q | q | q)
 ·omega
 ·rw [h2] at q; cases q
 ·rw [h3] at q; cases q
theorem Low.put {h : H} {b : Nat} (o : O) {o0 : O} (hg : h.get b = some o0) (k : h.may b = true) : Low h (h.put b o) :=
 ⟨rfl, rfl, Nat.le_refl _, fun c _ hl => by
  have hne : c ≠ b := fun e => may_not k (by rw [e] at hl; exact hl)
  show (h.tr.set b o).get c = _
  rw [T.get_set, if_neg hne], fun c _ hn => by
  have hne : c ≠ b := fun e => by rw [e, (H.get_some hg).2] at hn; cases hn
  show (h.tr.set b o).get c = _
  rw [T.get_set, if_neg hne]; exact hn, rfl, rfl⟩
theorem Low.kill {h : H} {b : Nat} (k : h.may b = true) : Low h (h.kill b) :=
 ⟨rfl, rfl, Nat.le_refl _, fun c _ hl => by
  have hne : c ≠ b := fun e => may_not k (by rw [e] at hl; exact hl)
  show (h.tr.upd b none).get c = _
  rw [T.get_upd, if_neg hne], fun c _ hn => by
  show (h.tr.upd b none).get c = _;rw [T.get_upd]
  by_cases e : c = b
  ·rw [if_pos e]
  ·rw [if_neg e]; exact hn, rfl, rfl⟩
def LowR (h : H) : R → Prop
 | .val _ h' => Low h h'
 | .enter _ _ h' => Low h h'
section
variable {P : Program} {h : H} {T0 : Sl}
theorem storeB_low {b o : Nat} {xs : List S} {h' : H} (hx : storeB h b o xs = some h') : Low h h' := by
 unfold storeB at hx;split at hx
 ·cases hx; exact .refl h
 ·split at hx
  ·rename_i e cs n hg
   cases hm : (h.may b && Nat.ble (o + xs.length) n) with
   | false => rw [hm] at hx; simp at hx
   | true =>
    rw [hm] at hx;simp only [cond_true, T.setManyK_eq, H.putK_eq, Option.some.injEq] at hx;subst hx;simp only [Bool.and_eq_true] at hm;exact .put _ hg hm.1
  ·simp at hx
theorem growB_low {b o l elem : Nat} {xs old : List S} {r : R} {K : H → Nat → Option R} (hold : h.row b o l = some old) (hx : growB h b o l elem xs old K = some r) (hK : ∀ h' q, K h' q = some r → LowR h' r) : LowR h r := by
 obtain ⟨e, cs, m, cs', n', hg, he, hm, hn', hcs, hk⟩ := growB_form hold hx;have h1 := hK _ _ hk;have h2 : Low h ((h.kill b).alloc (.cells elem cs' n')) := (Low.kill hm).trans (.alloc _ _);cases r <;> exact h2.trans h1
theorem LowR.same {v : V} : LowR h (.val v h) := Low.refl h
theorem slR_low {h' : H} {b o len cap sz : Nat} {ex : Bool} {r : R} (hx : slR h' b o len cap sz ex = some r) : LowR h' r := by
 rw [slR_eq] at hx; cases hx; exact Low.refl h'
theorem LowR.trans {h' : H} {r : R} (k : Low h h') (l : LowR h' r) : LowR h r := by cases r <;> exact k.trans l
theorem appendTo_low {elem : TypeId} {i : TypeInfo} {xs : List S} {n : Nat} {s : Option V} {r : R} (hr : appendTo P h elem i xs n s = some r) : LowR h r := by
 unfold appendTo at hr;simp only [Bool.cond_eq_ite] at hr;split at hr
 ·split at hr
  ·cases hr; exact LowR.same
  ·split at hr
   ·rw [H.rowK_eq] at hr; exact LowR.trans (.alloc _ _) (slR_low hr)
   ·simp at hr
 ·split at hr
  ·split at hr
   ·split at hr
    ·rename_i h' hst; exact LowR.trans (storeB_low hst) (slR_low hr)
    ·simp at hr
   ·split at hr
    ·split at hr
     ·rename_i old hold;split at hr
      ·rw [H.rowK_eq] at hr; exact LowR.trans (.alloc _ _) (slR_low hr)
      ·exact growB_low hold hr fun h' q hq => slR_low hq
     ·simp at hr
    ·simp at hr
  ·simp at hr
 ·simp at hr
theorem pureOp_low {o : Oper} {r : R} (hr : pureOp P T0 h o = some r) : LowR h r := by
 unfold pureOp at hr;simp only [Bool.cond_eq_ite] at hr;split at hr
 ·split at hr
  ·split at hr
   ·cases hr; exact LowR.same
   ·simp at hr
  ·simp at hr
 ·simp at hr
theorem orPure_low {o : Oper} {q : Option R} {r : R} (hr : orPure P T0 h o q = some r) (hq : q = some r → LowR h r) : LowR h r := by
 unfold orPure at hr;split at hr
 ·exact hq (by rw [← hr])
 ·split at hr
  ·rename_i y hy;cases hr; exact pureOp_low hy
  ·split at hr
   ·cases hr; exact LowR.same
   ·cases hr
theorem sameR_low {op : BinOp} {b : Option Bool} {r : R} (hr : sameR h op b = some r) : LowR h r := by
 unfold sameR at hr
 repeat' split at hr
 all_goals first | (cases hr; exact LowR.same) | (simp at hr; done)
theorem boolR_low {b : Bool} {r : R} (hr : boolR h b = some r) : LowR h r := by rw [boolR_eq] at hr; cases hr; exact LowR.same
theorem numR_low {n : Int} {r : R} (hr : numR h n = some r) : LowR h r := by rw [numR_eq] at hr; cases hr; exact LowR.same
theorem doBin_low {op : BinOp} {t : TypeId} {x y : Option V} {r : R} (hr : doBin P h op t x y = some r) : LowR h r := by
 unfold doBin binOpS addrOp intOp at hr;simp only [Bool.cond_eq_ite] at hr
 repeat' split at hr
 all_goals first | (simp at hr; done) | exact numR_low hr | exact boolR_low hr | exact sameR_low hr | (cases hr; exact LowR.same)
theorem doMinMax_low {mn : Bool} {xs : Option (List V)} {r : R} (hr : doMinMax mn h xs = some r) : LowR h r := by
 unfold doMinMax at hr;simp only [Bool.cond_eq_ite] at hr
 repeat' split at hr
 all_goals first | (simp at hr; done) | (cases hr; exact LowR.same)
theorem doCopy_low {t : TypeId} {x y : Option V} {r : R} (hr : doCopy P h t x y = some r) : LowR h r := by
 unfold doCopy copyB at hr
 repeat' split at hr
 all_goals first | (simp at hr; done) | (rename_i hst; rw [forceN_eq] at hr; cases hr; exact storeB_low hst) | (cases hr; exact LowR.same)
theorem doBuiltin_low {o : Oper} {args : Array Operand} {ts : Array TypeId} {b : Builtin} {r : R} (hr : doBuiltin P T0 h o args ts b = some r) : LowR h r := by
 unfold doBuiltin at hr;split at hr
 ·unfold doLenOp at hr;split at hr
  ·refine orPure_low hr fun hq => ?_;unfold doLen at hq
   repeat' split at hq
   all_goals first | (simp at hq; done) | (cases hq; exact LowR.same)
  ·simp at hr
 ·unfold doTwo at hr;split at hr
  ·unfold doAppend appendAt appendZ at hr;simp only [Bool.cond_eq_ite] at hr
   repeat' split at hr
   all_goals first | (simp at hr; done) | exact appendTo_low hr
  ·simp at hr
 ·unfold doTwo at hr;split at hr
  ·exact doCopy_low hr
  ·simp at hr
 ·unfold doOne at hr;split at hr
  ·unfold doClear at hr;simp only [Bool.cond_eq_ite] at hr
   repeat' split at hr
   all_goals first | (simp at hr; done) | (rename_i hst; cases hr; exact storeB_low hst) | (cases hr; exact LowR.same)
  ·simp at hr
 ·exact orPure_low hr doMinMax_low
 ·exact orPure_low hr doMinMax_low
 ·simp only [Bool.cond_eq_ite] at hr;split at hr
  ·exact orPure_low hr (fun e => by cases e)
  ·simp at hr
theorem alloc1_low {e : TypeId} {v : V} {r : R} (hr : alloc1 h e v = some r) : LowR h r := by
 unfold alloc1 at hr;rw [H.rowK_eq] at hr; cases hr; exact Low.alloc _ _
theorem execO_low {o : Oper} {r : R} (hr : execO P T0 h o = some r) : LowR h r := by
 unfold execO at hr;split at hr
 all_goals first
  | (simp at hr; done)
  | exact pureOp_low hr
  | skip
 ·unfold doMove at hr; split at hr <;> first | (simp at hr; done) | (cases hr; exact LowR.same)
 ·unfold doMove at hr; split at hr <;> first | (simp at hr; done) | (cases hr; exact LowR.same)
 ·unfold doPick doMove at hr
  repeat' split at hr
  all_goals first | (simp at hr; done) | (cases hr; exact LowR.same)
 ·unfold doAlloc at hr;simp only [Bool.cond_eq_ite] at hr
  repeat' split at hr
  all_goals first | (simp at hr; done) | exact alloc1_low hr
 ·unfold doBox at hr;split at hr <;> first | (simp at hr; done) | exact alloc1_low hr
 ·unfold doBuild at hr
  repeat' split at hr
  all_goals first | (simp at hr; done) | (cases hr; exact LowR.same)
 ·unfold doBuildSlice at hr;simp only [Bool.cond_eq_ite] at hr
  repeat' split at hr
  all_goals first | (simp at hr; done) | (rw [H.rowK_eq] at hr; cases hr; exact Low.alloc _ _)
 ·unfold doLoad at hr
  repeat' split at hr
  all_goals first | (simp at hr; done) | (cases hr; exact LowR.same)
 ·unfold doStore at hr;simp only [Bool.cond_eq_ite] at hr
  repeat' split at hr
  all_goals first | (simp at hr; done) | (rename_i hst; cases hr; exact storeB_low hst)
 ·unfold doNilCheck at hr
  repeat' split at hr
  all_goals first | (simp at hr; done) | (cases hr; exact LowR.same)
 ·unfold doFieldAddr at hr;simp only [ptrR_eq] at hr
  repeat' split at hr
  all_goals first | (simp at hr; done) | (cases hr; exact LowR.same)
 ·unfold doIndexW doIndexAddr at hr;simp only [ptrR_eq, Bool.cond_eq_ite] at hr
  repeat' split at hr
  all_goals first | (simp at hr; done) | (cases hr; exact LowR.same)
 ·refine orPure_low hr fun hq => ?_;unfold doSlice at hq;simp only [Bool.cond_eq_ite] at hq
  repeat' split at hq
  all_goals first | (simp at hq; done) | exact slR_low hq
 ·unfold doField at hr
  repeat' split at hr
  all_goals first | (simp at hr; done) | (cases hr; exact LowR.same)
 ·unfold doExtract at hr
  repeat' split at hr
  all_goals first | (simp at hr; done) | (cases hr; exact LowR.same)
 ·unfold doMakeSlice at hr;simp only [Bool.cond_eq_ite] at hr
  repeat' split at hr
  all_goals first | (simp at hr; done) | (rw [H.rowK_eq] at hr; cases hr; exact Low.alloc _ _)
 ·unfold doMakeFunc at hr;simp only [Bool.cond_eq_ite, forceN_eq, H.allocK_eq] at hr
  repeat' split at hr
  all_goals first | (simp at hr; done) | (cases hr; exact LowR.same) | (cases hr; exact Low.alloc _ _)
 ·exact orPure_low hr doBin_low
 ·refine orPure_low hr fun hq => ?_;unfold doUn at hq;split at hq <;> first | (simp at hq; done) | exact boolR_low hq
 ·refine orPure_low hr fun hq => ?_;unfold doConv strOf bytesR at hq;simp only [Bool.cond_eq_ite, T.setManyK_eq, forceN_eq, H.allocK_eq] at hq
  repeat' split at hq
  all_goals first | (simp at hq; done) | exact numR_low hq | (cases hq; exact LowR.same) | (cases hq; exact Low.alloc _ _)
 ·unfold doCallOp at hr;split at hr
  ·unfold doCall callR at hr;simp only [Bool.cond_eq_ite] at hr
   repeat' split at hr
   all_goals first | (simp at hr; done) | (cases hr; exact Low.refl h)
  ·exact doBuiltin_low hr
  ·simp at hr
 ·unfold doLookup lookB lookR at hr;simp only [Bool.cond_eq_ite] at hr
  repeat' split at hr
  all_goals first | (simp at hr; done) | (cases hr; exact LowR.same)
 ·unfold doMapUpdate at hr;split at hr
  ·split at hr
   ·rename_i key elem es ht hg
    cases hk : (keyOk (keyB P key) _ && h.may _ && !V.isTup _) with
    | false => rw [hk] at hr; simp at hr
    | true =>
     rw [hk] at hr;simp only [cond_true] at hr;simp only [Bool.and_eq_true] at hk;split at hr
     ·rw [H.putK_eq] at hr; cases hr; exact Low.put _ hg hk.1.2
     ·split at hr
      ·rw [H.putK_eq] at hr; cases hr; exact Low.put _ hg hk.1.2
      ·simp at hr
     ·simp at hr
   ·simp at hr
  ·simp at hr
 ·unfold doMakeMap at hr
  repeat' split at hr
  all_goals first | (simp at hr; done) | (rw [forceN_eq, H.allocK_eq] at hr; cases hr; exact Low.alloc _ _)
end
end Go.Ai
