/-
LayoutWraps, part 13 of 48: AiLow2 AiDraw1.
-/
import Derived.Still
import Derived.Test.YthacbaagffpkoaaLw12
set_option linter.unusedVariables false
set_option linter.unusedSimpArgs false
namespace Go.Ai
def CallLow (call : CallF) : Prop := ∀ f args h v h', call f args h = some (v, h') → Low h h'
theorem hidden_append (l m : List (Nat × Nat)) (b : Nat) : hidden (l ++ m) b = (hidden l b || hidden m b) := by
 induction l with
 | nil => simp [hidden]
 | cons x l ih => simp only [List.cons_append, hidden, ih, Bool.or_assoc]
section
variable {P : Program} {call : CallF} {nt : Nat}
theorem execW_low (hl : CallLow call) {T0 : Sl} {h h' : H} {o : Oper} {v : V} (hx : execW P call T0 h o = some (v, h')) : Low h h' := by
 unfold execW goR at hx;split at hx
 ·rename_i v1 h1 he; cases hx; exact execO_low he
 ·rename_i f args h1 he;have : Low h h1 := execO_low he;exact this.trans (hl _ _ _ _ _ hx)
 ·simp at hx
theorem oneOp_low (hl : CallLow call) {all : List Oper} {o : Oper} {T0 T1 : Sl} {h h1 : H} (hx : oneOp P call nt all o T0 h = some (T1, h1)) : Low h h1 := by
 unfold oneOp putR at hx;split at hx
 ·simp at hx
 ·simp only at hx;split at hx
  ·cases hx; exact .refl _
  ·simp at hx
 ·split at hx
  ·rename_i v h2 he;split at hx
   ·cases hx; exact execW_low hl he
   ·simp at hx
  ·simp at hx
theorem runOps_low (hl : CallLow call) {all : List Oper} : ∀ (l : List Oper) {T0 T1 : Sl} {h h1 : H}, runOps P call nt all l T0 h = some (T1, h1) → Low h h1
 | [], T0, T1, h, h1, hx => by
  have e : some (T0, h) = some (T1, h1) := hx;cases e; exact .refl _
 | o :: l, T0, T1, h, h1, hx => by
  rw [runOps_cons] at hx;split at hx
  ·rename_i T2 h2 he;exact (oneOp_low hl he).trans (runOps_low hl l hx)
  ·simp at hx
theorem putS_some {s s' : St} {d : Option Tmp} {v : V} (hp : putS nt s d v = some s') : ∃ T1, putT nt s.t d v = some T1 ∧ s' = { t := T1, h := s.h, rg := s.rg, ld := s.ld } := by
 unfold putS at hp;split at hp
 ·rename_i T1 h1; cases hp; exact ⟨T1, h1, rfl⟩
 ·simp at hp
theorem fenced_low {h h1 : H} {l z : List (Nat × Nat)} {fl : Nat} (hfl : h.floor ≤ fl ∨ h.next ≤ fl) (k : Low (h.fenced l z fl) h1) : Low h { tr := h1.tr, next := h1.next, floor := h.floor, hid := h.hid, frz := h.frz, kn := h.kn } := by
 refine ⟨rfl, rfl, k.next, fun b hb hl => k.tr b hb ?_, fun b hb hn => k.top b hb hn, rfl, rfl⟩;rcases hl with q | q | q
 ·left;show b < fl;rcases hfl with f | f <;> omega
 ·right; left;show hidden (l ++ h.hid) b = true;rw [hidden_append, q, Bool.or_true]
 ·right; right;show hidden (z ++ h.frz) b = true;rw [hidden_append, q, Bool.or_true]
theorem itemStep_low (hl : CallLow call) {all : List Oper} {x : It} {bar : Bool} {s s' : St} (hx : itemStep P call nt all x bar s = some s') : Low s.h s'.h := by
 unfold itemStep at hx;split at hx
 ·simp at hx
 ·obtain ⟨T1, _, rfl⟩ := putS_some hx; exact .refl _
 ·unfold itemDo at hx;split at hx
  ·unfold quietDo at hx;simp only [Bool.cond_eq_ite] at hx;split at hx
   ·split at hx
    ·obtain ⟨T1, _, rfl⟩ := putS_some hx; exact .refl _
    ·simp at hx
   ·simp at hx
  ·unfold allocDo at hx;simp only [Bool.cond_eq_ite] at hx;split at hx
   ·split at hx
    ·split at hx
     ·rw [H.allocK_eq] at hx;obtain ⟨T1, _, rfl⟩ := putS_some hx; exact .alloc _ _
     ·simp at hx
    ·simp at hx
   ·simp at hx
  ·unfold loadDo at hx;simp only [Bool.cond_eq_ite] at hx;split at hx
   ·split at hx
    ·split at hx
     ·split at hx
      ·obtain ⟨T1, _, rfl⟩ := putS_some hx; exact .refl _
      ·simp at hx
     ·simp at hx
    ·simp at hx
   ·simp at hx
  ·unfold loudDo at hx;split at hx
   ·rename_i v h1 he;obtain ⟨T1, _, rfl⟩ := putS_some hx;refine fenced_low ?_ (execW_low hl he);cases bar
    ·exact .inr (Nat.le_refl _)
    ·exact .inl (Nat.le_refl _)
   ·simp at hx
theorem drawAll_cons (all : List Oper) (x : It × Bool) (l : List (It × Bool)) (s : St) : drawAll P call nt all (x :: l) s = match itemStep P call nt all x.1 x.2 s with
  | some s1 => drawAll P call nt all l s1
  | none => none := rfl
theorem drawAll_nil (all : List Oper) (s : St) : drawAll P call nt all [] s = some s := rfl
theorem drawAll_low (hl : CallLow call) {all : List Oper} : ∀ (l : List (It × Bool)) {s s' : St}, drawAll P call nt all l s = some s' → Low s.h s'.h
 | [], s, s', hx => by rw [drawAll_nil] at hx; cases hx; exact .refl _
 | x :: l, s, s', hx => by
  rw [drawAll_cons] at hx;split at hx
  ·rename_i s1 he;exact (itemStep_low hl he).trans (drawAll_low hl l hx)
  ·simp at hx
theorem drawR_low (hl : CallLow call) {ops : Array Oper} {T0 T1 : Sl} {h h1 : H} (hx : drawR P call nt ops T0 h = some (T1, h1)) : Low h h1 := by
 unfold drawR at hx;simp only [Bool.cond_eq_ite] at hx;split at hx
 ·split at hx
  ·split at hx
   ·rename_i s he;cases hx;exact drawAll_low hl _ he
   ·simp at hx
  ·simp at hx
 ·simp at hx
theorem execC_low (hl : CallLow call) (n : Nat) : ∀ c sc T0 h e T1 h1, execC P call nt n c sc T0 h = some (e, T1, h1) → Low h h1 := by
 induction n with
 | zero => intro c sc T0 h e T1 h1 hx; cases hx
 | succ n ih =>
  have seq : ∀ {f : Sl → H → Option (Ex × Sl × H)} {q : Option (Ex × Sl × H)} {h : H} {e : Ex} {T1 : Sl} {h1 : H}, (∀ T2 h2 e T1 h1, f T2 h2 = some (e, T1, h1) → Low h2 h1) → (∀ e T1 h1, q = some (e, T1, h1) → Low h h1) → thenC f q = some (e, T1, h1) → Low h h1 := by
   intro f q h e T1 h1 hf hq hx;unfold thenC at hx;split at hx
   ·exact (hq _ _ _ rfl).trans (hf _ _ _ _ _ hx)
   ·exact hq _ _ _ hx
  intro c sc T0 h e T1 h1 hx;rw [execC_succ] at hx
  cases sc with
  | some body =>
   have hx' : scopeC (execC P call nt n) body (execC P call nt n c none T0 h) = some (e, T1, h1) := hx;unfold scopeC at hx';split at hx'
   ·rename_i l T2 h2 he;unfold restC at hx';split at hx'
    ·exact (ih _ _ _ _ _ _ _ he).trans (ih _ _ _ _ _ _ _ hx')
    ·cases hx'; exact ih _ _ _ _ _ _ _ he
   ·exact ih _ _ _ _ _ _ _ hx'
  | none =>
   cases c with
   | skip => have e' : some (Ex.normal, T0, h) = some (e, T1, h1) := hx; cases e'; exact .refl _
   | label l => have e' : some (Ex.normal, T0, h) = some (e, T1, h1) := hx; cases e'; exact .refl _
   | exit id => have e' : some (Ex.exit id, T0, h) = some (e, T1, h1) := hx; cases e'; exact .refl _
   | goto l => have e' : some (Ex.goto l, T0, h) = some (e, T1, h1) := hx; cases e'; exact .refl _
   | ret => have e' : some (Ex.ret, T0, h) = some (e, T1, h1) := hx; cases e'; exact .refl _
   | region id ops draw =>
    have hx' : normC (cond draw (drawR P call nt ops T0 h) (runOps P call nt ops.toList ops.toList T0 h)) = some (e, T1, h1) := hx;unfold normC at hx';split at hx'
    ·rename_i T2 h2 he;cases hx'
     cases draw with
     | true => exact drawR_low hl he
     | false => exact runOps_low hl _ he
    ·simp at hx'
   | seq c1 c2 => exact seq (fun _ _ _ _ _ q => ih _ _ _ _ _ _ _ q) (fun _ _ _ q => ih _ _ _ _ _ _ _ q) (show thenC (execC P call nt n c2 none) (execC P call nt n c1 none T0 h) = _ from hx)
   | cond x c1 c2 =>
    have hx' : condC (execC P call nt n) c1 c2 T0 h (ev T0 x) = some (e, T1, h1) := hx;unfold condC at hx';split at hx'
    ·exact ih _ _ _ _ _ _ _ hx'
    ·simp at hx'
   | block id body =>
    have hx' : inBlockC id (execC P call nt n body none T0 h) = some (e, T1, h1) := hx;unfold inBlockC at hx';simp only [Bool.cond_eq_ite] at hx';split at hx'
    ·rename_i he;split at hx' <;> cases hx' <;> exact ih _ _ _ _ _ _ _ he
    ·exact ih _ _ _ _ _ _ _ hx'
   | loop body => exact seq (fun _ _ _ _ _ q => ih _ _ _ _ _ _ _ q) (fun _ _ _ q => ih _ _ _ _ _ _ _ q) (show thenC (execC P call nt n (.loop body) none) (execC P call nt n body none T0 h) = _ from hx)
   | scope body => exact ih _ _ _ _ _ _ _ (show execC P call nt n body (some body) T0 h = some (e, T1, h1) from hx)
   | rangeFunc => exact absurd (show (none : Option (Ex × Sl × H)) = some (e, T1, h1) from hx) (by simp)
   | refuse => exact absurd (show (none : Option (Ex × Sl × H)) = some (e, T1, h1) from hx) (by simp)
def resF (tmps : Array Value) : ResultVar → Sem Value
 | .tmp t => pure (tmps.getD t undef)
 | .cell a t => do loadVar t (← asAddr (tmps.getD a undef))
theorem resB_rel {ι : Inj} {h : H} {w : World} {T1 : Sl} {tmps : Array Value} (k : HR P ι h w) (kt : TR ι T1 tmps) : ∀ {rs : List ResultVar} {vs : List V}, resB P T1 h rs = some vs →
  ∃ us, (rs.mapM (resF tmps)).run P w = .ok us w ∧ All2 (VR ι) vs us
 | [], vs, hx => by simp [resB] at hx; subst hx; exact ⟨[], rfl, .nil⟩
 | .tmp t :: rs, vs, hx => by
  simp only [resB] at hx;split at hx
  ·rename_i v vs' h1 h2;cases hx;obtain ⟨us, e1, e2⟩ := resB_rel k kt h2;refine ⟨tmps.getD t undef :: us, ?_, .cons (kt t v h1) e2⟩;rw [List.mapM_cons];simp only [resF, Sem.run_bind, Sem.run_pure, Result.andThen_ok];rw [e1]; rfl
  ·simp at hx
 | .cell a t :: rs, vs, hx => by
  simp only [resB] at hx;split at hx
  ·rename_i v h3 vs' h1 h2;cases hx;obtain ⟨us, e1, e2⟩ := resB_rel k kt h2
   cases hg : T1.get a with
   | none => rw [hg] at h1; simp [doLoad] at h1
   | some x =>
    obtain ⟨y, u, e3, e4, e5⟩ := doLoad_rel k (x := T1.get a) (v := tmps.getD a undef) (fun y hy => kt a y hy) h1;cases e3
    have hp : ∃ ad, tmps.getD a undef = .pointer (some ad) := by
     have := kt a x hg;rw [hg] at h1;unfold doLoad at h1;split at h1
     ·rename_i b o heq;cases heq;exact ⟨_, this.2⟩
     ·simp at h1
    obtain ⟨ad, had⟩ := hp;have ha : (asAddr (tmps.getD a undef)).run P w = .ok ad w := by rw [had]; rfl
    rw [had] at e4;have e4' : (loadVar t ad).run P w = .ok u w := by simpa [Instr.loadAt, Instr.sureAddr] using e4
    refine ⟨u :: us, ?_, .cons e5 e2⟩;rw [List.mapM_cons];simp only [resF, Sem.run_bind, ha, Result.andThen_ok, e4'];rw [e1]; rfl
  ·simp at hx
theorem resultB_rel {ι : Inj} {h : H} {w : World} {T1 : Sl} {fn : Func} {tmps : Array Value} {v : V} (k : HR P ι h w) (kt : TR ι T1 tmps) (hx : resultB P T1 h fn.results.toList = some v) :
  ∃ u, (results fn tmps).run P w = .ok u w ∧ VR ι v u := by
 unfold resultB at hx
 have hm : ∀ us, (fn.results.toList.mapM (resF tmps)).run P w = .ok us w → (results fn tmps).run P w = .ok (if h : us.toArray.size = 1 then us.toArray[0] else .tuple us.toArray) w := by
  intro us hu;have e : results fn tmps = (do let vs ← fn.results.mapM (resF tmps); pure (if h : vs.size = 1 then vs[0] else .tuple vs)) := rfl;rw [e, Sem.run_bind, Array.mapM_eq_mapM_toList, Sem.run_map, hu];rfl
 split at hx
 ·rename_i v' hr;cases hx;obtain ⟨us, e1, e2⟩ := resB_rel k kt hr
  cases e2 with
  | @cons _ u _ m hu ht =>
   cases ht;exact ⟨u, by rw [hm _ e1]; rfl, hu⟩
 ·rename_i vs hne hr;split at hx
  ·rename_i ps hp;cases hx;obtain ⟨us, e1, e2⟩ := resB_rel k kt hr
   have hl : us.toArray.size ≠ 1 := by
    intro e;have := e2.length;simp at e;rw [e] at this
    match vs, this, hne with
    | [x], _, hne => exact hne x rfl
   refine ⟨.tuple us.toArray, by rw [hm _ e1, dif_neg hl], us.toArray, rfl, ?_⟩;simpa using parts_rel e2 hp
  ·simp at hx
 ·simp at hx
end
end Go.Ai
namespace Go.Ai
noncomputable def keepL (T0 : Sl) : List Tmp → Sl
 | [] => Sl.new
 | d :: l => match T0.get d with
  | some v => (keepL T0 l).set d v
  | none => keepL T0 l
theorem keepL_get (T0 : Sl) : ∀ (l : List Tmp) (i : Nat), (keepL T0 l).get i = if i ∈ l then T0.get i else none
 | [], i => by rw [keepL, Sl.get_new]; simp
 | d :: l, i => by
  unfold keepL;split
  ·rename_i v hv;rw [Sl.get_set', keepL_get T0 l i]
   by_cases e : i = d
   ·subst e; simp [hv]
   ·simp [e]
  ·rename_i hv;rw [keepL_get T0 l i]
   by_cases e : i = d
   ·subst e; simp [hv]
   ·simp [e]
section
variable {P : Program} {T0 T1 : Sl}
theorem evs_congr : ∀ {l : List Operand}, (∀ x ∈ l, ev T1 x = ev T0 x) → evs T1 l = evs T0 l
 | [], _ => rfl
 | x :: l, h => by
  simp only [evs];rw [h x (by simp), evs_congr fun y hy => h y (by simp [hy])]
theorem evParts_congr : ∀ {l : List (Nat × Operand)}, (∀ x ∈ l.map (·.2), ev T1 x = ev T0 x) → evParts T1 l = evParts T0 l
 | [], _ => rfl
 | (i, x) :: l, h => by
  simp only [evParts];rw [h x (by simp), evParts_congr fun y hy => h y (by simp at hy ⊢; exact .inr hy)]
theorem allConc_congr : ∀ {l : List Operand}, (∀ x ∈ l, ev T1 x = ev T0 x) → allConc T1 l = allConc T0 l
 | [], _ => rfl
 | x :: l, h => by
  have e : evc T1 x = evc T0 x := by unfold evc; rw [h x (by simp)]
  simp only [allConc];rw [e, allConc_congr fun y hy => h y (by simp [hy])]
theorem pureOp_congr {h : H} {o : Oper} (hs : ∀ cs b, o.op ≠ .select cs b) (k : ∀ x ∈ o.op.operands, ev T1 x = ev T0 x) : pureOp P T1 h o = pureOp P T0 h o := by
 have e : execOp (fun x => (evc T1 x).getD undef) o = execOp (fun x => (evc T0 x).getD undef) o := execOp_congr o hs fun x hx => by
  show (evc T1 x).getD undef = (evc T0 x).getD undef;unfold evc; rw [k x hx]
 unfold pureOp;rw [e, allConc_congr fun x hx => k x (by simpa using hx)]
theorem symV_congr {kn : Kn} {o : Oper} (k : ∀ x ∈ o.op.operands, ev T1 x = ev T0 x) : symV kn P T1 o = symV kn P T0 o := by
 unfold symV;cases hop : o.op <;> rw [hop] at k <;> simp only [Op.operands] at k <;> simp only []
 case binOp => rw [k _ (by simp), k _ (by simp)]
 case unOp => rw [k _ (by simp)]
 case convert => rw [k _ (by simp)]
 case call c =>
  obtain ⟨callee, args, ts⟩ := c
  have ka : ∀ x ∈ args.toList, ev T1 x = ev T0 x := fun x hx => k x (by
   have hx' : x ∈ args := by simpa using hx
   cases callee <;> simp [Call.operands, hx'])
  unfold symC;rw [evs_congr ka]
theorem orPure_congr {h : H} {o : Oper} {r : Option R} (hs : ∀ cs b, o.op ≠ .select cs b) (k : ∀ x ∈ o.op.operands, ev T1 x = ev T0 x) : orPure P T1 h o r = orPure P T0 h o r := by
 unfold orPure; rw [pureOp_congr hs k, symV_congr k]
theorem bound_congr {x : Option Operand} {a b : Nat} (k : ∀ y, x = some y → ev T1 y = ev T0 y) : bound T1 x a b = bound T0 x a b := by
 unfold bound
 cases x with
 | none => rfl
 | some y => first | (simp only; rw [k y rfl]) | (simp only [evInt]; rw [k y rfl])
theorem doSlice_congr {h : H} {t : TypeId} {lo hi mx : Option Operand} {x : Option V} (k1 : ∀ y, lo = some y → ev T1 y = ev T0 y) (k2 : ∀ y, hi = some y → ev T1 y = ev T0 y) (k3 : ∀ y, mx = some y → ev T1 y = ev T0 y) :
  doSlice P T1 h t lo hi mx x = doSlice P T0 h t lo hi mx x := by
 unfold doSlice;simp only [bound_congr k1, bound_congr k2, bound_congr k3]
theorem doTwo_congr {l : List Operand} {ts : List TypeId} {f : TypeId → TypeId → Option V → Option V → Option R} (k : ∀ x ∈ l, ev T1 x = ev T0 x) : doTwo P T1 l ts f = doTwo P T0 l ts f := by
 unfold doTwo;split
 ·rw [k _ (by simp), k _ (by simp)]
 ·rfl
theorem doOne_congr {l : List Operand} {ts : List TypeId} {f : TypeId → Option V → Option R} (k : ∀ x ∈ l, ev T1 x = ev T0 x) : doOne P T1 l ts f = doOne P T0 l ts f := by
 unfold doOne;split
 ·rw [k _ (by simp)]
 ·rfl
theorem doMakeFunc_congr {h : H} {fn : Fn} {first captured : Array Operand} (k : ∀ x ∈ captured.toList, ev T1 x = ev T0 x) : doMakeFunc T1 h fn first captured = doMakeFunc T0 h fn first captured := by
 cases fn <;> first | rfl | (unfold doMakeFunc; simp only [evs_congr k])
theorem execO_congr {h : H} {o : Oper} (k : ∀ x ∈ o.op.operands, ev T1 x = ev T0 x) : execO P T1 h o = execO P T0 h o := by
 have hs : (∀ cs b, o.op ≠ .select cs b) ∨ execO P T1 h o = execO P T0 h o := by
  cases hop : o.op with
  | select cs b => right; unfold execO; rw [hop]
  | _ => left; intro cs b e; cases e
 refine hs.elim (fun hs => ?_) id;have hP : ∀ r, orPure P T1 h o r = orPure P T0 h o r := fun r => orPure_congr hs k
 have hp := @pureOp_congr P T0 T1 h o hs k;unfold execO;cases hop : o.op <;> rw [hop] at k <;> simp only [Op.operands] at k <;> simp only []
 all_goals first
  | rfl
  | (rw [k _ (by simp)]; done)
  | (rw [k _ (by simp), k _ (by simp)]; done)
  | (rw [k _ (by simp), k _ (by simp), k _ (by simp)]; done)
  | skip
 case pick c a b =>
  rw [k c (by simp)];unfold doPick;split
  ·rename_i t _;cases t
   ·simp only [cond_false]; rw [k b (by simp)]
   ·simp only [cond_true]; rw [k a (by simp)]
  ·rfl
 case build t ps => unfold doBuild; rw [evParts_congr fun x hx => k x (by simpa using hx)]
 case buildSlice t n ps => unfold doBuildSlice; rw [evParts_congr fun x hx => k x (by simpa using hx)]
 case binOp => rw [hP, k _ (by simp), k _ (by simp)]
 case unOp => rw [hP, k _ (by simp)]
 case convert => rw [hP, k _ (by simp)]
 case slice t x lo hi mx =>
  rw [hP, k x (by simp), doSlice_congr (fun y hy => k y (by simp [hy])) (fun y hy => k y (by simp [hy])) (fun y hy => k y (by simp [hy]))]
 case makeFunc fn first captured => exact doMakeFunc_congr fun x hx => k x (by
  have hx' : x ∈ captured := by simpa using hx
  simp [hx'])
 case index => exact hp
 case call c =>
  obtain ⟨callee, args, ts⟩ := c
  have ka : ∀ x ∈ args.toList, ev T1 x = ev T0 x := fun x hx => k x (by
   have hx' : x ∈ args := by simpa using hx
   cases callee <;> simp [Call.operands, hx'])
  cases callee with
  | value f =>
   show doCall P T1 h f args = doCall P T0 h f args;unfold doCall;rw [evs_congr ka, k f (by simp [Call.operands])]
  | invoke r m => rfl
  | builtin b =>
   show doBuiltin P T1 h o args ts b = doBuiltin P T0 h o args ts b
   have hl : doLenOp P T1 h o args.toList ts.toList = doLenOp P T0 h o args.toList ts.toList := by
    unfold doLenOp;split
    ·rename_i x t e1 e2;rw [hP, ka x (by rw [e1]; simp)]
    ·rfl
   unfold doBuiltin;cases b <;> simp only [hl, hP, hp, evs_congr ka, doTwo_congr ka, doOne_congr ka]
end
def Inj.upto (ι : Inj) (n : Nat) : Inj := { ι with dom := fun b => ι.dom b ∧ b < n }
def S.below (n : Nat) : S → Prop
 | .p q _ => q < n
 | .sl q _ _ _ _ _ => q < n
 | .m q => q < n
 | .fn _ q => q < n
 | .slx q _ _ _ => q < n
 | .slw q _ _ _ => q < n
 | _ => True
def V.below (n : Nat) : V → Prop
 | .one x => x.below n
 | .agg xs => ∀ x ∈ xs, x.below n
 | .tup ps => ∀ p ∈ ps, ∀ x ∈ p.2, x.below n
def O.below (n : Nat) : O → Prop
 | .cells _ cs k => ∀ j, j < k → ∀ x, cs.get j = some x → x.below n
 | .ro cs k => ∀ j, j < k → ∀ x, cs.get j = some x → x.below n
 | .map es => ∀ kv ∈ es, kv.1.below n ∧ kv.2.below n
 | .ghost vs => ∀ v ∈ vs, v.below n
theorem S.below.mono {n m : Nat} (h : n ≤ m) {x : S} (k : x.below n) : x.below m := by
 cases x <;> first
  | exact trivial
  | exact Nat.lt_of_lt_of_le k h
theorem V.below.mono {n m : Nat} (h : n ≤ m) {x : V} (k : x.below n) : x.below m := by
 cases x with
 | one x => exact S.below.mono (x := x) h k
 | agg xs => exact fun x hx => S.below.mono h (k x hx)
 | tup ps => exact fun p hp x hx => S.below.mono h (k p hp x hx)
theorem O.below.mono {n m : Nat} (h : n ≤ m) {x : O} (k : x.below n) : x.below m := by
 cases x with
 | cells _ cs q => exact fun j hj x hx => S.below.mono h (k j hj x hx)
 | ro cs q => exact fun j hj x hx => S.below.mono h (k j hj x hx)
 | map es => exact fun kv hk => ⟨V.below.mono h (k kv hk).1, V.below.mono h (k kv hk).2⟩
 | ghost vs => exact fun v hv => V.below.mono h (k v hv)
section
variable {ι : Inj} {n : Nat}
theorem SR.below (hd : ∀ b, ι.dom b → b < n) {x : S} {v : Value} (k : SR ι x v) : x.below n := by
 cases x <;> first
  | exact trivial
  | exact hd _ k.1
theorem SR.upto {x : S} {v : Value} (k : SR ι x v) (hb : x.below n) : SR (ι.upto n) x v := by
 cases x <;> first
  | exact k
  | exact ⟨⟨k.1, hb⟩, k.2⟩
theorem All2.bel {xs : List S} {vs : List Value} (hd : ∀ b, ι.dom b → b < n) (k : All2 (SR ι) xs vs) : ∀ x ∈ xs, x.below n := by
 induction k with
 | nil => intro x hx; cases hx
 | cons h _ ih => intro x hx; cases hx with
  | head => exact h.below hd
  | tail _ hx => exact ih x hx
theorem All2.upt {xs : List S} {vs : List Value} (k : All2 (SR ι) xs vs) (hb : ∀ x ∈ xs, x.below n) : All2 (SR (ι.upto n)) xs vs := by
 induction k with
 | nil => exact .nil
 | cons h _ ih => exact .cons (h.upto (hb _ (by simp))) (ih fun x hx => hb x (by simp [hx]))
theorem PR.below (hd : ∀ b, ι.dom b → b < n) {p : Bool × List S} {v : Value} (k : PR ι p v) : ∀ x ∈ p.2, x.below n := by
 obtain ⟨t, xs⟩ := p
 cases t with
 | true => obtain ⟨cs, _, k⟩ := k; exact All2.bel hd k
 | false => obtain ⟨x, rfl, k⟩ := k; intro y hy; simp at hy; subst hy; exact k.below hd
theorem PR.upto {p : Bool × List S} {v : Value} (k : PR ι p v) (hb : ∀ x ∈ p.2, x.below n) : PR (ι.upto n) p v := by
 obtain ⟨t, xs⟩ := p
 cases t with
 | true => obtain ⟨cs, e, k⟩ := k; exact ⟨cs, e, All2.upt k hb⟩
 | false => obtain ⟨x, rfl, k⟩ := k; exact ⟨x, rfl, k.upto (hb x (by simp))⟩
theorem VR.below (hd : ∀ b, ι.dom b → b < n) {x : V} {v : Value} (k : VR ι x v) : x.below n := by
 cases x with
 | one x => exact SR.below hd k
 | agg xs => obtain ⟨cs, _, k⟩ := k; exact All2.bel hd k
 | tup ps =>
  obtain ⟨vs, _, k⟩ := k;intro p hp;generalize hl : vs.toList = l at k;clear hl
  induction k with
  | nil => cases hp
  | cons h _ ih => cases hp with
   | head => exact h.below hd
   | tail _ hp => exact ih hp
theorem VR.upto {x : V} {v : Value} (k : VR ι x v) (hb' : x.below n) : VR (ι.upto n) x v := by
 cases x with
 | one x => exact SR.upto k hb'
 | agg xs => obtain ⟨cs, e, k⟩ := k; exact ⟨cs, e, All2.upt k hb'⟩
 | tup ps =>
  obtain ⟨vs, e, k⟩ := k;refine ⟨vs, e, ?_⟩;have hb : ∀ p ∈ ps, ∀ x ∈ p.2, x.below n := hb';clear hb';clear e
  revert hb
  generalize vs.toList = l at k;intro hb
  induction k with
  | nil => exact .nil
  | cons h _ ih => exact .cons (h.upto (hb _ (by simp))) (ih fun p hp => hb p (by simp [hp]))
theorem All2.vbel {xs : List V} {vs : List Value} (hd : ∀ b, ι.dom b → b < n) (k : All2 (VR ι) xs vs) : ∀ x ∈ xs, x.below n := by
 induction k with
 | nil => intro x hx; cases hx
 | cons h _ ih => intro x hx; cases hx with
  | head => exact VR.below hd h
  | tail _ hx => exact ih x hx
theorem All2.vupt {xs : List V} {vs : List Value} (k : All2 (VR ι) xs vs) (hb : ∀ x ∈ xs, x.below n) : All2 (VR (ι.upto n)) xs vs := by
 induction k with
 | nil => exact .nil
 | cons h _ ih => exact .cons (VR.upto h (hb _ (by simp))) (ih fun x hx => hb x (by simp [hx]))
theorem ORel.below {P : Program} {b : Nat} {w : World} (hd : ∀ b, ι.dom b → b < n) {o : O} (k : ORel P ι b w o) : o.below n := by
 cases o with
 | cells t cs q =>
  obtain ⟨c, _, _, _, h, _⟩ := k;intro j hj x hx;obtain ⟨y, v, e, _, r⟩ := h j hj;rw [hx] at e; cases e;exact r.below hd
 | ro cs q =>
  intro j hj x hx;obtain ⟨y, v, e, _, r⟩ := k.1 j hj;rw [hx] at e; cases e;exact r.below hd
 | map es =>
  obtain ⟨en, _, _, h⟩ := k;intro kv hk;generalize en.toList = l at h
  induction h with
  | nil => cases hk
  | cons h _ ih => cases hk with
   | head => exact ⟨VR.below hd h.1, VR.below hd h.2⟩
   | tail _ hk => exact ih hk
 | ghost vs => exact All2.vbel hd k
theorem ORel.upto {P : Program} {b : Nat} {w : World} {o : O} (k : ORel P ι b w o) (hb' : o.below n) : ORel P (ι.upto n) b w o := by
 cases o with
 | cells t cs q =>
  obtain ⟨c, h1, h2, h3, h, h6⟩ := k;refine ⟨c, h1, h2, h3, fun j hj => ?_, h6⟩;obtain ⟨y, v, e, e2, r⟩ := h j hj;exact ⟨y, v, e, e2, r.upto (hb' j hj y e)⟩
 | ro cs q =>
  refine ⟨fun j hj => ?_, fun c s hc => k.2 c s hc⟩;obtain ⟨y, v, e, e2, r⟩ := k.1 j hj;exact ⟨y, v, e, e2, r.upto (hb' j hj y e)⟩
 | map es =>
  obtain ⟨en, cl, e, h⟩ := k;refine ⟨en, cl, e, ?_⟩;have hb : ∀ kv ∈ es, kv.1.below n ∧ kv.2.below n := hb';clear hb';generalize en.toList = l at h
  induction h with
  | nil => exact .nil
  | cons h _ ih => exact .cons ⟨VR.upto h.1 (hb _ (by simp)).1, VR.upto h.2 (hb _ (by simp)).2⟩ (ih fun p hp => hb p (by simp [hp]))
 | ghost vs => exact All2.vupt k hb'
end
def Closed (ops : Array Oper) (A : Nat → Prop) : Prop := ∀ j o, ops[j]? = some o → A j → ∀ e ∈ o.after, Region.binds .any e = true → A e.on
structure Laid (ops : Array Oper) (L : List (It × Bool)) : Prop where
 op : ∀ {p : Nat} {x : It × Bool}, L[p]? = some x → ops[x.1.i]? = some x.1.o
 edge : ∀ {p : Nat} {x : It × Bool}, L[p]? = some x → ∀ e ∈ x.1.o.after, Region.binds .any e = true → Nat.testBit x.1.m e.on = true
 up : ∀ {p : Nat} {x : It × Bool}, L[p]? = some x → ∀ A : Nat → Prop, Closed ops A → (∀ e ∈ x.1.o.after, Region.binds .any e = true → A e.on) → ∀ k, Nat.testBit x.1.m k = true → A k
 pair : ∀ {p q : Nat} {x y : It × Bool}, p < q → L[p]? = some x → L[q]? = some y → pairB ops x.1 y.1 = true
 cover : ∀ {k : Nat}, k < ops.size → ∃ (p : Nat) (x : It × Bool), L[p]? = some x ∧ x.1.i = k
 seen : ∀ {q : Nat} {y : It × Bool} {k : Nat}, L[q]? = some y → Nat.testBit y.1.m k = true → ∃ (p : Nat) (x : It × Bool), p < q ∧ L[p]? = some x ∧ x.1.i = k
 bar : ∀ {p : Nat} {x : It × Bool}, L[p]? = some x → x.2 = true → x.1.c.isLoud = true
 barAfter : ∀ {p q : Nat} {x y : It × Bool}, p < q → L[p]? = some x → L[q]? = some y → x.2 = true → (y.1.c.isLoud || y.1.c.isLoad) = true → Nat.testBit y.1.m x.1.i = true
 barBefore : ∀ {p q : Nat} {x y : It × Bool}, p < q → L[p]? = some x → L[q]? = some y → y.2 = true → x.1.c.isLoud = true → Nat.testBit y.1.m x.1.i = true
theorem maskOf_bit (acc : List Nat) (b : Nat) : ∀ es : List Edge, Nat.testBit (maskOf acc es) b = true ↔ ∃ e ∈ es, Region.binds .any e = true ∧ (e.on = b ∨ Nat.testBit (acc.getD e.on 0) b = true)
 | [] => by simp [maskOf]
 | e :: es => by
  have ih := maskOf_bit acc b es;unfold maskOf
  cases hb : Region.binds .any e with
  | false => simp only [cond_false, ih]; simp [hb]
  | true =>
   simp only [cond_true, Nat.testBit_or, Bool.or_eq_true, ih, Nat.testBit_two_pow, decide_eq_true_eq];simp only [List.mem_cons, exists_eq_or_imp, hb, true_and]
def AccOk (ops : Array Oper) (acc : List Nat) : Prop := ∀ j b, Nat.testBit (acc.getD j 0) b = true → ∀ A : Nat → Prop, Closed ops A → A j → A b
theorem items_spec {ops : Array Oper} : ∀ (os : List Oper) (k : Nat) (acc : List Nat), AccOk ops acc → acc.length = k → (∀ j, os[j]? = ops[k + j]?) →
  ∀ x ∈ items k acc os, ∃ acc', AccOk ops acc' ∧ x.m = maskOf acc' x.o.after.toList ∧ ops[x.i]? = some x.o
 | [], _, _, _, _, _, x, hx => by simp [items] at hx
 | o :: os, k, acc, ha, hk, ho, x, hx => by
  have h0 : ops[k]? = some o := by simpa using (ho 0).symm
  simp only [items, List.mem_cons] at hx;rcases hx with rfl | hx
  ·exact ⟨acc, ha, rfl, h0⟩
  ·refine items_spec os (k + 1) _ ?_ (by simp [hk]) (fun j => by have := ho (j + 1); simpa [Nat.add_assoc, Nat.add_comm 1 j] using this) x hx;intro j b hb A hc hA;rcases Nat.lt_trichotomy j k with h | h | h
   ·refine ha j b ?_ A hc hA;simpa [List.getD_eq_getElem?_getD, List.getElem?_append_left (show j < acc.length by omega)] using hb
   ·subst h
    have e : (acc ++ [maskOf acc o.after.toList]).getD j 0 = maskOf acc o.after.toList := by
     rw [List.getD_eq_getElem?_getD, List.getElem?_append_right (by omega), hk]; simp
    rw [e, maskOf_bit] at hb;obtain ⟨e, he, hbi, hb⟩ := hb;have hon := hc j o h0 hA e (by simpa using he) hbi;rcases hb with rfl | hb
    ·exact hon
    ·exact ha _ _ hb A hc hon
   ·have : (acc ++ [maskOf acc o.after.toList]).getD j 0 = 0 := by
     rw [List.getD_eq_getElem?_getD, List.getElem?_eq_none (by simp; omega)]; rfl
    rw [this] at hb; simp at hb
theorem takeFirst_mem {p : It → Bool} : ∀ {l : List It} {x : It} {r : List It}, takeFirst p l = some (x, r) → x ∈ l ∧ ∀ y ∈ r, y ∈ l
 | [], x, r, h => by simp [takeFirst] at h
 | y :: l, x, r, h => by
  unfold takeFirst at h
  cases hp : p y with
  | true => rw [hp] at h; simp at h; obtain ⟨rfl, rfl⟩ := h; exact ⟨by simp, fun z hz => by simp [hz]⟩
  | false =>
   rw [hp] at h;simp only [cond_false] at h;split at h
   ·rename_i z s he;simp at h; obtain ⟨rfl, rfl⟩ := h;obtain ⟨h1, h2⟩ := takeFirst_mem he
    exact ⟨by simp [h1], fun u hu => by
     simp at hu ⊢;rcases hu with rfl | hu
     ·exact .inl rfl
     ·exact .inr (h2 u hu)⟩
   ·simp at h
theorem order_mem : ∀ (n d : Nat) (l : List It), ∀ x ∈ order n d l, x ∈ l
 | 0, _, _, x, h => by simp [order] at h
 | n + 1, d, l, x, h => by
  unfold order at h;split at h
  ·rename_i y r he;obtain ⟨h1, h2⟩ := takeFirst_mem he;simp at h;rcases h with rfl | h
   ·exact h1
   ·exact h2 x (order_mem n _ r x h)
  ·split at h
   ·rename_i y r he;obtain ⟨h1, h2⟩ := takeFirst_mem he;simp at h;rcases h with rfl | h
    ·exact h1
    ·exact h2 x (order_mem n _ r x h)
   ·simp at h
theorem pairsB_spec {ops : Array Oper} : ∀ {l : List It}, pairsB ops l = true → ∀ {p q : Nat} {x y : It}, p < q → l[p]? = some x → l[q]? = some y → pairB ops x y = true
 | [], _, p, q, x, y, _, h, _ => by simp at h
 | z :: l, h, p, q, x, y, hpq, hx, hy => by
  simp only [pairsB, Bool.and_eq_true, List.all_eq_true] at h
  cases q with
  | zero => omega
  | succ q =>
   simp at hy
   cases p with
   | zero => simp at hx; subst hx; exact h.1 y (List.mem_of_getElem? hy)
   | succ p => simp at hx; exact pairsB_spec h.2 (by omega) hx hy
theorem land_bit {m d k : Nat} (h : Nat.beq (Nat.land m d) m = true) (hb : Nat.testBit m k = true) : Nat.testBit d k = true := by
 have e := Nat.eq_of_beq_eq_true h;have e : m &&& d = m := e;rw [← e, Nat.testBit_and] at hb;simp at hb; exact hb.2
theorem seenB_spec : ∀ {l : List It} {d : Nat}, seenB d l = true → ∀ {q : Nat} {y : It} {k : Nat}, l[q]? = some y → Nat.testBit y.m k = true → Nat.testBit d k = true ∨ ∃ p x, p < q ∧ l[p]? = some x ∧ x.i = k
 | [], _, _, q, y, k, h, _ => by simp at h
 | z :: l, d, h, q, y, k, hy, hb => by
  simp only [seenB, Bool.and_eq_true] at h
  cases q with
  | zero => simp at hy; subst hy; exact .inl (land_bit h.1 hb)
  | succ q =>
   simp at hy;rcases seenB_spec h.2 hy hb with h1 | ⟨p, x, h1, h2, h3⟩
   ·rw [Nat.testBit_or, Nat.testBit_two_pow] at h1;simp at h1;rcases h1 with h1 | h1
    ·exact .inl h1
    ·exact .inr ⟨0, z, by omega, rfl, h1⟩
   ·exact .inr ⟨p + 1, x, by omega, by simpa using h2, h3⟩
theorem bars_spec : ∀ {l pre : List It} {p : Nat} {x : It × Bool}, (bars pre l)[p]? = some x → l[p]? = some x.1 ∧ x.2 = barB (pre ++ l.take p) x.1 (l.drop (p + 1))
 | [], pre, p, x, h => by simp [bars] at h
 | z :: l, pre, p, x, h => by
  unfold bars at h
  cases p with
  | zero => simp at h; subst h; simp
  | succ p =>
   simp at h;obtain ⟨h1, h2⟩ := bars_spec h;exact ⟨by simpa using h1, by rw [h2]; simp⟩
theorem bars_get : ∀ {l pre : List It} {p : Nat} {x : It}, l[p]? = some x → ∃ b, (bars pre l)[p]? = some (x, b)
 | [], pre, p, x, h => by simp at h
 | z :: l, pre, p, x, h => by
  unfold bars
  cases p with
  | zero => simp at h; subst h; exact ⟨_, rfl⟩
  | succ p => simp at h; simpa using bars_get h
theorem told_laid {ops : Array Oper} {L : List (It × Bool)} (h : told ops = some L) : Laid ops L := by
 unfold told at h;simp only [Bool.cond_eq_ite] at h;split at h
 ·rename_i hc;simp only [Bool.and_eq_true] at hc;obtain ⟨⟨⟨hp, hc⟩, hs⟩, _⟩ := hc;simp only [Option.some.injEq] at h;generalize hl : order ops.size 0 (items 0 [] ops.toList) = l at *;subst h
  have mem : ∀ {p : Nat} {x : It}, l[p]? = some x → ∃ acc', AccOk ops acc' ∧ x.m = maskOf acc' x.o.after.toList ∧ ops[x.i]? = some x.o := fun {p x} hx =>
   items_spec ops.toList 0 [] (fun j b hb => by simp at hb) rfl (by simp) x (order_mem _ _ _ x (by rw [hl]; exact List.mem_of_getElem? hx))
  refine ⟨fun {p x} hx => ?_, fun {p x} hx e he hb => ?_, fun {p x} hx A hA he k hk => ?_, fun {p q x y} hpq hx hy => ?_, fun {k} hk => ?_, fun {q y k} hy hb => ?_, fun {p x} hx hb => ?_, fun {p q x y} hpq hx hy hb hl => ?_, fun {p q x y} hpq hx hy hb hl => ?_⟩
  ·obtain ⟨_, _, _, h⟩ := mem (bars_spec hx).1; exact h
  ·obtain ⟨acc, _, hm, _⟩ := mem (bars_spec hx).1;rw [hm, maskOf_bit]; exact ⟨e, by simpa using he, hb, .inl rfl⟩
  ·obtain ⟨acc, ha, hm, _⟩ := mem (bars_spec hx).1;rw [hm, maskOf_bit] at hk;obtain ⟨e, he', hb, hk⟩ := hk;have := he e (by simpa using he') hb;rcases hk with rfl | hk
   ·exact this
   ·exact ha _ _ hk A hA this
  ·exact pairsB_spec hp hpq (bars_spec hx).1 (bars_spec hy).1
  ·simp only [coversB, List.all_eq_true, List.mem_range, List.any_eq_true] at hc;obtain ⟨x, hx, he⟩ := hc k hk;obtain ⟨p, hp⟩ := List.mem_iff_getElem?.1 hx;obtain ⟨b, hb⟩ := bars_get (pre := []) hp;exact ⟨p, _, hb, Nat.eq_of_beq_eq_true he⟩
  ·rcases seenB_spec hs (bars_spec hy).1 hb with h | ⟨p, x, h1, h2, h3⟩
   ·simp at h
   ·obtain ⟨b, hb⟩ := bars_get (pre := []) h2;exact ⟨p, _, h1, hb, h3⟩
  ·obtain ⟨_, h2⟩ := bars_spec hx;rw [hb] at h2;have h2 := h2.symm;simp only [barB, Bool.and_eq_true] at h2;exact h2.1.1
  ·obtain ⟨_, h2⟩ := bars_spec hx;rw [hb] at h2;have h2 := h2.symm;simp only [barB, Bool.and_eq_true, List.all_eq_true] at h2;have := h2.2 y.1 (List.mem_iff_getElem?.2 ⟨q - (p + 1), by rw [List.getElem?_drop, show p + 1 + (q - (p + 1)) = q by omega]; exact (bars_spec hy).1⟩);rw [hl] at this; simpa using this
  ·obtain ⟨_, h2⟩ := bars_spec hy;rw [hb] at h2;have h2 := h2.symm;simp only [barB, Bool.and_eq_true, List.all_eq_true] at h2;have := h2.1.2 x.1 (List.mem_iff_getElem?.2 ⟨p, by rw [List.nil_append, List.getElem?_take]; rw [if_pos hpq]; exact (bars_spec hx).1⟩);rw [hl] at this; simpa using this
 ·simp at h
end Go.Ai
