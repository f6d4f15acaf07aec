/-
LayoutWraps, part 16 of 48: AiGen.
-/
import Derived.Test.YthacbaagffpkoaaLw15
set_option linter.unusedVariables false
set_option linter.unusedSimpArgs false
namespace Go.Ai
open Go.RowKit
noncomputable def orCall (r : Option (V × H)) : Option (V × H) → Option (V × H)
 | some x => some x
 | none => r
noncomputable def runG (P : Program) (spec : CallF) (n : Nat) : CallF :=
 Nat.rec (fun _ _ _ => none) (fun n ih f args h => orCall (funB P ih n args h P.funcs[f]?) (spec f args h)) n
theorem runG_succ (P : Program) (spec : CallF) (n : Nat) (f : FuncId) (args : List V) (h : H) : runG P spec (n + 1) f args h = orCall (funB P (runG P spec n) n args h P.funcs[f]?) (spec f args h) := rfl
structure SpecOk (P : Program) (spec : CallF) : Prop where
 ok : CallOk P spec
 low : CallLow spec
theorem funB_some {P : Program} {call : CallF} {n : Nat} {f : FuncId} {args : List V} {h : H} {v : V} {h' : H} (hx : funB P call n args h P.funcs[f]? = some (v, h')) :
  ∃ fn c e T1, P.funcs[f]? = some fn ∧ fn.body = some c ∧ args.length ≤ fn.ntmps ∧ fn.ntmps ≤ 1024 ∧ execC P call fn.ntmps n c none (Sl.new.setMany 0 args) h = some (e, T1, h') ∧ (e = .normal ∨ e = .ret) ∧ resultB P T1 h' fn.results.toList = some v := by
 unfold funB at hx;split at hx
 ·rename_i fn hf;unfold bodyB at hx;split at hx
  ·rename_i c hb
   cases hg : (Nat.ble args.length fn.ntmps && Nat.ble fn.ntmps 1024) with
   | false => rw [hg] at hx; simp at hx
   | true =>
    rw [hg] at hx;simp only [cond_true, Sl.setManyK_eq] at hx;simp only [Bool.and_eq_true] at hg
    have hend : ∀ T1 h1, endB P fn.results.toList T1 h1 = some (v, h') → h1 = h' ∧ resultB P T1 h1 fn.results.toList = some v := by
     intro T1 h1 he;unfold endB at he;split at he
     ·rename_i v' hv; cases he; exact ⟨rfl, hv⟩
     ·simp at he
    unfold exitB at hx;split at hx
    ·rename_i T1 h1 he;obtain ⟨rfl, hr⟩ := hend _ _ hx;exact ⟨fn, c, _, T1, hf, hb, Nat.le_of_ble_eq_true hg.1, Nat.le_of_ble_eq_true hg.2, he, .inl rfl, hr⟩
    ·rename_i T1 h1 he;obtain ⟨rfl, hr⟩ := hend _ _ hx;exact ⟨fn, c, _, T1, hf, hb, Nat.le_of_ble_eq_true hg.1, Nat.le_of_ble_eq_true hg.2, he, .inr rfl, hr⟩
    ·simp at hx
  ·simp at hx
 ·simp at hx
theorem runG_some {P : Program} {spec : CallF} {n : Nat} {f : FuncId} {args : List V} {h : H} {v : V} {h' : H} (hx : runG P spec (n + 1) f args h = some (v, h')) : spec f args h = some (v, h') ∨ funB P (runG P spec n) n args h P.funcs[f]? = some (v, h') := by
 rw [runG_succ] at hx;unfold orCall at hx;split at hx
 ·rename_i x hs; cases hx; exact .inl hs
 ·exact .inr hx
theorem runG_low {P : Program} {spec : CallF} (hs : CallLow spec) (n : Nat) : CallLow (runG P spec n) := by
 induction n with
 | zero => intro f args h v h' hx; cases hx
 | succ n ih =>
  intro f args h v h' hx;rcases runG_some hx with hx | hx
  ·exact hs _ _ _ _ _ hx
  ·obtain ⟨fn, c, e, T1, _, _, _, _, he, _⟩ := funB_some hx;exact execC_low ih n _ _ _ _ _ _ _ he
theorem runG_ok {P : Program} {spec : CallF} (hm : P.follows .mixedOrders = true) (hN : namesB P = true) (hs : SpecOk P spec) (n : Nat) : CallOk P (runG P spec n) := by
 induction n with
 | zero =>
  constructor
  ·intro f args h v h' hx; cases hx
  ·intro f args h v h' hx; cases hx
 | succ n ih =>
  refine ⟨fun f args h v h' hx ι w k => ?_, fun f args h v h' hx ι w cargs k hall => ?_⟩
  ·rcases runG_some hx with hx | hx
   ·exact hs.ok.body _ _ _ _ _ hx ι w k
   ·obtain ⟨fn, c, e, T1, hf, hb, _⟩ := funB_some hx;exact ⟨fn, hf, by rw [hb]; rfl, namesB_spec hN f fn hf (by rw [hb]; rfl)⟩
  ·rcases runG_some hx with hx | hx
   ·exact hs.ok.sim _ _ _ _ _ hx ι w cargs k hall
   obtain ⟨fn, c, e, T1, hf, hb, hlen, hnt, he, hne, hr⟩ := funB_some hx;have hl := hall.length;refine calls_of_wp hf hb ?_;have hsize : (cargs.toArray ++ Array.replicate (fn.ntmps - cargs.toArray.size) undef).size = fn.ntmps := by simp; omega
   have R : Rel P ι (Sl.new.setMany 0 args) h fn.ntmps { tmps := cargs.toArray ++ Array.replicate (fn.ntmps - cargs.toArray.size) undef, defers := [] } w := by
    refine ⟨k, ?_, rfl, hsize⟩;intro t x hx;rw [Sl.get_setMany _ _ _ _ (by omega)] at hx
    by_cases hin : 0 ≤ t ∧ t < 0 + args.length
    ·rw [if_pos hin] at hx;obtain ⟨u, hu, hv⟩ := hall.get t x (by simpa using hx);have hlt : t < cargs.length := (gEi.1 hu).1;rw [Array.getD_eq_getD_getElem?, Array.getElem?_append_left (by simpa using hlt)];simp [hu];exact hv
    ·rw [if_neg hin, Sl.get_new] at hx; cases hx
   refine (execC_ok hnt ih (draw_ok hm ih (runG_low hs.low n) hnt) n).1 c _ h e T1 h' he ι _ w _ R fun ι' a' w' R' hs => ?_;obtain ⟨u, hu, hv⟩ := resultB_rel (fn := fn) R'.hr R'.tr hr;rcases hne with rfl | rfl
   ·exact ⟨R'.defers, u, hu, ι', u, rfl, hv, hs⟩
   ·exact ⟨R'.defers, u, hu, ι', u, rfl, hv, hs⟩
section
variable (P : Program) (spec : CallF) (nt : Nat)
def W (c : Code) (T : Sl) (h : H) (Q : Ex → Sl → H → Prop) : Prop := ∃ n0 e T1 h1, (∀ m n, n0 ≤ m → n0 ≤ n → execC P (runG P spec m) nt n c none T h = some (e, T1, h1)) ∧ Q e T1 h1
def WS (body c : Code) (T : Sl) (h : H) (Q : Ex → Sl → H → Prop) : Prop := ∃ n0 e T1 h1, (∀ m n, n0 ≤ m → n0 ≤ n → execC P (runG P spec m) nt n c (some body) T h = some (e, T1, h1)) ∧ Q e T1 h1
def WF (f : FuncId) (args : List V) (h : H) (K : V → H → Prop) : Prop := ∃ n0 v h1, (∀ m, n0 ≤ m → runG P spec m f args h = some (v, h1)) ∧ K v h1
def WX (T : Sl) (h : H) (o : Oper) (K : V → H → Prop) : Prop := ∃ n0 v h1, (∀ m, n0 ≤ m → execW P (runG P spec m) T h o = some (v, h1)) ∧ K v h1
def WO (all l : List Oper) (T : Sl) (h : H) (K : Sl → H → Prop) : Prop := ∃ n0 T1 h1, (∀ m, n0 ≤ m → runOps P (runG P spec m) nt all l T h = some (T1, h1)) ∧ K T1 h1
def WD (all : List Oper) (l : List (It × Bool)) (s : St) (K : Sl → H → Prop) : Prop := ∃ n0 s1, (∀ m, n0 ≤ m → drawAll P (runG P spec m) nt all l s = some s1) ∧ K s1.t s1.h
end
section
variable {P : Program} {spec : CallF} {nt : Nat} {T : Sl} {h : H} {Q : Ex → Sl → H → Prop}
theorem W.mono {c : Code} {Q' : Ex → Sl → H → Prop} (hw : W P spec nt c T h Q) (k : ∀ e T1 h1, Q e T1 h1 → Q' e T1 h1) : W P spec nt c T h Q' := by
 obtain ⟨n0, e, T1, h1, h2, h3⟩ := hw;exact ⟨n0, e, T1, h1, h2, k _ _ _ h3⟩
theorem WF.mono {f : FuncId} {args : List V} {K K' : V → H → Prop} (hw : WF P spec f args h K) (k : ∀ v h1, K v h1 → K' v h1) : WF P spec f args h K' := by
 obtain ⟨n0, v, h1, h2, h3⟩ := hw;exact ⟨n0, v, h1, h2, k _ _ h3⟩
def thenQ (P : Program) (spec : CallF) (nt : Nat) (b : Code) (Q : Ex → Sl → H → Prop) : Ex → Sl → H → Prop
 | .normal, T, h => W P spec nt b T h Q
 | e, T, h => Q e T h
theorem thenC_ne {f : Sl → H → Option (Ex × Sl × H)} {e : Ex} {T1 : Sl} {h1 : H} (hne : e ≠ .normal) : thenC f (some (e, T1, h1)) = some (e, T1, h1) := by
 cases e <;> first | exact absurd rfl hne | rfl
theorem thenQ_ne {b : Code} {e : Ex} {T1 : Sl} {h1 : H} (hne : e ≠ .normal) (hq : thenQ P spec nt b Q e T1 h1) : Q e T1 h1 := by
 cases e <;> first | exact absurd rfl hne | exact hq
theorem zS {a b : Code} (hw : W P spec nt a T h (thenQ P spec nt b Q)) : W P spec nt (.seq a b) T h Q := by
 obtain ⟨n0, e, T1, h1, h2, h3⟩ := hw
 by_cases hne : e = .normal
 ·subst hne;obtain ⟨n1, e', T2, h4, h5, h6⟩ := h3;refine ⟨max n0 n1 + 1, e', T2, h4, fun m n hm hn => ?_, h6⟩;obtain ⟨n, rfl⟩ : ∃ k, n = k + 1 := ⟨n - 1, by omega⟩;show thenC (execC P _ nt n b none) (execC P _ nt n a none T h) = _;rw [h2 m n (by omega) (by omega)];exact h5 m n (by omega) (by omega)
 ·refine ⟨n0 + 1, e, T1, h1, fun m n hm hn => ?_, thenQ_ne hne h3⟩;obtain ⟨n, rfl⟩ : ∃ k, n = k + 1 := ⟨n - 1, by omega⟩;show thenC (execC P _ nt n b none) (execC P _ nt n a none T h) = _;rw [h2 m n (by omega) (by omega), thenC_ne hne]
theorem W_loop {body : Code} (hw : W P spec nt body T h (thenQ P spec nt (.loop body) Q)) : W P spec nt (.loop body) T h Q := by
 obtain ⟨n0, e, T1, h1, h2, h3⟩ := hw
 by_cases hne : e = .normal
 ·subst hne;obtain ⟨n1, e', T2, h4, h5, h6⟩ := h3;refine ⟨max n0 n1 + 1, e', T2, h4, fun m n hm hn => ?_, h6⟩;obtain ⟨n, rfl⟩ : ∃ k, n = k + 1 := ⟨n - 1, by omega⟩;show thenC (execC P _ nt n (.loop body) none) (execC P _ nt n body none T h) = _;rw [h2 m n (by omega) (by omega)];exact h5 m n (by omega) (by omega)
 ·refine ⟨n0 + 1, e, T1, h1, fun m n hm hn => ?_, thenQ_ne hne h3⟩;obtain ⟨n, rfl⟩ : ∃ k, n = k + 1 := ⟨n - 1, by omega⟩;show thenC (execC P _ nt n (.loop body) none) (execC P _ nt n body none T h) = _;rw [h2 m n (by omega) (by omega), thenC_ne hne]
theorem W_rounds {body : Code} (I : Nat → Sl → H → Prop) (hr : ∀ k T h, I k T h → W P spec nt body T h fun e T1 h1 => match e with
  | .normal => ∃ j, j < k ∧ I j T1 h1
  | e => Q e T1 h1) : ∀ k T h, I k T h → W P spec nt (.loop body) T h Q := by
 intro k
 induction k using Nat.strongRecOn with
 | _ k ih =>
  intro T h hi;refine W_loop ((hr k T h hi).mono fun e T1 h1 hq => ?_)
  cases e with
  | normal => obtain ⟨j, hj, hq⟩ := hq; exact ih j hj T1 h1 hq
  | _ => exact hq
theorem W_skip (hq : Q .normal T h) : W P spec nt .skip T h Q := ⟨1, _, _, _, fun m n _ hn => by
 obtain ⟨n, rfl⟩ : ∃ k, n = k + 1 := ⟨n - 1, by omega⟩; rfl, hq⟩
theorem W_label {l : Nat} (hq : Q .normal T h) : W P spec nt (.label l) T h Q := ⟨1, _, _, _, fun m n _ hn => by
 obtain ⟨n, rfl⟩ : ∃ k, n = k + 1 := ⟨n - 1, by omega⟩; rfl, hq⟩
theorem W_exit {l : Nat} (hq : Q (.exit l) T h) : W P spec nt (.exit l) T h Q := ⟨1, _, _, _, fun m n _ hn => by
 obtain ⟨n, rfl⟩ : ∃ k, n = k + 1 := ⟨n - 1, by omega⟩; rfl, hq⟩
theorem W_goto {l : Nat} (hq : Q (.goto l) T h) : W P spec nt (.goto l) T h Q := ⟨1, _, _, _, fun m n _ hn => by
 obtain ⟨n, rfl⟩ : ∃ k, n = k + 1 := ⟨n - 1, by omega⟩; rfl, hq⟩
theorem W_ret (hq : Q .ret T h) : W P spec nt .ret T h Q := ⟨1, _, _, _, fun m n _ hn => by
 obtain ⟨n, rfl⟩ : ∃ k, n = k + 1 := ⟨n - 1, by omega⟩; rfl, hq⟩
theorem zC {x : Operand} {a b : Code} {t : Bool} (hx : ev T x = some (.one (.b t))) (ha : t = true → W P spec nt a T h Q) (hb : t = false → W P spec nt b T h Q) : W P spec nt (.cond x a b) T h Q := by
 have hw : W P spec nt (cond t a b) T h Q := by cases t <;> first | exact ha rfl | exact hb rfl
 obtain ⟨n0, e, T1, h1, h2, h3⟩ := hw;refine ⟨n0 + 1, e, T1, h1, fun m n hm hn => ?_, h3⟩;obtain ⟨n, rfl⟩ : ∃ k, n = k + 1 := ⟨n - 1, by omega⟩;show condC (execC P _ nt n) a b T h (ev T x) = _;rw [hx];exact h2 m n (by omega) (by omega)
def blockQ (id : Nat) (Q : Ex → Sl → H → Prop) : Ex → Sl → H → Prop
 | .exit id', T, h => (id' = id → Q .normal T h) ∧ (id' ≠ id → Q (.exit id') T h)
 | e, T, h => Q e T h
theorem zK {id : Nat} {body : Code} (hw : W P spec nt body T h (blockQ id Q)) : W P spec nt (.block id body) T h Q := by
 obtain ⟨n0, e, T1, h1, h2, h3⟩ := hw
 cases e with
 | exit id' =>
  by_cases he : id' = id
  ·refine ⟨n0 + 1, .normal, T1, h1, fun m n hm hn => ?_, h3.1 he⟩;obtain ⟨n, rfl⟩ : ∃ k, n = k + 1 := ⟨n - 1, by omega⟩;show inBlockC id (execC P _ nt n body none T h) = _;rw [h2 m n (by omega) (by omega)];subst he;show cond (Nat.beq id' id') _ _ = _;rw [beq_self]; rfl
  ·refine ⟨n0 + 1, .exit id', T1, h1, fun m n hm hn => ?_, h3.2 he⟩;obtain ⟨n, rfl⟩ : ∃ k, n = k + 1 := ⟨n - 1, by omega⟩;show inBlockC id (execC P _ nt n body none T h) = _;rw [h2 m n (by omega) (by omega)];show cond (Nat.beq id' id) _ _ = _;rw [beq_false he]; rfl
 | _ =>
  refine ⟨n0 + 1, _, T1, h1, fun m n hm hn => ?_, h3⟩;obtain ⟨n, rfl⟩ : ∃ k, n = k + 1 := ⟨n - 1, by omega⟩;show inBlockC id (execC P _ nt n body none T h) = _;rw [h2 m n (by omega) (by omega)]; rfl
def scopeQ (P : Program) (spec : CallF) (nt : Nat) (body : Code) (Q : Ex → Sl → H → Prop) : Ex → Sl → H → Prop
 | .goto l, T, h => match findLabel body l with
  | some rest => WS P spec nt body rest T h Q
  | none => Q (.goto l) T h
 | e, T, h => Q e T h
theorem WS_of {body c : Code} (hw : W P spec nt c T h (scopeQ P spec nt body Q)) : WS P spec nt body c T h Q := by
 obtain ⟨n0, e, T1, h1, h2, h3⟩ := hw;have hs : ∀ m n, execC P (runG P spec m) nt (n + 1) c (some body) T h = scopeC (execC P (runG P spec m) nt n) body (execC P (runG P spec m) nt n c none T h) := fun _ _ => rfl
 cases e with
 | goto l =>
  cases hf : findLabel body l with
  | none =>
   refine ⟨n0 + 1, .goto l, T1, h1, fun m n hm hn => ?_, by simp only [scopeQ, hf] at h3; exact h3⟩;obtain ⟨n, rfl⟩ : ∃ k, n = k + 1 := ⟨n - 1, by omega⟩;rw [hs, h2 m n (by omega) (by omega)];show restC _ body l T1 h1 (findLabel body l) = _;rw [hf]; rfl
  | some rest =>
   simp only [scopeQ, hf] at h3;obtain ⟨n1, e', T2, h4, h5, h6⟩ := h3;refine ⟨max n0 n1 + 1, e', T2, h4, fun m n hm hn => ?_, h6⟩;obtain ⟨n, rfl⟩ : ∃ k, n = k + 1 := ⟨n - 1, by omega⟩;rw [hs, h2 m n (by omega) (by omega)];show restC _ body l T1 h1 (findLabel body l) = _;rw [hf];exact h5 m n (by omega) (by omega)
 | _ =>
  refine ⟨n0 + 1, _, T1, h1, fun m n hm hn => ?_, h3⟩;obtain ⟨n, rfl⟩ : ∃ k, n = k + 1 := ⟨n - 1, by omega⟩;rw [hs, h2 m n (by omega) (by omega)]; rfl
theorem W_scope {body : Code} (hw : WS P spec nt body body T h Q) : W P spec nt (.scope body) T h Q := by
 obtain ⟨n0, e, T1, h1, h2, h3⟩ := hw;refine ⟨n0 + 1, e, T1, h1, fun m n hm hn => ?_, h3⟩;obtain ⟨n, rfl⟩ : ∃ k, n = k + 1 := ⟨n - 1, by omega⟩;exact h2 m n (by omega) (by omega)
theorem zR {id : Nat} {ops : Array Oper} (hw : WO P spec nt ops.toList ops.toList T h (Q .normal)) : W P spec nt (.region id ops false) T h Q := by
 obtain ⟨n0, T1, h1, h2, h3⟩ := hw;refine ⟨n0 + 1, .normal, T1, h1, fun m n hm hn => ?_, h3⟩;obtain ⟨n, rfl⟩ : ∃ k, n = k + 1 := ⟨n - 1, by omega⟩;show normC (runOps P _ nt ops.toList ops.toList T h) = _;rw [h2 m (by omega)]; rfl
theorem W_draw {id : Nat} {ops : Array Oper} {l : List (It × Bool)} (ht : told ops = some l) (hf : h.floor ≤ h.next) (hw : WD P spec nt ops.toList l { t := T, h := h, rg := [], ld := [] } (Q .normal)) : W P spec nt (.region id ops true) T h Q := by
 obtain ⟨n0, s1, h2, h3⟩ := hw;refine ⟨n0 + 1, .normal, s1.t, s1.h, fun m n hm hn => ?_, h3⟩;obtain ⟨n, rfl⟩ : ∃ k, n = k + 1 := ⟨n - 1, by omega⟩;show normC (drawR P _ nt ops T h) = _;unfold drawR;rw [ht];simp only;rw [show Nat.ble h.floor h.next = true from Nat.ble_eq_true_of_le hf, cond_true, h2 m (by omega)]; rfl
theorem WX_val {o : Oper} {v : V} {h1 : H} {K : V → H → Prop} (hx : execO P T h o = some (.val v h1)) (hk : K v h1) : WX P spec T h o K := ⟨0, v, h1, fun m _ => by unfold execW; rw [hx]; rfl, hk⟩
theorem WX_call {o : Oper} {f : FuncId} {args : List V} {h1 : H} {K : V → H → Prop} (hx : execO P T h o = some (.enter f args h1)) (hk : WF P spec f args h1 K) : WX P spec T h o K := by
 obtain ⟨n0, v, h2, h3, h4⟩ := hk;exact ⟨n0, v, h2, fun m hm => by unfold execW; rw [hx]; exact h3 m hm, h4⟩
theorem zN {all : List Oper} {K : Sl → H → Prop} (hk : K T h) : WO P spec nt all [] T h K := ⟨0, T, h, fun _ _ => rfl, hk⟩
theorem WO_cons {all l : List Oper} {o : Oper} {K : Sl → H → Prop} (hw : wantB all T o = some true) (hx : WX P spec T h o fun v h1 => ∃ T1, putT nt T o.dst v = some T1 ∧ WO P spec nt all l T1 h1 K) : WO P spec nt all (o :: l) T h K := by
 obtain ⟨n0, v, h1, h2, T1, hp, n1, T2, h3, h4, h5⟩ := hx;refine ⟨max n0 n1, T2, h3, fun m hm => ?_, h5⟩;rw [runOps_cons];unfold oneOp;rw [hw];simp only;rw [h2 m (by omega)];unfold putR;simp only [hp];exact h4 m (by omega)
theorem WO_not {all l : List Oper} {o : Oper} {K : Sl → H → Prop} (hw : wantB all T o = some false) {T1 : Sl} (hp : putT nt T o.dst (.tup []) = some T1) (hx : WO P spec nt all l T1 h K) : WO P spec nt all (o :: l) T h K := by
 obtain ⟨n1, T2, h3, h4, h5⟩ := hx;refine ⟨n1, T2, h3, fun m hm => ?_, h5⟩;rw [runOps_cons];unfold oneOp;rw [hw];unfold putR;simp only [hp];exact h4 m hm
theorem putT_some {d : Tmp} {v : V} (hd : d < nt) : putT nt T (some d) v = some (T.set d v) := by
 show cond (Nat.blt d nt) (T.setK d v some) none = _;rw [blt_true hd, cond_true, Sl.setK_eq]
theorem putT_none {v : V} : putT nt T none v = some T := rfl
theorem zV {all l : List Oper} {op : Op} {ty : TypeId} {ps : String} {af : Array Edge} {d : Tmp} {v : V} {h1 : H} {K : Sl → H → Prop} (hx : execO P T h ⟨some d, op, ty, ps, af, none⟩ = some (.val v h1)) (hd : d < nt) (hk : WO P spec nt all l (T.set d v) h1 K) : WO P spec nt all (⟨some d, op, ty, ps, af, none⟩ :: l) T h K :=
 WO_cons rfl (WX_val hx ⟨_, putT_some hd, hk⟩)
theorem WO_eff {all l : List Oper} {op : Op} {ty : TypeId} {ps : String} {af : Array Edge} {v : V} {h1 : H} {K : Sl → H → Prop} (hx : execO P T h ⟨none, op, ty, ps, af, none⟩ = some (.val v h1)) (hk : WO P spec nt all l T h1 K) : WO P spec nt all (⟨none, op, ty, ps, af, none⟩ :: l) T h K :=
 WO_cons rfl (WX_val hx ⟨_, putT_none, hk⟩)
theorem WO_valG {all l : List Oper} {op : Op} {ty : TypeId} {ps : String} {af : Array Edge} {g : Option (Nat × Bool)} {d : Tmp} {v : V} {h1 : H} {K : Sl → H → Prop} (hw : wantB all T ⟨some d, op, ty, ps, af, g⟩ = some true) (hx : execO P T h ⟨some d, op, ty, ps, af, g⟩ = some (.val v h1)) (hd : d < nt) (hk : WO P spec nt all l (T.set d v) h1 K) : WO P spec nt all (⟨some d, op, ty, ps, af, g⟩ :: l) T h K :=
 WO_cons hw (WX_val hx ⟨_, putT_some hd, hk⟩)
theorem WO_notG {all l : List Oper} {op : Op} {ty : TypeId} {ps : String} {af : Array Edge} {g : Option (Nat × Bool)} {d : Tmp} {K : Sl → H → Prop} (hw : wantB all T ⟨some d, op, ty, ps, af, g⟩ = some false) (hd : d < nt) (hk : WO P spec nt all l (T.set d (.tup [])) h K) : WO P spec nt all (⟨some d, op, ty, ps, af, g⟩ :: l) T h K :=
 WO_not hw (putT_some hd) hk
theorem WO_call {all l : List Oper} {op : Op} {ty : TypeId} {ps : String} {af : Array Edge} {d : Option Tmp} {f : FuncId} {args : List V} {h1 : H} {K : Sl → H → Prop} (hx : execO P T h ⟨d, op, ty, ps, af, none⟩ = some (.enter f args h1)) (hk : WF P spec f args h1 fun v h2 => ∃ T1, putT nt T d v = some T1 ∧ WO P spec nt all l T1 h2 K) : WO P spec nt all (⟨d, op, ty, ps, af, none⟩ :: l) T h K :=
 WO_cons rfl (WX_call hx hk)
theorem WF_of {f : FuncId} {fn : Func} {c : Code} {args : List V} {K : V → H → Prop} (hf : P.funcs[f]? = some fn) (hb : fn.body = some c) (hs : spec f args h = none) (hl : args.length ≤ fn.ntmps) (hnt : fn.ntmps ≤ 1024) (hw : W P spec fn.ntmps c (Sl.new.setMany 0 args) h fun e T1 h1 => (e = .normal ∨ e = .ret) ∧ ∃ v, resultB P T1 h1 fn.results.toList = some v ∧ K v h1) : WF P spec f args h K := by
 obtain ⟨n0, e, T1, h1, h2, h3, v, h4, h5⟩ := hw;refine ⟨n0 + 1, v, h1, fun m hm => ?_, h5⟩;obtain ⟨m, rfl⟩ : ∃ k, m = k + 1 := ⟨m - 1, by omega⟩;rw [runG_succ, hs];show funB P _ m args h P.funcs[f]? = _;rw [hf];show bodyB P _ m fn args h fn.body = _;rw [hb];unfold bodyB;simp only;rw [show (Nat.ble args.length fn.ntmps && Nat.ble fn.ntmps 1024) = true by rw [Nat.ble_eq_true_of_le hl, Nat.ble_eq_true_of_le hnt]; rfl, cond_true, Sl.setManyK_eq, h2 m m (by omega) (by omega)];have hend : endB P fn.results.toList T1 h1 = some (v, h1) := by unfold endB; rw [h4]
 rcases h3 with rfl | rfl
 ·exact hend
 ·exact hend
theorem WF.calls (hm : P.follows .mixedOrders = true) (hN : namesB P = true) (hs : SpecOk P spec) {f : FuncId} {args : List V} {K : V → H → Prop} (hw : WF P spec f args h K) {ι : Inj} {w : World} {cargs : List Value} (k : HR P ι h w) (ha : All2 (VR ι) args cargs) :
  Calls P f cargs.toArray w fun e w' => ∃ v h1 ι' cv, K v h1 ∧ e = .returned cv ∧ VR ι' v cv ∧ Step P ι h w ι' h1 w' := by
 obtain ⟨n0, v, h1, h2, h3⟩ := hw;exact ((runG_ok hm hN hs n0).sim f args h v h1 (h2 n0 (Nat.le_refl _)) ι w cargs k ha).mono fun e w' ⟨ι', cv, h4, h5, h6⟩ => ⟨v, h1, ι', cv, h3, h4, h5, h6⟩
end
end Go.Ai
