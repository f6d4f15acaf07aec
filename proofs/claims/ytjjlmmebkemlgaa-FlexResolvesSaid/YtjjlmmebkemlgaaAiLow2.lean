/-
The same of operations one behind the other, regions, code, calls.
-/
import Derived.Test.YtjjlmmebkemlgaaAiLow
set_option linter.unusedVariables false
set_option linter.unusedSimpArgs false
namespace Go.Ai
def CallLow (call : CallF) : Prop := ∀ f args h v h', call f args h = some (v, h') → Low h h'
theorem hidden_append (l m : List (Nat × Nat)) (b : Nat) : hidden (l ++ m) b = (hidden l b || hidden m b) := by
  induction l with
  | nil => simp [hidden]
  | cons x l ih => simp only [List.cons_append, hidden, ih, Bool.or_assoc]
section
variable {P : Program} {call : CallF} {nt : Nat}
theorem execW_low (hl : CallLow call) {T0 : Sl} {h h' : H} {o : Oper} {v : V} (hx : execW P call T0 h o = some (v, h')) : Low h h' := by
  unfold execW goR at hx
  split at hx
  · rename_i v1 h1 he; cases hx; exact execO_low he
  · rename_i f args h1 he
    have : Low h h1 := execO_low he
    exact this.trans (hl _ _ _ _ _ hx)
  · simp at hx
theorem oneOp_low (hl : CallLow call) {all : List Oper} {o : Oper} {T0 T1 : Sl} {h h1 : H} (hx : oneOp P call nt all o T0 h = some (T1, h1)) : Low h h1 := by
  unfold oneOp putR at hx
  split at hx
  · simp at hx
  · simp only at hx
    split at hx
    · cases hx; exact .refl _
    · simp at hx
  · split at hx
    · rename_i v h2 he
      split at hx
      · cases hx; exact execW_low hl he
      · simp at hx
    · simp at hx
theorem runOps_low (hl : CallLow call) {all : List Oper} : ∀ (l : List Oper) {T0 T1 : Sl} {h h1 : H}, runOps P call nt all l T0 h = some (T1, h1) → Low h h1
  | [], T0, T1, h, h1, hx => by
    have e : some (T0, h) = some (T1, h1) := hx
    cases e; exact .refl _
  | o :: l, T0, T1, h, h1, hx => by
    rw [runOps_cons] at hx
    split at hx
    · rename_i T2 h2 he
      exact (oneOp_low hl he).trans (runOps_low hl l hx)
    · simp at hx
theorem putS_some {s s' : St} {d : Option Tmp} {v : V} (hp : putS nt s d v = some s') : ∃ T1, putT nt s.t d v = some T1 ∧ s' = { t := T1, h := s.h, rg := s.rg, ld := s.ld } := by
  unfold putS at hp
  split at hp
  · rename_i T1 h1; cases hp; exact ⟨T1, h1, rfl⟩
  · simp at hp
theorem fenced_low {h h1 : H} {l z : List (Nat × Nat)} {fl : Nat} (hfl : h.floor ≤ fl ∨ h.next ≤ fl) (k : Low (h.fenced l z fl) h1) : Low h { tr := h1.tr, next := h1.next, floor := h.floor, hid := h.hid, frz := h.frz, kn := h.kn } := by
  refine ⟨rfl, rfl, k.next, fun b hb hl => k.tr b hb ?_, fun b hb hn => k.top b hb hn, rfl, rfl⟩
  rcases hl with q | q | q
  · left
    show b < fl
    rcases hfl with f | f <;> omega
  · right; left
    show hidden (l ++ h.hid) b = true
    rw [hidden_append, q, Bool.or_true]
  · right; right
    show hidden (z ++ h.frz) b = true
    rw [hidden_append, q, Bool.or_true]
theorem itemStep_low (hl : CallLow call) {all : List Oper} {x : It} {bar : Bool} {s s' : St} (hx : itemStep P call nt all x bar s = some s') : Low s.h s'.h := by
  unfold itemStep at hx
  split at hx
  · simp at hx
  · obtain ⟨T1, _, rfl⟩ := putS_some hx; exact .refl _
  · unfold itemDo at hx
    split at hx
    · unfold quietDo at hx
      simp only [Bool.cond_eq_ite] at hx
      split at hx
      · split at hx
        · obtain ⟨T1, _, rfl⟩ := putS_some hx; exact .refl _
        · simp at hx
      · simp at hx
    · unfold allocDo at hx
      simp only [Bool.cond_eq_ite] at hx
      split at hx
      · split at hx
        · split at hx
          · rw [H.allocK_eq] at hx
            obtain ⟨T1, _, rfl⟩ := putS_some hx; exact .alloc _ _
          · simp at hx
        · simp at hx
      · simp at hx
    · unfold loadDo at hx
      simp only [Bool.cond_eq_ite] at hx
      split at hx
      · split at hx
        · split at hx
          · split at hx
            · obtain ⟨T1, _, rfl⟩ := putS_some hx; exact .refl _
            · simp at hx
          · simp at hx
        · simp at hx
      · simp at hx
    · unfold loudDo at hx
      split at hx
      · rename_i v h1 he
        obtain ⟨T1, _, rfl⟩ := putS_some hx
        refine fenced_low ?_ (execW_low hl he)
        cases bar
        · exact .inr (Nat.le_refl _)
        · exact .inl (Nat.le_refl _)
      · simp at hx
theorem drawAll_cons (all : List Oper) (x : It × Bool) (l : List (It × Bool)) (s : St) : drawAll P call nt all (x :: l) s = match itemStep P call nt all x.1 x.2 s with
    | some s1 => drawAll P call nt all l s1
    | none => none := rfl
theorem drawAll_nil (all : List Oper) (s : St) : drawAll P call nt all [] s = some s := rfl
theorem drawAll_low (hl : CallLow call) {all : List Oper} : ∀ (l : List (It × Bool)) {s s' : St}, drawAll P call nt all l s = some s' → Low s.h s'.h
  | [], s, s', hx => by rw [drawAll_nil] at hx; cases hx; exact .refl _
  | x :: l, s, s', hx => by
    rw [drawAll_cons] at hx
    split at hx
    · rename_i s1 he
      exact (itemStep_low hl he).trans (drawAll_low hl l hx)
    · simp at hx
theorem drawR_low (hl : CallLow call) {ops : Array Oper} {T0 T1 : Sl} {h h1 : H} (hx : drawR P call nt ops T0 h = some (T1, h1)) : Low h h1 := by
  unfold drawR at hx
  simp only [Bool.cond_eq_ite] at hx
  split at hx
  · split at hx
    · split at hx
      · rename_i s he
        cases hx
        exact drawAll_low hl _ he
      · simp at hx
    · simp at hx
  · simp at hx
theorem execC_low (hl : CallLow call) (n : Nat) : ∀ c sc T0 h e T1 h1, execC P call nt n c sc T0 h = some (e, T1, h1) → Low h h1 := by
  induction n with
  | zero => intro c sc T0 h e T1 h1 hx; cases hx
  | succ n ih =>
    have seq : ∀ {f : Sl → H → Option (Ex × Sl × H)} {q : Option (Ex × Sl × H)} {h : H} {e : Ex} {T1 : Sl} {h1 : H}, (∀ T2 h2 e T1 h1, f T2 h2 = some (e, T1, h1) → Low h2 h1) → (∀ e T1 h1, q = some (e, T1, h1) → Low h h1) → thenC f q = some (e, T1, h1) → Low h h1 := by
      intro f q h e T1 h1 hf hq hx
      unfold thenC at hx
      split at hx
      · exact (hq _ _ _ rfl).trans (hf _ _ _ _ _ hx)
      · exact hq _ _ _ hx
    intro c sc T0 h e T1 h1 hx
    rw [execC_succ] at hx
    cases sc with
    | some body =>
      have hx' : scopeC (execC P call nt n) body (execC P call nt n c none T0 h) = some (e, T1, h1) := hx
      unfold scopeC at hx'
      split at hx'
      · rename_i l T2 h2 he
        unfold restC at hx'
        split at hx'
        · exact (ih _ _ _ _ _ _ _ he).trans (ih _ _ _ _ _ _ _ hx')
        · cases hx'; exact ih _ _ _ _ _ _ _ he
      · exact ih _ _ _ _ _ _ _ hx'
    | none =>
      cases c with
      | skip => have e' : some (Ex.normal, T0, h) = some (e, T1, h1) := hx; cases e'; exact .refl _
      | label l => have e' : some (Ex.normal, T0, h) = some (e, T1, h1) := hx; cases e'; exact .refl _
      | exit id => have e' : some (Ex.exit id, T0, h) = some (e, T1, h1) := hx; cases e'; exact .refl _
      | goto l => have e' : some (Ex.goto l, T0, h) = some (e, T1, h1) := hx; cases e'; exact .refl _
      | ret => have e' : some (Ex.ret, T0, h) = some (e, T1, h1) := hx; cases e'; exact .refl _
      | region id ops draw =>
        have hx' : normC (cond draw (drawR P call nt ops T0 h) (runOps P call nt ops.toList ops.toList T0 h)) = some (e, T1, h1) := hx
        unfold normC at hx'
        split at hx'
        · rename_i T2 h2 he
          cases hx'
          cases draw with
          | true => exact drawR_low hl he
          | false => exact runOps_low hl _ he
        · simp at hx'
      | seq c1 c2 => exact seq (fun _ _ _ _ _ q => ih _ _ _ _ _ _ _ q) (fun _ _ _ q => ih _ _ _ _ _ _ _ q) (show thenC (execC P call nt n c2 none) (execC P call nt n c1 none T0 h) = _ from hx)
      | cond x c1 c2 =>
        have hx' : condC (execC P call nt n) c1 c2 T0 h (ev T0 x) = some (e, T1, h1) := hx
        unfold condC at hx'
        split at hx'
        · exact ih _ _ _ _ _ _ _ hx'
        · simp at hx'
      | block id body =>
        have hx' : inBlockC id (execC P call nt n body none T0 h) = some (e, T1, h1) := hx
        unfold inBlockC at hx'
        simp only [Bool.cond_eq_ite] at hx'
        split at hx'
        · rename_i he
          split at hx' <;> cases hx' <;> exact ih _ _ _ _ _ _ _ he
        · exact ih _ _ _ _ _ _ _ hx'
      | loop body => exact seq (fun _ _ _ _ _ q => ih _ _ _ _ _ _ _ q) (fun _ _ _ q => ih _ _ _ _ _ _ _ q) (show thenC (execC P call nt n (.loop body) none) (execC P call nt n body none T0 h) = _ from hx)
      | scope body => exact ih _ _ _ _ _ _ _ (show execC P call nt n body (some body) T0 h = some (e, T1, h1) from hx)
      | rangeFunc => exact absurd (show (none : Option (Ex × Sl × H)) = some (e, T1, h1) from hx) (by simp)
      | refuse => exact absurd (show (none : Option (Ex × Sl × H)) = some (e, T1, h1) from hx) (by simp)

/-! ### Calls -/
theorem runF_succ (n : Nat) (f : FuncId) (args : List V) (h : H) : runF P (n + 1) f args h = knownB h (funB P (runF P n) n args h P.funcs[f]?) (h.kn.call f args) := rfl
/-- A call that comes to its end: the body's run. -/
theorem runF_some {n : Nat} {f : FuncId} {args : List V} {h : H} {v : V} {h' : H} (hx : runF P (n + 1) f args h = some (v, h')) :
    (h.kn.call f args = some v ∧ h' = h) ∨ ∃ fn c e T1, P.funcs[f]? = some fn ∧ fn.body = some c ∧ args.length ≤ fn.ntmps ∧ fn.ntmps ≤ 1024 ∧ execC P (runF P n) fn.ntmps n c none (Sl.new.setMany 0 args) h = some (e, T1, h') ∧ (e = .normal ∨ e = .ret) ∧ resultB P T1 h' fn.results.toList = some v := by
  rw [runF_succ] at hx
  unfold knownB at hx
  split at hx
  · rename_i v' hk
    cases hx
    exact .inl ⟨hk, rfl⟩
  refine .inr ?_
  unfold funB at hx
  split at hx
  · rename_i fn hf
    unfold bodyB at hx
    split at hx
    · rename_i c hb
      cases hg : (Nat.ble args.length fn.ntmps && Nat.ble fn.ntmps 1024) with
      | false => rw [hg] at hx; simp at hx
      | true =>
        rw [hg] at hx
        simp only [cond_true, Sl.setManyK_eq] at hx
        simp only [Bool.and_eq_true] at hg
        have hend : ∀ T1 h1, endB P fn.results.toList T1 h1 = some (v, h') → h1 = h' ∧ resultB P T1 h1 fn.results.toList = some v := by
          intro T1 h1 he
          unfold endB at he
          split at he
          · rename_i v' hv; cases he; exact ⟨rfl, hv⟩
          · simp at he
        unfold exitB at hx
        split at hx
        · rename_i T1 h1 he
          obtain ⟨rfl, hr⟩ := hend _ _ hx
          exact ⟨fn, c, _, T1, hf, hb, Nat.le_of_ble_eq_true hg.1, Nat.le_of_ble_eq_true hg.2, he, .inl rfl, hr⟩
        · rename_i T1 h1 he
          obtain ⟨rfl, hr⟩ := hend _ _ hx
          exact ⟨fn, c, _, T1, hf, hb, Nat.le_of_ble_eq_true hg.1, Nat.le_of_ble_eq_true hg.2, he, .inr rfl, hr⟩
        · simp at hx
    · simp at hx
  · simp at hx
theorem runF_low (n : Nat) : CallLow (runF P n) := by
  induction n with
  | zero => intro f args h v h' hx; cases hx
  | succ n ih =>
    intro f args h v h' hx
    obtain ⟨_, rfl⟩ | ⟨fn, c, e, T1, _, _, _, _, he, _⟩ := runF_some hx
    · exact .refl _
    exact execC_low ih n _ _ _ _ _ _ _ he
def resF (tmps : Array Value) : ResultVar → Sem Value
  | .tmp t => pure (tmps.getD t undef)
  | .cell a t => do loadVar t (← asAddr (tmps.getD a undef))
/-- The results as the model tells them. -/
theorem resB_rel {ι : Inj} {h : H} {w : World} {T1 : Sl} {tmps : Array Value} (k : HR P ι h w) (kt : TR ι T1 tmps) : ∀ {rs : List ResultVar} {vs : List V}, resB P T1 h rs = some vs →
    ∃ us, (rs.mapM (resF tmps)).run P w = .ok us w ∧ All2 (VR ι) vs us
  | [], vs, hx => by simp [resB] at hx; subst hx; exact ⟨[], rfl, .nil⟩
  | .tmp t :: rs, vs, hx => by
    simp only [resB] at hx
    split at hx
    · rename_i v vs' h1 h2
      cases hx
      obtain ⟨us, e1, e2⟩ := resB_rel k kt h2
      refine ⟨tmps.getD t undef :: us, ?_, .cons (kt t v h1) e2⟩
      rw [List.mapM_cons]
      simp only [resF, Sem.run_bind, Sem.run_pure, Result.andThen_ok]
      rw [e1]; rfl
    · simp at hx
  | .cell a t :: rs, vs, hx => by
    simp only [resB] at hx
    split at hx
    · rename_i v h3 vs' h1 h2
      cases hx
      obtain ⟨us, e1, e2⟩ := resB_rel k kt h2
      cases hg : T1.get a with
      | none => rw [hg] at h1; simp [doLoad] at h1
      | some x =>
        obtain ⟨y, u, e3, e4, e5⟩ := doLoad_rel k (x := T1.get a) (v := tmps.getD a undef) (fun y hy => kt a y hy) h1
        cases e3
        have hp : ∃ ad, tmps.getD a undef = .pointer (some ad) := by
          have := kt a x hg
          rw [hg] at h1
          unfold doLoad at h1
          split at h1
          · rename_i b o heq
            cases heq
            exact ⟨_, this.2⟩
          · simp at h1
        obtain ⟨ad, had⟩ := hp
        have ha : (asAddr (tmps.getD a undef)).run P w = .ok ad w := by rw [had]; rfl
        rw [had] at e4
        have e4' : (loadVar t ad).run P w = .ok u w := by simpa [Instr.loadAt, Instr.sureAddr] using e4
        refine ⟨u :: us, ?_, .cons e5 e2⟩
        rw [List.mapM_cons]
        simp only [resF, Sem.run_bind, ha, Result.andThen_ok, e4']
        rw [e1]; rfl
    · simp at hx
theorem resultB_rel {ι : Inj} {h : H} {w : World} {T1 : Sl} {fn : Func} {tmps : Array Value} {v : V} (k : HR P ι h w) (kt : TR ι T1 tmps) (hx : resultB P T1 h fn.results.toList = some v) :
    ∃ u, (results fn tmps).run P w = .ok u w ∧ VR ι v u := by
  unfold resultB at hx
  have hm : ∀ us, (fn.results.toList.mapM (resF tmps)).run P w = .ok us w → (results fn tmps).run P w = .ok (if h : us.toArray.size = 1 then us.toArray[0] else .tuple us.toArray) w := by
    intro us hu
    have e : results fn tmps = (do let vs ← fn.results.mapM (resF tmps); pure (if h : vs.size = 1 then vs[0] else .tuple vs)) := rfl
    rw [e, Sem.run_bind, Array.mapM_eq_mapM_toList, Sem.run_map, hu]
    rfl
  split at hx
  · rename_i v' hr
    cases hx
    obtain ⟨us, e1, e2⟩ := resB_rel k kt hr
    cases e2 with
    | @cons _ u _ m hu ht =>
      cases ht
      exact ⟨u, by rw [hm _ e1]; rfl, hu⟩
  · rename_i vs hne hr
    split at hx
    · rename_i ps hp
      cases hx
      obtain ⟨us, e1, e2⟩ := resB_rel k kt hr
      have hl : us.toArray.size ≠ 1 := by
        intro e
        have := e2.length
        simp at e
        rw [e] at this
        match vs, this, hne with
        | [x], _, hne => exact hne x rfl
      refine ⟨.tuple us.toArray, by rw [hm _ e1, dif_neg hl], us.toArray, rfl, ?_⟩
      simpa using parts_rel e2 hp
    · simp at hx
  · simp at hx
/-- Calls, as soon as regions that draw are told right. -/
theorem runF_ok (hN : ∀ (f : FuncId) (fn : Func), P.funcs[f]? = some fn → fn.body.isSome = true → (fn.name == "runtime.NumGoroutine") = false) (hd : ∀ call nt, CallOk P call → CallLow call → nt ≤ 1024 → DrawOk P call nt) (n : Nat) : CallOk P (runF P n) := by
  induction n with
  | zero =>
    constructor
    · intro f args h v h' hx; cases hx
    · intro f args h v h' hx; cases hx
  | succ n ih =>
    refine ⟨fun f args h v h' hx ι w k => ?_, fun f args h v h' hx ι w cargs k hall => ?_⟩
    · obtain ⟨hk, rfl⟩ | ⟨fn, c, e, T1, hf, hb, _⟩ := runF_some hx
      · exact (k.kn.call f args v hk).1
      exact ⟨fn, hf, by rw [hb]; rfl, hN f fn hf (by rw [hb]; rfl)⟩
    · obtain ⟨hk, rfl⟩ | ⟨fn, c, e, T1, hf, hb, hlen, hnt, he, hne, hr⟩ := runF_some hx
      · exact ((k.kn.call f args v hk).2 ι w cargs rfl hall).mono fun e w' ⟨cv, he, hv, hB⟩ => ⟨ι, cv, he, hv, Step.below k hB⟩
      have hl := hall.length
      refine calls_of_wp hf hb ?_
      have hsize : (cargs.toArray ++ Array.replicate (fn.ntmps - cargs.toArray.size) undef).size = fn.ntmps := by simp; omega
      have R : Rel P ι (Sl.new.setMany 0 args) h fn.ntmps { tmps := cargs.toArray ++ Array.replicate (fn.ntmps - cargs.toArray.size) undef, defers := [] } w := by
        refine ⟨k, ?_, rfl, hsize⟩
        intro t x hx
        rw [Sl.get_setMany _ _ _ _ (by omega)] at hx
        by_cases hin : 0 ≤ t ∧ t < 0 + args.length
        · rw [if_pos hin] at hx
          obtain ⟨u, hu, hv⟩ := hall.get t x (by simpa using hx)
          have hlt : t < cargs.length := (List.getElem?_eq_some_iff.1 hu).1
          rw [Array.getD_eq_getD_getElem?, Array.getElem?_append_left (by simpa using hlt)]
          simp [hu]
          exact hv
        · rw [if_neg hin, Sl.get_new] at hx; cases hx
      refine (execC_ok hnt ih (hd _ _ ih (runF_low n) hnt) n).1 c _ h e T1 h' he ι _ w _ R fun ι' a' w' R' hs => ?_
      obtain ⟨u, hu, hv⟩ := resultB_rel (fn := fn) R'.hr R'.tr hr
      rcases hne with rfl | rfl
      · exact ⟨R'.defers, u, hu, ι', u, rfl, hv, hs⟩
      · exact ⟨R'.defers, u, hu, ι', u, rfl, hv, hs⟩
end
end Go.Ai
