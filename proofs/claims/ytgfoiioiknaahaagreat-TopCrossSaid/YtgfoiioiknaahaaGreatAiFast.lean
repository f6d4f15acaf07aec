/-
The same machine, each piece of code told once (a closed term that the kernel remembers): what it runs to is what runF runs to.
-/
import Derived.Test.YtgfoiioiknaahaaGreatAiDefs
set_option linter.unusedVariables false
set_option linter.unusedSimpArgs false
namespace Go.Ai

/-! ### Operands -/
noncomputable def evB : Operand → Box (Sl → Option V)
  | .tmp t => T.getB t
  | .const v => ⟨fun _ => V.ofVal v⟩
  | .global _ => ⟨fun _ => none⟩
  | .func f => ⟨fun _ => some (.one (.fn0 f))⟩
theorem evB_eq (x : Operand) (T0 : Sl) : (evB x).val T0 = ev T0 x := by cases x <;> rfl
noncomputable def evsB : List Operand → Box (Sl → Option (List V))
  | [] => ⟨fun _ => some []⟩
  | x :: xs => (evB x).use fun X => (evsB xs).use fun Y => ⟨fun T0 => match X T0, Y T0 with
    | some v, some vs => some (v :: vs)
    | _, _ => none⟩
theorem evsB_eq (l : List Operand) (T0 : Sl) : (evsB l).val T0 = evs T0 l := by
  induction l with
  | nil => rfl
  | cons x l ih =>
    show (match (evB x).val T0, (evsB l).val T0 with
      | some v, some vs => some (v :: vs)
      | _, _ => none) = _
    rw [evB_eq, ih]; rfl

/-! ### Operations -/
noncomputable def on1 (x : Operand) (K : Option V → H → Option R) : Box (Sl → H → Option R) := (evB x).use fun X => ⟨fun T0 h => K (X T0) h⟩
noncomputable def on2 (x y : Operand) (K : Option V → Option V → H → Option R) : Box (Sl → H → Option R) := (evB x).use fun X => (evB y).use fun Y => ⟨fun T0 h => K (X T0) (Y T0) h⟩
noncomputable def on3 (x y z : Operand) (K : Option V → Option V → Option V → H → Option R) : Box (Sl → H → Option R) := (evB x).use fun X => (evB y).use fun Y => (evB z).use fun Z => ⟨fun T0 h => K (X T0) (Y T0) (Z T0) h⟩
theorem on1_eq (x : Operand) (K : Option V → H → Option R) (T0 : Sl) (h : H) : (on1 x K).val T0 h = K (ev T0 x) h := by
  show K ((evB x).val T0) h = _
  rw [evB_eq]
theorem on2_eq (x y : Operand) (K : Option V → Option V → H → Option R) (T0 : Sl) (h : H) : (on2 x y K).val T0 h = K (ev T0 x) (ev T0 y) h := by
  show K ((evB x).val T0) ((evB y).val T0) h = _
  rw [evB_eq, evB_eq]
theorem on3_eq (x y z : Operand) (K : Option V → Option V → Option V → H → Option R) (T0 : Sl) (h : H) : (on3 x y z K).val T0 h = K (ev T0 x) (ev T0 y) (ev T0 z) h := by
  show K ((evB x).val T0) ((evB y).val T0) ((evB z).val T0) h = _
  rw [evB_eq, evB_eq, evB_eq]
/-- Two whole numbers first. -/
noncomputable def fastBin (P : Program) (h : H) (op : BinOp) (t : TypeId) (x y : Option V) : Option R := match asI x, asI y with
  | some a, some b => intOp h op a b
  | _, _ => doBin P h op t x y
theorem fastBin_eq (P : Program) (h : H) (op : BinOp) (t : TypeId) (x y : Option V) : fastBin P h op t x y = doBin P h op t x y := by
  unfold fastBin
  split
  · rename_i a b ha hb
    have hx : x = some (.one (.i .i64 a)) := by
      unfold asI at ha; split at ha
      · cases ha; rfl
      · cases ha
    have hy : y = some (.one (.i .i64 b)) := by
      unfold asI at hb; split at hb
      · cases hb; rfl
      · cases hb
    subst hx hy
    rfl
  · rfl
noncomputable def pickF (c a b : Option V) (h : H) : Option R := match c with
  | some (.one (.b t)) => doMove h (cond t a b)
  | _ => none
noncomputable def callB (P : Program) (o : Oper) (args : Array Operand) (ts : Array TypeId) : Callee → Box (Sl → H → Option R)
  | .value f => (evB f).use fun F => (evsB args.toList).use fun A => ⟨fun T0 h => match F T0, A T0 with
    | some (.one (.fn0 g)), some vs => callR P h g vs
    | some (.one (.fn g r)), some vs => match h.get r with
      | some (.ghost cs) => some (.enter g (vs ++ cs) h)
      | _ => none
    | _, _ => none⟩
  | .builtin b => match b, args.toList, ts.toList with
    | .append, [x, y], [t, u] => on2 x y fun v w h => doAppend P h t u v w
    | .len, [x], [t] => (evB x).use fun X => ⟨fun T0 h => orPure P T0 h o (doLen P h t (X T0))⟩
    | b, _, _ => ⟨fun T0 h => doBuiltin P T0 h o args ts b⟩
  | .invoke _ _ => ⟨fun _ _ => none⟩
theorem callB_eq (P : Program) (o : Oper) (args : Array Operand) (ts : Array TypeId) (c : Callee) (T0 : Sl) (h : H) : (callB P o args ts c).val T0 h = doCallOp P T0 h o args ts c := by
  unfold callB
  split
  · rename_i f
    simp only [Box.use_eq, evB_eq, evsB_eq]
    rfl
  · split
    · rename_i h1 h2
      rw [on2_eq]
      unfold doCallOp doBuiltin
      simp only [doTwo, h1, h2]
    · rename_i h1 h2
      simp only [Box.use_eq, evB_eq]
      unfold doCallOp doBuiltin
      simp only [doLenOp, h1, h2]
    · rfl
  · rfl
noncomputable def execB (P : Program) (o : Oper) : Box (Sl → H → Option R) := match o.op with
  | .move x => on1 x fun v h => doMove h v
  | .assign x => on1 x fun v h => doMove h v
  | .pick c a b => on3 c a b pickF
  | .box e x => on1 x fun v h => doBox P h e v
  | .load t a => on1 a fun v h => doLoad P h t v
  | .store t a x => on2 a x fun v w h => doStore P h t v w
  | .nilCheck x => on1 x fun v h => doNilCheck h v
  | .fieldAddr s x f => on1 x fun v h => doFieldAddr P h s f v
  | .indexAddr t x i => on2 x i fun v w h => doIndexAddr P h t v w
  | .field t x f => on1 x fun v h => doField P h t f v
  | .extract t ix => on1 t fun v h => doExtract h ix v
  | .makeSlice t l c => on2 l c fun v w h => doMakeSlice P h t v w
  | .binOp op t x y _ => (evB x).use fun X => (evB y).use fun Y => ⟨fun T0 h => orPure P T0 h o (fastBin P h op t (X T0) (Y T0))⟩
  | .unOp op _ x => (evB x).use fun X => ⟨fun T0 h => orPure P T0 h o (doUn h op (X T0))⟩
  | .convert s d x => (evB x).use fun X => ⟨fun T0 h => orPure P T0 h o (doConv P h s d (X T0))⟩
  | .call c => callB P o c.args c.argTypes c.callee
  | .lookup t x k ok => on2 x k fun v w h => doLookup P h t ok v w
  | .mapUpdate t m k x => on3 m k x fun u v w h => doMapUpdate P h t u v w
  | _ => ⟨fun T0 h => execO P T0 h o⟩
theorem execB_eq (P : Program) (o : Oper) (T0 : Sl) (h : H) : (execB P o).val T0 h = execO P T0 h o := by
  unfold execB
  split
  all_goals rename_i hop
  case h_3 c a b =>
    rw [on3_eq]
    unfold execO
    rw [hop]
    simp only [pickF, doPick]
    cases ev T0 c with
    | none => rfl
    | some z => cases z with
      | one z => cases z <;> first
        | rfl
        | (rename_i t; cases t <;> rfl)
      | _ => rfl
  all_goals first
    | (rw [on1_eq]; unfold execO; rw [hop])
    | (rw [on2_eq]; unfold execO; rw [hop])
    | (rw [on3_eq]; unfold execO; rw [hop])
    | (rw [callB_eq]; unfold execO; rw [hop])
    | (simp only [Box.use_eq, evB_eq, fastBin_eq]; unfold execO; rw [hop])
    | rfl

/-! ### One behind the other -/
abbrev Res := Option (Sl × H)
/-- What is put where. -/
noncomputable def putB {β : Type} (nt : Nat) : Option Tmp → Box (Sl → V → (Sl → Option β) → Option β)
  | none => ⟨fun T0 _ K => K T0⟩
  | some d => cond (Nat.blt d nt) ((T.updB d).use fun U => ⟨fun T0 v K => U T0 (some v) K⟩) ⟨fun _ _ _ => none⟩
theorem putB_eq {β : Type} (nt : Nat) (d : Option Tmp) (T0 : Sl) (v : V) (K : Sl → Option β) : (putB nt d).val T0 v K = match putT nt T0 d v with
    | some T1 => K T1
    | none => none := by
  cases d with
  | none => rfl
  | some d =>
    show (cond (Nat.blt d nt) ((T.updB d).use fun U => ⟨fun T0 v K => U T0 (some v) K⟩) ⟨fun _ _ _ => none⟩ : Box (Sl → V → (Sl → Option β) → Option β)).val T0 v K = match cond (Nat.blt d nt) (T0.setK d v some) none with
      | some T1 => K T1
      | none => none
    cases Nat.blt d nt with
    | false => rfl
    | true =>
      simp only [cond_true, Box.use_eq]
      rw [Sl.setK_eq]
      exact T.updK_eq ..
noncomputable def wantedB (all : List Oper) (g : Nat × Bool) : Box (Sl → Option Bool) := match all[g.1]? with
  | some q => match q.dst with
    | some d => (T.getB d).use fun G => ⟨fun T0 => match G T0 with
      | some (.one (.b t)) => some (t == g.2)
      | some (.tup []) => some false
      | _ => none⟩
    | none => ⟨fun _ => none⟩
  | none => ⟨fun _ => none⟩
theorem wantedB_eq (all : List Oper) (o : Oper) (g : Nat × Bool) (hg : o.guard = some g) (T0 : Sl) : (wantedB all g).val T0 = wantB all T0 o := by
  obtain ⟨j, want⟩ := g
  unfold wantedB wantB
  rw [hg]
  simp only
  cases all[j]? with
  | none => rfl
  | some q =>
    simp only
    cases q.dst <;> rfl
noncomputable def goF {β : Type} (call : CallF) (r : Option R) (K : V → H → Option β) : Option β :=
  Option.rec none (fun r => R.rec (fun v h1 => K v h1) (fun f args h1 => Option.rec none (fun p => Prod.rec (fun v h2 => K v h2) p) (call f args h1)) r) r
theorem goF_eq {β : Type} (call : CallF) (r : Option R) (K : V → H → Option β) : goF call r K = match goR call r with
    | some (v, h1) => K v h1
    | none => none := by
  unfold goF goR
  cases r with
  | none => rfl
  | some r => cases r with
    | val v h1 => rfl
    | enter f args h1 =>
      simp only
      cases call f args h1 with
      | none => rfl
      | some p => obtain ⟨v, h2⟩ := p; rfl
noncomputable def oneB {β : Type} (P : Program) (nt : Nat) (all : List Oper) (o : Oper) : Box (CallF → Sl → H → (Sl → H → Option β) → Option β) := match o.guard with
  | none => (execB P o).use fun E => (putB nt o.dst).use fun U => ⟨fun call T0 h K => goF call (E T0 h) fun v h1 => U T0 v fun T1 => K T1 h1⟩
  | some g => (wantedB all g).use fun W => (execB P o).use fun E => (putB nt o.dst).use fun U => ⟨fun call T0 h K => Option.rec none (fun b => cond b (goF call (E T0 h) fun v h1 => U T0 v fun T1 => K T1 h1) (U T0 (.tup []) fun T1 => K T1 h)) (W T0)⟩
theorem oneB_eq {β : Type} (P : Program) (nt : Nat) (all : List Oper) (o : Oper) (call : CallF) (T0 : Sl) (h : H) (K : Sl → H → Option β) : (oneB P nt all o).val call T0 h K = match oneOp P call nt all o T0 h with
    | some (T1, h1) => K T1 h1
    | none => none := by
  have main : (goF call ((execB P o).val T0 h) fun v h1 => (putB nt o.dst).val T0 v fun T1 => K T1 h1) = match putR nt T0 o.dst (execW P call T0 h o) with
      | some (T1, h1) => K T1 h1
      | none => none := by
    rw [goF_eq, execB_eq]
    unfold execW putR
    cases goR call (execO P T0 h o) with
    | none => rfl
    | some p =>
      obtain ⟨v, h1⟩ := p
      simp only
      rw [putB_eq]
      cases putT nt T0 o.dst v <;> rfl
  unfold oneB
  split
  · rename_i hg
    have hw : wantB all T0 o = some true := by unfold wantB; rw [hg]
    unfold oneOp
    rw [hw]
    exact main
  · rename_i g hg
    simp only [Box.use_eq]
    rw [wantedB_eq all o g hg]
    unfold oneOp
    cases hw : wantB all T0 o with
    | none => rfl
    | some b =>
      cases b with
      | true => exact main
      | false =>
        show (putB nt o.dst).val T0 (.tup []) (fun T1 => K T1 h) = _
        rw [putB_eq]
        unfold putR
        simp only
        cases putT nt T0 o.dst (.tup []) <;> rfl
noncomputable def seqB (P : Program) (nt : Nat) (all : List Oper) : List Oper → Box (CallF → Sl → H → Res)
  | [] => ⟨fun _ T0 h => some (T0, h)⟩
  | o :: l => (oneB P nt all o).use fun F => (seqB P nt all l).use fun G => ⟨fun call T0 h => F call T0 h fun T1 h1 => G call T1 h1⟩
theorem seqB_eq (P : Program) (nt : Nat) (all : List Oper) (call : CallF) : ∀ (l : List Oper) (T0 : Sl) (h : H), (seqB P nt all l).val call T0 h = runOps P call nt all l T0 h
  | [], _, _ => rfl
  | o :: l, T0, h => by
    show (oneB P nt all o).val call T0 h (fun T1 h1 => (seqB P nt all l).val call T1 h1) = _
    rw [oneB_eq]
    show _ = match oneOp P call nt all o T0 h with
      | some (T1, h1) => runOps P call nt all l T1 h1
      | none => none
    cases oneOp P call nt all o T0 h with
    | none => rfl
    | some p => exact seqB_eq P nt all call l p.1 p.2

/-! ### Regions that draw -/
abbrev Lst := List (Nat × Nat × Nat)
abbrev ItemF := CallF → Sl → H → Lst → Lst → (Sl → H → Lst → Lst → Res) → Res
noncomputable def quietB (P : Program) (nt : Nat) (o : Oper) : Box ItemF := (execB P o).use fun E => (putB nt o.dst).use fun U =>
  ⟨fun _ t h rg ld K => H.rec (fun tr next floor hid frz kn => Option.rec none (fun r => R.rec (fun v h1 => cond (Nat.beq h1.next next) (U t v fun T1 => K T1 h rg ld) none) (fun _ _ _ => none) r) (E t ⟨.e, next, next, [], [], kn⟩)) h⟩
noncomputable def allocB (P : Program) (nt i : Nat) (o : Oper) : Box ItemF := (execB P o).use fun E => (putB nt o.dst).use fun U =>
  ⟨fun _ t h rg ld K => H.rec (fun tr next floor hid frz kn => Option.rec none (fun r => R.rec (fun v h1 => Option.rec none (fun x => cond (Nat.beq h1.next (next + 1)) (tr.setK next x fun tr' => forceN (next + 1) fun n => U t v fun T1 => K T1 ⟨tr', n, floor, hid, frz, kn⟩ ((i, next, n) :: rg) ld) none) (h1.tr.get next)) (fun _ _ _ => none) r) (E t ⟨.e, next, next, [], [], kn⟩)) h⟩
noncomputable def hideB (hid : List (Nat × Nat)) (b : Nat) (x : Option O) : Option O := cond (hidden hid b) none x
noncomputable def loadB (P : Program) (nt i m : Nat) (o : Oper) : Box ItemF := (execB P o).use fun E => (putB nt o.dst).use fun U =>
  ⟨fun _ t h rg ld K => H.rec (fun tr next floor hid frz kn => Option.rec none (fun b => Option.rec none (fun x => Option.rec none (fun r => R.rec (fun v h1 => cond (Nat.beq h1.next next) (U t v fun T1 => K T1 h rg ((i, b, b + 1) :: ld)) none) (fun _ _ _ => none) r) (E t ⟨T.set .e b x, next, next, [], [], kn⟩)) (hideB (unseen m rg ++ hid) b (tr.get b))) (loadAtB t o.op)) h⟩
noncomputable def loudB (P : Program) (nt i m : Nat) (o : Oper) (bar : Bool) : Box ItemF := (execB P o).use fun E => (putB nt o.dst).use fun U =>
  cond bar ⟨fun call t h rg ld K => H.rec (fun tr next floor hid frz kn => goF call (E t ⟨tr, next, floor, unseen m rg ++ hid, unseen m ld ++ frz, kn⟩) fun v h1 =>
    H.rec (fun tr1 next1 _ _ _ _ => U t v fun T1 => forceN next1 fun n1 => K T1 ⟨tr1, n1, floor, hid, frz, kn⟩ ((i, next, n1) :: rg) ld) h1) h⟩
   ⟨fun call t h rg ld K => H.rec (fun tr next floor hid frz kn => goF call (E t ⟨tr, next, next, unseen m rg ++ hid, frz, kn⟩) fun v h1 =>
    H.rec (fun tr1 next1 _ _ _ _ => U t v fun T1 => forceN next1 fun n1 => K T1 ⟨tr1, n1, floor, hid, frz, kn⟩ ((i, next, n1) :: rg) ld) h1) h⟩
noncomputable def classB (P : Program) (nt : Nat) (x : It) (bar : Bool) : Box ItemF := match x.c with
  | .quiet => quietB P nt x.o
  | .alloc => allocB P nt x.i x.o
  | .load => loadB P nt x.i x.m x.o
  | .loud => loudB P nt x.i x.m x.o bar
noncomputable def itemB (P : Program) (nt : Nat) (all : List Oper) (x : It) (bar : Bool) : Box ItemF := match x.o.guard with
  | none => classB P nt x bar
  | some g => (wantedB all g).use fun W => (classB P nt x bar).use fun F => (putB nt x.o.dst).use fun U => ⟨fun call t h rg ld K => Option.rec none (fun b => cond b (F call t h rg ld K) (U t (.tup []) fun T1 => K T1 h rg ld)) (W t)⟩
theorem putS_eq (nt : Nat) (s : St) (d : Option Tmp) (v : V) (K : St → Res) : (putB nt d).val s.t v (fun T1 => K { t := T1, h := s.h, rg := s.rg, ld := s.ld }) = match putS nt s d v with
    | some s1 => K s1
    | none => none := by
  rw [putB_eq]
  unfold putS
  cases putT nt s.t d v <;> rfl
theorem classB_eq (P : Program) (nt : Nat) (x : It) (bar : Bool) (call : CallF) (s : St) (K : St → Res) : (classB P nt x bar).val call s.t s.h s.rg s.ld (fun t h rg ld => K { t := t, h := h, rg := rg, ld := ld }) = match itemDo P call nt x bar s with
    | some s1 => K s1
    | none => none := by
  unfold classB itemDo
  obtain ⟨t, h, rg, ld⟩ := s
  obtain ⟨tr, next, floor, hid, frz, kn⟩ := h
  cases x.c with
  | quiet =>
    simp only
    unfold quietB quietDo
    simp only [Box.use_eq, execB_eq]
    show (Option.rec none _ (execO P t ⟨.e, next, next, [], [], kn⟩ x.o) : Res) = _
    show _ = match (match execO P t ⟨.e, next, next, [], [], kn⟩ x.o with
      | some (.val v h1) => cond (Nat.beq h1.next next) (putS nt ⟨t, ⟨tr, next, floor, hid, frz, kn⟩, rg, ld⟩ x.o.dst v) none
      | _ => none) with
      | some s1 => K s1
      | none => none
    cases execO P t ⟨.e, next, next, [], [], kn⟩ x.o with
    | none => rfl
    | some r => cases r with
      | enter f args h1 => rfl
      | val v h1 =>
        simp only
        cases Nat.beq h1.next next with
        | false => rfl
        | true => exact putS_eq nt ⟨t, ⟨tr, next, floor, hid, frz, kn⟩, rg, ld⟩ x.o.dst v K
  | alloc =>
    simp only
    unfold allocB allocDo
    simp only [Box.use_eq, execB_eq]
    show (Option.rec none _ (execO P t ⟨.e, next, next, [], [], kn⟩ x.o) : Res) = _
    show _ = match (match execO P t ⟨.e, next, next, [], [], kn⟩ x.o with
      | some (.val v h1) => match h1.tr.get next with
        | some y => cond (Nat.beq h1.next (next + 1)) (H.allocK ⟨tr, next, floor, hid, frz, kn⟩ y fun h' => putS nt { t := t, h := h', rg := (x.i, next, next + 1) :: rg, ld := ld } x.o.dst v) none
        | none => none
      | _ => none) with
      | some s1 => K s1
      | none => none
    cases execO P t ⟨.e, next, next, [], [], kn⟩ x.o with
    | none => rfl
    | some r => cases r with
      | enter f args h1 => rfl
      | val v h1 =>
        simp only
        cases h1.tr.get next with
        | none => rfl
        | some y =>
          simp only
          cases Nat.beq h1.next (next + 1) with
          | false => rfl
          | true =>
            simp only [cond_true]
            rw [H.allocK_eq, T.setK_eq, forceN_eq]
            exact putS_eq nt { t := t, h := ⟨tr.set next y, next + 1, floor, hid, frz, kn⟩, rg := (x.i, next, next + 1) :: rg, ld := ld } x.o.dst v K
  | load =>
    simp only
    unfold loadB loadDo
    simp only [Box.use_eq, execB_eq]
    cases loadAtB t x.o.op with
    | none => rfl
    | some b =>
      simp only
      show (Option.rec none _ (hideB (unseen x.m rg ++ hid) b (tr.get b)) : Res) = match (match hideB (unseen x.m rg ++ hid) b (tr.get b) with
        | some y => match execO P t ⟨T.set .e b y, next, next, [], [], kn⟩ x.o with
          | some (.val v h1) => cond (Nat.beq h1.next next) (putS nt ⟨t, ⟨tr, next, floor, hid, frz, kn⟩, rg, (x.i, b, b + 1) :: ld⟩ x.o.dst v) none
          | _ => none
        | none => none) with
        | some s1 => K s1
        | none => none
      cases hideB (unseen x.m rg ++ hid) b (tr.get b) with
      | none => rfl
      | some y =>
        simp only
        cases execO P t ⟨T.set .e b y, next, next, [], [], kn⟩ x.o with
        | none => rfl
        | some r => cases r with
          | enter f args h1 => rfl
          | val v h1 =>
            simp only
            cases Nat.beq h1.next next with
            | false => rfl
            | true => exact putS_eq nt { t := t, h := ⟨tr, next, floor, hid, frz, kn⟩, rg := rg, ld := (x.i, b, b + 1) :: ld } x.o.dst v K
  | loud =>
    simp only
    unfold loudB loudDo
    have main : ∀ hv : H, (goF call (execO P t hv x.o) fun v h1 => (H.rec (fun tr1 next1 _ _ _ _ => (putB nt x.o.dst).val t v fun T1 => forceN next1 fun n1 => K ⟨T1, ⟨tr1, n1, floor, hid, frz, kn⟩, (x.i, next, n1) :: rg, ld⟩) h1 : Res)) = match (match execW P call t hv x.o with
        | some (v, h1) => putS nt ⟨t, ⟨h1.tr, h1.next, floor, hid, frz, kn⟩, (x.i, next, h1.next) :: rg, ld⟩ x.o.dst v
        | none => none) with
        | some s1 => K s1
        | none => none := by
      intro hv
      rw [goF_eq]
      unfold execW
      cases goR call (execO P t hv x.o) with
      | none => rfl
      | some p =>
        obtain ⟨v, ⟨tr1, next1, floor1, hid1, frz1, kn1⟩⟩ := p
        simp only [forceN_eq]
        exact putS_eq nt ⟨t, ⟨tr1, next1, floor, hid, frz, kn⟩, (x.i, next, next1) :: rg, ld⟩ x.o.dst v K
    cases bar with
    | true =>
      simp only [Box.use_eq, execB_eq, cond_true]
      exact main ⟨tr, next, floor, unseen x.m rg ++ hid, unseen x.m ld ++ frz, kn⟩
    | false =>
      simp only [Box.use_eq, execB_eq, cond_false]
      exact main ⟨tr, next, next, unseen x.m rg ++ hid, frz, kn⟩
theorem itemB_eq (P : Program) (nt : Nat) (all : List Oper) (x : It) (bar : Bool) (call : CallF) (s : St) (K : St → Res) : (itemB P nt all x bar).val call s.t s.h s.rg s.ld (fun t h rg ld => K { t := t, h := h, rg := rg, ld := ld }) = match itemStep P call nt all x bar s with
    | some s1 => K s1
    | none => none := by
  unfold itemB itemStep
  split
  · rename_i hg
    have hw : wantB all s.t x.o = some true := by unfold wantB; rw [hg]
    rw [hw]
    exact classB_eq P nt x bar call s K
  · rename_i g hg
    simp only [Box.use_eq]
    rw [wantedB_eq all x.o g hg]
    cases hw : wantB all s.t x.o with
    | none => rfl
    | some b =>
      cases b with
      | true => exact classB_eq P nt x bar call s K
      | false => exact putS_eq nt s x.o.dst (.tup []) K
noncomputable def allB (P : Program) (nt : Nat) (all : List Oper) : List (It × Bool) → Box (CallF → Sl → H → Lst → Lst → Res)
  | [] => ⟨fun _ t h _ _ => some (t, h)⟩
  | x :: l => (itemB P nt all x.1 x.2).use fun F => (allB P nt all l).use fun G => ⟨fun call t h rg ld => F call t h rg ld fun t h rg ld => G call t h rg ld⟩
theorem allB_eq (P : Program) (nt : Nat) (all : List Oper) (call : CallF) : ∀ (l : List (It × Bool)) (s : St), (allB P nt all l).val call s.t s.h s.rg s.ld = match drawAll P call nt all l s with
    | some s1 => some (s1.t, s1.h)
    | none => none
  | [], _ => rfl
  | x :: l, s => by
    show (itemB P nt all x.1 x.2).val call s.t s.h s.rg s.ld (fun t h rg ld => (allB P nt all l).val call t h rg ld) = _
    refine (itemB_eq P nt all x.1 x.2 call s fun s => (allB P nt all l).val call s.t s.h s.rg s.ld).trans ?_
    show _ = match (match itemStep P call nt all x.1 x.2 s with
      | some s1 => drawAll P call nt all l s1
      | none => none) with
      | some s1 => some (s1.t, s1.h)
      | none => none
    cases itemStep P call nt all x.1 x.2 s with
    | none => rfl
    | some s1 => exact allB_eq P nt all call l s1
noncomputable def drawB (P : Program) (nt : Nat) (ops : Array Oper) : Box (CallF → Sl → H → Res) := match told ops with
  | some l => (allB P nt ops.toList l).use fun F => ⟨fun call T0 h => cond (Nat.ble h.floor h.next) (F call T0 h [] []) none⟩
  | none => ⟨fun _ _ _ => none⟩
theorem drawB_eq (P : Program) (nt : Nat) (ops : Array Oper) (call : CallF) (T0 : Sl) (h : H) : (drawB P nt ops).val call T0 h = drawR P call nt ops T0 h := by
  unfold drawB drawR
  cases told ops with
  | none => rfl
  | some l =>
    simp only [Box.use_eq]
    cases Nat.ble h.floor h.next with
    | false => rfl
    | true => exact allB_eq P nt ops.toList call l { t := T0, h := h, rg := [], ld := [] }

/-! ### Code, calls -/
noncomputable def normF : Res → Option (Ex × Sl × H) := fun r => Option.rec none (fun p => Prod.rec (fun T1 h1 => some (.normal, T1, h1)) p) r
theorem normF_eq (r : Res) : normF r = normC r := by
  cases r with
  | none => rfl
  | some p => obtain ⟨a, b⟩ := p; rfl
noncomputable def stepB (P : Program) (nt : Nat) : Code → Box (CallF → ExecF → Sl → H → Option (Ex × Sl × H))
  | .skip => ⟨fun _ _ T0 h => some (.normal, T0, h)⟩
  | .label _ => ⟨fun _ _ T0 h => some (.normal, T0, h)⟩
  | .region _ ops draw => (cond draw (drawB P nt ops) (seqB P nt ops.toList ops.toList)).use fun F => ⟨fun call _ T0 h => normF (F call T0 h)⟩
  | .seq a b => ⟨fun _ ih T0 h => thenC (ih b none) (ih a none T0 h)⟩
  | .cond x a b => (evB x).use fun X => ⟨fun _ ih T0 h => condC ih a b T0 h (X T0)⟩
  | .block id body => ⟨fun _ ih T0 h => inBlockC id (ih body none T0 h)⟩
  | .loop body => ⟨fun _ ih T0 h => thenC (ih (.loop body) none) (ih body none T0 h)⟩
  | .scope body => ⟨fun _ ih T0 h => ih body (some body) T0 h⟩
  | .exit id => ⟨fun _ _ T0 h => some (.exit id, T0, h)⟩
  | .goto l => ⟨fun _ _ T0 h => some (.goto l, T0, h)⟩
  | .ret => ⟨fun _ _ T0 h => some (.ret, T0, h)⟩
  | _ => ⟨fun _ _ _ _ => none⟩
theorem stepB_eq (P : Program) (nt : Nat) (call : CallF) (ih : ExecF) (T0 : Sl) (h : H) (c : Code) : (stepB P nt c).val call ih T0 h = stepC P call nt ih T0 h c := by
  cases c with
  | region id ops draw =>
    show normF ((cond draw (drawB P nt ops) (seqB P nt ops.toList ops.toList)).val call T0 h) = normC (cond draw (drawR P call nt ops T0 h) (runOps P call nt ops.toList ops.toList T0 h))
    rw [normF_eq]
    cases draw with
    | true => exact congrArg normC (drawB_eq P nt ops call T0 h)
    | false => exact congrArg normC (seqB_eq P nt ops.toList call ops.toList T0 h)
  | cond x a b =>
    show condC ih a b T0 h ((evB x).val T0) = condC ih a b T0 h (ev T0 x)
    rw [evB_eq]
  | _ => rfl
noncomputable def bothF (P : Program) (call : CallF) (nt : Nat) (ih : ExecF) (c : Code) (sc : Option Code) (T0 : Sl) (h : H) : Option (Ex × Sl × H) :=
  Option.rec ((stepB P nt c).use fun F => F call ih T0 h) (fun body => scopeC ih body (ih c none T0 h)) sc
noncomputable def execF (P : Program) (call : CallF) (nt : Nat) (n : Nat) : ExecF :=
  Nat.rec (fun _ _ _ _ => none) (fun _ ih => bothF P call nt ih) n
theorem execF_eq (P : Program) (call : CallF) (nt : Nat) (n : Nat) : execF P call nt n = execC P call nt n := by
  induction n with
  | zero => rfl
  | succ n ih =>
    funext c sc T0 h
    show bothF P call nt (execF P call nt n) c sc T0 h = bothC P call nt (execC P call nt n) c sc T0 h
    rw [ih]
    cases sc with
    | none => exact stepB_eq ..
    | some body => rfl
noncomputable def exitF (P : Program) (rs : List ResultVar) : Option (Ex × Sl × H) → Option (V × H) := exitB P rs
/-- A function's body, told once. -/
noncomputable def bodyF (P : Program) (f : FuncId) : Box (CallF → Nat → List V → H → Option (V × H)) := match P.funcs[f]? with
  | some fn => match fn.body with
    | some c => cond (Nat.ble fn.ntmps 1024) ⟨fun call n args h => cond (Nat.ble args.length fn.ntmps) (Sl.setManyK Sl.new 0 args fun T0 => exitB P fn.results.toList (execF P call fn.ntmps n c none T0 h)) none⟩ ⟨fun _ _ _ _ => none⟩
    | none => ⟨fun _ _ _ _ => none⟩
  | none => ⟨fun _ _ _ _ => none⟩
theorem bodyF_eq (P : Program) (f : FuncId) (call : CallF) (n : Nat) (args : List V) (h : H) : (bodyF P f).val call n args h = funB P call n args h P.funcs[f]? := by
  unfold bodyF funB
  cases P.funcs[f]? with
  | none => rfl
  | some fn =>
    simp only
    unfold bodyB
    cases fn.body with
    | none => rfl
    | some c =>
      simp only
      cases Nat.ble fn.ntmps 1024 with
      | false =>
        simp only [Bool.and_false, cond_false]
      | true =>
        simp only [Bool.and_true, cond_true, execF_eq]
noncomputable def runK (P : Program) (n : Nat) : CallF :=
  Nat.rec (fun _ _ _ => none) (fun n ih f args h => Option.rec ((bodyF P f).use fun F => F ih n args h) (fun v => some (v, h)) (h.kn.call f args)) n
theorem runK_eq (P : Program) (n : Nat) : runK P n = runF P n := by
  induction n with
  | zero => rfl
  | succ n ih =>
    funext f args h
    show (Option.rec ((bodyF P f).val (runK P n) n args h) (fun v => some (v, h)) (h.kn.call f args) : Option (V × H)) = knownB h (funB P (runF P n) n args h P.funcs[f]?) (h.kn.call f args)
    rw [ih, bodyF_eq]
    cases h.kn.call f args <;> rfl
end Go.Ai
