/-
Heaps that go on from one another; regions that draw their order, item by item; slices that grow; quotients.
-/
import Derived.Test.YtjjlmmebkemlgaaAiWp
set_option linter.unusedVariables false
set_option linter.unusedSimpArgs false
namespace Go.Ai
open Go.RowKit

/-! ### A heap that goes on from another one: what p says stays -/
structure Up (p : Nat → Prop) (h h' : H) : Prop where
  tr : ∀ b, p b → h'.tr.get b = h.tr.get b
  next : h.next ≤ h'.next
  floor : h'.floor = h.floor
  hid : h'.hid = h.hid
  frz : h'.frz = h.frz
  kn : h'.kn = h.kn
theorem Up.refl (p : Nat → Prop) (h : H) : Up p h h := ⟨fun _ _ => rfl, Nat.le_refl _, rfl, rfl, rfl, rfl⟩
theorem Up.trans {p : Nat → Prop} {a b c : H} (h : Up p a b) (k : Up p b c) : Up p a c :=
  ⟨fun x hx => (k.tr x hx).trans (h.tr x hx), Nat.le_trans h.next k.next, k.floor.trans h.floor, k.hid.trans h.hid, k.frz.trans h.frz, k.kn.trans h.kn⟩
theorem Up.mono {p q : Nat → Prop} {h h' : H} (k : Up p h h') (hq : ∀ b, q b → p b) : Up q h h' := ⟨fun b hb => k.tr b (hq b hb), k.next, k.floor, k.hid, k.frz, k.kn⟩
theorem Up.alloc {p : Nat → Prop} {h : H} {o : O} (hp : ∀ b, p b → b ≠ h.next) : Up p h (h.alloc o) :=
  ⟨fun b hb => by show (h.tr.set h.next o).get b = _; rw [T.get_set, if_neg (hp b hb)], Nat.le_succ _, rfl, rfl, rfl, rfl⟩
theorem Up.put {p : Nat → Prop} {h : H} {c : Nat} {o : O} (hp : ¬ p c) : Up p h (h.put c o) :=
  ⟨fun b hb => by show (h.tr.set c o).get b = _; rw [T.get_set, if_neg (fun e => hp (by rw [← e]; exact hb))], Nat.le_refl _, rfl, rfl, rfl, rfl⟩
theorem Up.kill {p : Nat → Prop} {h : H} {c : Nat} (hp : ¬ p c) : Up p h (h.kill c) :=
  ⟨fun b hb => by show (h.tr.upd c none).get b = _; rw [T.get_upd, if_neg (fun e => hp (by rw [← e]; exact hb))], Nat.le_refl _, rfl, rfl, rfl, rfl⟩
theorem Up.get {p : Nat → Prop} {h h' : H} (k : Up p h h') {b : Nat} (hb : p b) : h'.get b = h.get b := by
  show cond (hidden h'.hid b) none (h'.tr.get b) = cond (hidden h.hid b) none (h.tr.get b)
  rw [k.hid, k.tr b hb]
theorem Up.cells {p : Nat → Prop} {h h' : H} (k : Up p h h') {b e : Nat} {xs : List S} (hb : p b) (hc : Cells h b e xs) : Cells h' b e xs := hc.get (k.get hb)
theorem Up.row {p : Nat → Prop} {h h' : H} (k : Up p h h') {b o n : Nat} (hb : p b) : h'.row b o n = h.row b o n := by unfold H.row; rw [k.get hb]
theorem Up.may {p : Nat → Prop} {h h' : H} (k : Up p h h') {b : Nat} : h'.may b = h.may b := by simp only [H.may, k.floor, k.hid, k.frz]
/-- Nothing above is hidden. -/
structure Ok (h : H) : Prop where
  hid : ∀ b, h.next ≤ b → hidden h.hid b = false
  frz : ∀ b, h.next ≤ b → hidden h.frz b = false
  floor : h.floor ≤ h.next
theorem Up.ok {p : Nat → Prop} {h h' : H} (k : Up p h h') (o : Ok h) : Ok h' :=
  ⟨fun b hb => by rw [k.hid]; exact o.hid b (Nat.le_trans k.next hb), fun b hb => by rw [k.frz]; exact o.frz b (Nat.le_trans k.next hb), by rw [k.floor]; exact Nat.le_trans o.floor k.next⟩
theorem Ok.top {h : H} (o : Ok h) : hidden h.hid h.next = false := o.hid _ (Nat.le_refl _)
theorem Ok.mayNew {h h' : H} (o : Ok h) {p : Nat → Prop} (k : Up p h h') {b : Nat} (hb : h.next ≤ b) : h'.may b = true :=
  H.may_of (by rw [k.floor]; exact Nat.le_trans o.floor hb) (by rw [k.hid]; exact o.hid b hb) (by rw [k.frz]; exact o.frz b hb)

/-! ### Cut off, and back -/
noncomputable def H.back (h h1 : H) : H := { tr := h1.tr, next := h1.next, floor := h.floor, hid := h.hid, frz := h.frz, kn := h.kn }
theorem back_fenced {h : H} {l z : List (Nat × Nat)} {f : Nat} : h.back (h.fenced l z f) = h := rfl
theorem fenced_next {h : H} {l z : List (Nat × Nat)} {f : Nat} : (h.fenced l z f).next = h.next := rfl
theorem back_put {h h1 : H} {b : Nat} {o : O} : h.back (h1.put b o) = (h.back h1).put b o := rfl
theorem back_alloc {h h1 : H} {o : O} : h.back (h1.alloc o) = (h.back h1).alloc o := rfl
theorem back_kill {h h1 : H} {b : Nat} : h.back (h1.kill b) = (h.back h1).kill b := rfl
theorem Up.back {p : Nat → Prop} {h h1 : H} {l z : List (Nat × Nat)} {f : Nat} (k : Up p (h.fenced l z f) h1) : Up p h (h.back h1) := ⟨k.tr, k.next, rfl, rfl, rfl, rfl⟩
/-- Ranges that b lies in none of. -/
def Off (l : List (Nat × Nat)) (b : Nat) : Prop := hidden l b = false
theorem Off.nil {b : Nat} : Off [] b := rfl
theorem Off.cons {l : List (Nat × Nat)} {lo hi b : Nat} (h : b < lo ∨ hi ≤ b) (k : Off l b) : Off ((lo, hi) :: l) b := by
  show ((Nat.ble lo b && Nat.blt b hi) || hidden l b) = false
  rw [show hidden l b = false from k]
  rcases h with h | h
  · have : Nat.ble lo b = false := by
      cases e : Nat.ble lo b with
      | false => rfl
      | true => have := Nat.le_of_ble_eq_true e; omega
    rw [this]; rfl
  · rw [blt_false (by omega)]; simp
theorem Off.seen {m i lo hi b : Nat} {r : List (Nat × Nat × Nat)} (hm : Nat.testBit m i = true) (k : Off (unseen m r) b) : Off (unseen m ((i, lo, hi) :: r)) b := by
  show hidden (cond (Nat.testBit m i) (unseen m r) ((lo, hi) :: unseen m r)) b = false
  rw [hm]; exact k
theorem Off.off {m i lo hi b : Nat} {r : List (Nat × Nat × Nat)} (h : b < lo ∨ hi ≤ b) (k : Off (unseen m r) b) : Off (unseen m ((i, lo, hi) :: r)) b := by
  show hidden (cond (Nat.testBit m i) (unseen m r) ((lo, hi) :: unseen m r)) b = false
  cases Nat.testBit m i with
  | true => exact k
  | false => exact Off.cons h k
theorem fenced_get {h : H} {l z : List (Nat × Nat)} {f b : Nat} (hl : Off l b) : (h.fenced l z f).get b = h.get b := by
  show cond (hidden (l ++ h.hid) b) none (h.tr.get b) = _
  rw [hidden_append, show hidden l b = false from hl]; rfl
theorem fenced_row {h : H} {l z : List (Nat × Nat)} {f b o n : Nat} (hl : Off l b) : (h.fenced l z f).row b o n = h.row b o n := by unfold H.row; rw [fenced_get hl]
theorem Cells.fenced {h : H} {l z : List (Nat × Nat)} {f b e : Nat} {xs : List S} (hc : Cells h b e xs) (hl : Off l b) : Cells (h.fenced l z f) b e xs := hc.get (fenced_get hl)
theorem fenced_may {h : H} {l z : List (Nat × Nat)} {f b : Nat} (hl : Off l b) (hz : Off z b) (hf : f ≤ b) (hm : h.may b = true) : (h.fenced l z f).may b = true := by
  obtain ⟨⟨_, h1⟩, h2⟩ := H.may_iff hm
  refine H.may_of hf ?_ ?_
  · show hidden (l ++ h.hid) b = false
    rw [hidden_append, show hidden l b = false from hl, h2]; rfl
  · show hidden (z ++ h.frz) b = false
    rw [hidden_append, show hidden z b = false from hz, h1]; rfl
theorem Ok.fenced {h : H} (o : Ok h) {l z : List (Nat × Nat)} {f : Nat} (hl : ∀ b, h.next ≤ b → Off l b) (hz : ∀ b, h.next ≤ b → Off z b) (hf : f ≤ h.next) : Ok (h.fenced l z f) :=
  ⟨fun b hb => by
    show hidden (l ++ h.hid) b = false
    rw [hidden_append, show hidden l b = false from hl b hb, o.hid b hb]; rfl, fun b hb => by
    show hidden (z ++ h.frz) b = false
    rw [hidden_append, show hidden z b = false from hz b hb, o.frz b hb]; rfl, hf⟩

/-! ### Regions that draw, item by item: by numbers -/
def toldBy (ops : Array Oper) (ix : List (Nat × Nat × Bool)) : List (It × Bool) := ix.map fun p => (⟨p.1, p.2.1, ops.toList.getD p.1 default⟩, p.2.2)
section
variable {P : Program} {spec : CallF} {nt : Nat} {T : Sl} {h : H} {ops : Array Oper} {rg ld : List (Nat × Nat × Nat)} {K : Sl → H → Prop} {Q : Ex → Sl → H → Prop}
def WI (P : Program) (spec : CallF) (nt : Nat) (ops : Array Oper) (ix : List (Nat × Nat × Bool)) (T : Sl) (h : H) (rg ld : List (Nat × Nat × Nat)) (K : Sl → H → Prop) : Prop := WD P spec nt ops.toList (toldBy ops ix) ⟨T, h, rg, ld⟩ K
theorem W_drawn {id : Nat} (ix : List (Nat × Nat × Bool)) (ht : told ops = some (toldBy ops ix)) (hf : h.floor ≤ h.next) (hw : WI P spec nt ops ix T h [] [] (Q .normal)) : W P spec nt (.region id ops true) T h Q := W_draw ht hf hw
theorem WI_nil (hk : K T h) : WI P spec nt ops [] T h rg ld K := ⟨0, _, fun _ _ => rfl, hk⟩
theorem WI_step {i m : Nat} {bar : Bool} {ix : List (Nat × Nat × Bool)} {o : Oper} (ho : ops.toList[i]? = some o) {T1 : Sl} {h1 : H} {rg1 ld1 : List (Nat × Nat × Nat)}
    (hs : ∃ n0, ∀ k, n0 ≤ k → itemStep P (runG P spec k) nt ops.toList ⟨i, m, o⟩ bar ⟨T, h, rg, ld⟩ = some ⟨T1, h1, rg1, ld1⟩) (hk : WI P spec nt ops ix T1 h1 rg1 ld1 K) : WI P spec nt ops ((i, m, bar) :: ix) T h rg ld K := by
  obtain ⟨n0, hs⟩ := hs
  obtain ⟨n1, s1, h2, h3⟩ := hk
  refine ⟨max n0 n1, s1, fun k hk => ?_, h3⟩
  have e : ops.toList.getD i default = o := by rw [List.getD_eq_getElem?_getD, ho]; rfl
  show (match itemStep P _ nt ops.toList ⟨i, m, ops.toList.getD i default⟩ bar ⟨T, h, rg, ld⟩ with
    | some s1 => drawAll P _ nt ops.toList (toldBy ops ix) s1
    | none => none) = _
  rw [e, hs k (by omega)]
  exact h2 k (by omega)
theorem WI_quiet {i m : Nat} {bar : Bool} {ix : List (Nat × Nat × Bool)} {o : Oper} (ho : ops.toList[i]? = some o) (hw : wantB ops.toList T o = some true) (hc : cls o.op = .quiet) {v : V} {h1 : H} (hx : execO P T h.emptied o = some (.val v h1)) (hn : h1.next = h.next) {T1 : Sl} (hp : putT nt T o.dst v = some T1) (hk : WI P spec nt ops ix T1 h rg ld K) : WI P spec nt ops ((i, m, bar) :: ix) T h rg ld K := by
  refine WI_step ho ⟨0, fun k _ => ?_⟩ hk
  unfold itemStep
  rw [hw]
  simp only
  unfold itemDo It.c
  rw [hc]
  simp only
  unfold quietDo
  simp only
  rw [hx]
  simp only
  rw [hn, beq_self, cond_true]
  unfold putS
  rw [hp]
theorem WI_not {i m : Nat} {bar : Bool} {ix : List (Nat × Nat × Bool)} {o : Oper} (ho : ops.toList[i]? = some o) (hw : wantB ops.toList T o = some false) {T1 : Sl} (hp : putT nt T o.dst (.tup []) = some T1) (hk : WI P spec nt ops ix T1 h rg ld K) : WI P spec nt ops ((i, m, bar) :: ix) T h rg ld K := by
  refine WI_step ho ⟨0, fun k _ => ?_⟩ hk
  unfold itemStep
  rw [hw]
  simp only
  unfold putS
  rw [hp]
theorem WI_alloc {i m : Nat} {bar : Bool} {ix : List (Nat × Nat × Bool)} {o : Oper} (ho : ops.toList[i]? = some o) (hw : wantB ops.toList T o = some true) (hc : cls o.op = .alloc) {v : V} {x : O} (hx : execO P T h.emptied o = some (.val v (h.emptied.alloc x))) {T1 : Sl} (hp : putT nt T o.dst v = some T1) (hk : WI P spec nt ops ix T1 (h.alloc x) ((i, h.next, h.next + 1) :: rg) ld K) : WI P spec nt ops ((i, m, bar) :: ix) T h rg ld K := by
  refine WI_step ho ⟨0, fun k _ => ?_⟩ hk
  unfold itemStep
  rw [hw]
  simp only
  unfold itemDo It.c
  rw [hc]
  simp only
  unfold allocDo
  simp only
  rw [hx]
  simp only
  have e : (h.emptied.alloc x).tr.get h.next = some x := by
    show (Go.Ai.T.set .e h.next x).get h.next = _
    rw [Go.Ai.T.get_set, if_pos rfl]
  rw [e]
  simp only
  rw [show Nat.beq (h.emptied.alloc x).next (h.next + 1) = true from beq_self _, cond_true, H.allocK_eq]
  unfold putS
  rw [hp]
theorem doLoad_only {t b o : Nat} {v : V} (hx : doLoad P h t (some (.one (.p b o))) = some (.val v h)) : ∃ x, h.get b = some x ∧ doLoad P (h.only b x) t (some (.one (.p b o))) = some (.val v (h.only b x)) := by
  have hrow : ∀ x, h.get b = some x → ∀ o n, (h.only b x).row b o n = h.row b o n := by
    intro x hx o n
    have e : (h.only b x).get b = some x := by
      show (Go.Ai.T.set .e b x).get b = _
      rw [Go.Ai.T.get_set, if_pos rfl]
    unfold H.row
    rw [e, hx]
  have hget : ∀ {n : Nat} {xs : List S}, h.row b o n = some xs → ∃ x, h.get b = some x := by
    intro n xs hr
    unfold H.row at hr
    split at hr
    · rename_i x hx; exact ⟨x, hx⟩
    · cases hr
  unfold doLoad at hx
  simp only at hx
  split at hx
  · rename_i n ha hs
    split at hx
    · rename_i xs hr
      cases hx
      obtain ⟨x, hx⟩ := hget hr
      exact ⟨x, hx, ld_agg (n := n) (by unfold kindAt; rw [ha, hs]) (by rw [hrow x hx]; exact hr)⟩
    · cases hx
  · rename_i n ha hs
    split at hx
    · rename_i y hr
      cases hx
      obtain ⟨x, hx⟩ := hget hr
      exact ⟨x, hx, ld_one (n := n) (by unfold kindAt; rw [ha, hs]) (by rw [hrow x hx]; exact hr)⟩
    · cases hx
  · cases hx
theorem WI_load {i m : Nat} {bar : Bool} {ix : List (Nat × Nat × Bool)} {d : Option Tmp} {t ty : TypeId} {a : Operand} {ps : String} {af : Array Edge} {g : Option (Nat × Bool)} (ho : ops.toList[i]? = some ⟨d, .load t a, ty, ps, af, g⟩) (hw : wantB ops.toList T ⟨d, .load t a, ty, ps, af, g⟩ = some true) {b o : Nat} (ha : ev T a = some (.one (.p b o))) {v : V} (hx : doLoad P h t (some (.one (.p b o))) = some (.val v h)) (hl : Off (unseen m rg) b) {T1 : Sl} (hp : putT nt T d v = some T1) (hk : WI P spec nt ops ix T1 h rg ((i, b, b + 1) :: ld) K) : WI P spec nt ops ((i, m, bar) :: ix) T h rg ld K := by
  refine WI_step ho ⟨0, fun k _ => ?_⟩ hk
  obtain ⟨x, hx1, hx2⟩ := doLoad_only hx
  unfold itemStep
  rw [hw]
  simp only
  unfold itemDo It.c
  rw [show cls (Op.load t a) = .load from rfl]
  simp only
  unfold loadDo
  simp only
  rw [show loadAtB T (Op.load t a) = some b by unfold loadAtB; simp only [ha]; rfl]
  simp only
  rw [fenced_get hl, hx1]
  simp only
  rw [show execO P T (h.only b x) ⟨d, .load t a, ty, ps, af, g⟩ = doLoad P (h.only b x) t (ev T a) from rfl, ha, hx2]
  simp only
  rw [show Nat.beq (h.only b x).next h.next = true from beq_self _, cond_true]
  unfold putS
  simp only
  rw [hp]
theorem WI_loud {i m : Nat} {bar : Bool} {ix : List (Nat × Nat × Bool)} {o : Oper} (ho : ops.toList[i]? = some o) (hw : wantB ops.toList T o = some true) (hc : cls o.op = .loud)
    (hx : WX P spec T (h.fenced (unseen m rg) (cond bar (unseen m ld) []) (cond bar h.floor h.next)) o fun v h1 => ∃ T1, putT nt T o.dst v = some T1 ∧ WI P spec nt ops ix T1 (h.back h1) ((i, h.next, h1.next) :: rg) ld K) : WI P spec nt ops ((i, m, bar) :: ix) T h rg ld K := by
  obtain ⟨n0, v, h1, h2, T1, hp, hk⟩ := hx
  refine WI_step ho ⟨n0, fun k hk => ?_⟩ hk
  unfold itemStep
  rw [hw]
  simp only
  unfold itemDo It.c
  rw [hc]
  simp only
  unfold loudDo
  simp only
  rw [h2 k hk]
  simp only
  unfold putS
  simp only
  rw [hp]; rfl
end

/-! ### Quotients -/
section
variable {P : Program} {T : Sl} {h : H} {d : Option Tmp} {ty : TypeId} {ps : String} {af : Array Edge} {g : Option (Nat × Bool)}
theorem ex_quo {t t' : TypeId} {x y : Operand} {a c : Int} (hx : ev T x = some (.one (.i .i64 a))) (hy : ev T y = some (.one (.i .i64 c))) (hc : c ≠ 0) : execO P T h ⟨d, .binOp .quo t x y t', ty, ps, af, g⟩ = some (.val (.one (.i .i64 (IntKind.i64.wrap (a.tdiv c)))) h) := by
  refine ex_pure (v := .int .i64 (IntKind.i64.wrap (a.tdiv c))) ?_ ?_ ?_ rfl
  · show orPure P T h _ (doBin P h .quo t (ev T x) (ev T y)) = _
    rw [hx, hy]; rfl
  · show allConc T [x, y] = true
    simp only [allConc, evc, hx, hy]; rfl
  · have hp : ∀ ρ : Operand → Value, ρ x = .int .i64 a → ρ y = .int .i64 c → prun P (execOp ρ ⟨d, .binOp .quo t x y t', ty, ps, af, g⟩) = some (.value (.int .i64 (IntKind.i64.wrap (a.tdiv c)))) := by
      intro ρ h1 h2
      simp [execOp, h1, h2, binOp, eqGuard, Op.intDiv, hc, Bind.bind, Pure.pure, Sem.bind, prun]
    exact hp _ (by simp only [evc, hx]; rfl) (by simp only [evc, hy]; rfl)
theorem ex_neg {t : TypeId} {x : Operand} {a : Int} (hx : ev T x = some (.one (.i .i64 a))) : execO P T h ⟨d, .unOp .neg t x, ty, ps, af, g⟩ = some (.val (.one (.i .i64 (IntKind.i64.wrap (-a)))) h) := by
  refine ex_pure (v := .int .i64 (IntKind.i64.wrap (-a))) ?_ ?_ ?_ rfl
  · show orPure P T h _ (doUn h .neg (ev T x)) = _
    rw [hx]; rfl
  · show allConc T [x] = true
    simp only [allConc, evc, hx]; rfl
  · have hp : ∀ ρ : Operand → Value, ρ x = .int .i64 a → prun P (execOp ρ ⟨d, .unOp .neg t x, ty, ps, af, g⟩) = some (.value (.int .i64 (IntKind.i64.wrap (-a)))) := by
      intro ρ h1
      simp [execOp, h1, Op.unary, Op.intArith, Bind.bind, Pure.pure, Sem.bind, prun]
    exact hp _ (by simp only [evc, hx]; rfl)
theorem ex_rem {t t' : TypeId} {x y : Operand} {a c : Int} (hx : ev T x = some (.one (.i .i64 a))) (hy : ev T y = some (.one (.i .i64 c))) (hc : c ≠ 0) : execO P T h ⟨d, .binOp .rem t x y t', ty, ps, af, g⟩ = some (.val (.one (.i .i64 (a.tmod c))) h) := by
  refine ex_pure (v := .int .i64 (a.tmod c)) ?_ ?_ ?_ rfl
  · show orPure P T h _ (doBin P h .rem t (ev T x) (ev T y)) = _
    rw [hx, hy]; rfl
  · show allConc T [x, y] = true
    simp only [allConc, evc, hx, hy]; rfl
  · have hp : ∀ ρ : Operand → Value, ρ x = .int .i64 a → ρ y = .int .i64 c → prun P (execOp ρ ⟨d, .binOp .rem t x y t', ty, ps, af, g⟩) = some (.value (.int .i64 (a.tmod c))) := by
      intro ρ h1 h2
      simp [execOp, h1, h2, binOp, eqGuard, Op.intDiv, hc, Bind.bind, Pure.pure, Sem.bind, prun]
    exact hp _ (by simp only [evc, hx]; rfl) (by simp only [evc, hy]; rfl)
theorem ex_toU {s e : TypeId} {x : Operand} {a : Int} (hs : P.underlying s = some (.int .i64)) (he : P.underlying e = some (.int .u64)) (hx : ev T x = some (.one (.i .i64 a))) : execO P T h ⟨d, .convert s e x, ty, ps, af, g⟩ = some (.val (.one (.i .u64 (IntKind.u64.wrap a))) h) := by
  refine ex_pure (v := .int .u64 (IntKind.u64.wrap a)) ?_ ?_ ?_ rfl
  · show orPure P T h _ (doConv P h s e (ev T x)) = _
    rw [hx]
    have : doConv P h s e (some (.one (.i .i64 a))) = none := by
      show cond (intT P s && intT P e) _ none = none
      have : intT P e = false := by unfold intT; rw [he]
      rw [this, Bool.and_false]; rfl
    rw [this]
  · show allConc T [x] = true
    simp only [allConc, evc, hx]; rfl
  · have hp : ∀ ρ : Operand → Value, ρ x = .int .i64 a → prun P (execOp ρ ⟨d, .convert s e x, ty, ps, af, g⟩) = some (.value (.int .u64 (IntKind.u64.wrap a))) := by
      intro ρ h1
      simp [execOp, h1, convert, underlying, program, hs, he, Conv.intToInt, Bind.bind, Pure.pure, Sem.bind, prun]
    exact hp _ (by simp only [evc, hx]; rfl)
theorem ex_toI {s e : TypeId} {x : Operand} {a : Int} (hs : P.underlying s = some (.int .u64)) (he : P.underlying e = some (.int .i64)) (hx : ev T x = some (.one (.i .u64 a))) : execO P T h ⟨d, .convert s e x, ty, ps, af, g⟩ = some (.val (.one (.i .i64 (IntKind.i64.wrap a))) h) := by
  refine ex_pure (v := .int .i64 (IntKind.i64.wrap a)) ?_ ?_ ?_ rfl
  · show orPure P T h _ (doConv P h s e (ev T x)) = _
    rw [hx]; rfl
  · show allConc T [x] = true
    simp only [allConc, evc, hx]; rfl
  · have hp : ∀ ρ : Operand → Value, ρ x = .int .u64 a → prun P (execOp ρ ⟨d, .convert s e x, ty, ps, af, g⟩) = some (.value (.int .i64 (IntKind.i64.wrap a))) := by
      intro ρ h1
      simp [execOp, h1, convert, underlying, program, hs, he, Conv.intToInt, Bind.bind, Pure.pure, Sem.bind, prun]
    exact hp _ (by simp only [evc, hx]; rfl)
theorem ex_half {t t' : TypeId} {x : Operand} {a : Int} (hx : ev T x = some (.one (.i .u64 a))) : execO P T h ⟨d, .binOp .shr t x (.const (.int .u64 1)) t', ty, ps, af, g⟩ = some (.val (.one (.i .u64 (a / 2))) h) := by
  refine ex_pure (v := .int .u64 (a / 2)) ?_ ?_ ?_ rfl
  · show orPure P T h _ (doBin P h .shr t (ev T x) (some (.one (.i .u64 1)))) = _
    rw [hx]; rfl
  · show allConc T [x, .const (.int .u64 1)] = true
    simp only [allConc, evc, hx]; rfl
  · have hp : ∀ ρ : Operand → Value, ρ x = .int .u64 a → ρ (.const (.int .u64 1)) = .int .u64 1 → prun P (execOp ρ ⟨d, .binOp .shr t x (.const (.int .u64 1)) t', ty, ps, af, g⟩) = some (.value (.int .u64 (a / 2))) := by
      intro ρ h1 h2
      have e : a.fdiv 2 = a / 2 := Int.fdiv_eq_ediv_of_nonneg _ (by omega)
      simp [execOp, h1, h2, binOp, eqGuard, Op.shift, IntKind.bits, Bind.bind, Pure.pure, Sem.bind, prun, e]
    exact hp _ (by simp only [evc, hx]; rfl) rfl
end
end Go.Ai
