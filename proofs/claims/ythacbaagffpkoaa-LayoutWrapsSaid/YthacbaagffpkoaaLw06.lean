/-
LayoutWraps, part 6 of 48: AiOps4.
-/
import Derived.IntWalk
import Derived.Test.YthacbaagffpkoaaLw05
set_option linter.unusedVariables false
set_option linter.unusedSimpArgs false
namespace Go.Ai
section
variable {P : Program} {ι : Inj} {h : H} {w : World}
theorem eqI_eq (x y : Int) : eqI x y = decide (x = y) := by
 cases x <;> cases y <;> simp only [eqI] <;> rw [Bool.eq_iff_iff] <;> simp <;> omega
theorem ltI_eq (x y : Int) : ltI x y = decide (x < y) := by
 cases x <;> cases y <;> simp only [ltI] <;> rw [Bool.eq_iff_iff] <;> simp [Nat.blt_eq] <;> omega
theorem zI {n : Int} (h1 : -9223372036854775808 ≤ n) (h2 : n < 9223372036854775808) : IntKind.i64.wrap n = n := IntWalk.i64_in n ⟨h1, by omega⟩
theorem lim63_eq : lim63 = 9223372036854775808 := rfl
theorem wrapI_eq (x : Int) : wrapI x = IntKind.i64.wrap x := by
 cases x with
 | ofNat a =>
  show cond (Nat.blt a lim63) (.ofNat a) (IntKind.i64.wrap (.ofNat a)) = _
  cases hb : Nat.blt a lim63 with
  | false => rw [cond_false]
  | true =>
   have h2 : a < lim63 := by rw [Nat.blt_eq] at hb; exact hb
   rw [lim63_eq] at h2;rw [cond_true, zI (by have := Int.natCast_nonneg a; simp only [Int.ofNat_eq_natCast]; omega) (by simp only [Int.ofNat_eq_natCast]; omega)]
 | negSucc a =>
  show cond (Nat.blt a lim63) (.negSucc a) (IntKind.i64.wrap (.negSucc a)) = _
  cases hb : Nat.blt a lim63 with
  | false => rw [cond_false]
  | true =>
   have h2 : a < lim63 := by rw [Nat.blt_eq] at hb; exact hb
   rw [lim63_eq] at h2;rw [cond_true, zI (by rw [Int.negSucc_eq]; omega) (by rw [Int.negSucc_eq]; omega)]
theorem numR_eq (x : Int) : numR h x = some (.val (.one (.i .i64 (IntKind.i64.wrap x))) h) := by
 unfold numR; rw [forceI_eq, wrapI_eq]
theorem boolR_eq (x : Bool) : boolR h x = some (.val (.one (.b x)) h) := by cases x <;> rfl
theorem doMakeSlice_sim (k : HR P ι h w) {t : TypeId} {x y : Option V} {u v : Value} {r : R} (hu : ∀ z, x = some z → VR ι z u) (hv : ∀ z, y = some z → VR ι z v) (hx : doMakeSlice P h t x y = some r) : SimV P ι h w r (Instr.makeSlice t u v) := by
 unfold doMakeSlice at hx;split at hx
 ·rename_i len cap;have eu : u = .int .i64 (len : Int) := hu _ rfl;have ev' : v = .int .i64 (cap : Int) := hv _ rfl;subst eu; subst ev';split at hx
  ·rename_i elem hel;split at hx
   ·rename_i i z hi hz
    cases hg : (Nat.ble len cap && Nat.ble (cap * i.bytes) 1099511627776 && Nat.ble cap 1099511627776 && Nat.beq z.cells.length i.size && Nat.blt 0 i.size) with
    | false => rw [hg] at hx; simp at hx
    | true =>
     rw [hg] at hx;simp only [cond_true, H.rowK_eq, Option.some.injEq] at hx;simp only [Bool.and_eq_true] at hg;obtain ⟨⟨⟨⟨g1, g2⟩, g3⟩, g4⟩, g5⟩ := hg;have g1 := Nat.le_of_ble_eq_true g1;have g2 := Nat.le_of_ble_eq_true g2;have g3 := Nat.le_of_ble_eq_true g3;have g4 := Nat.eq_of_beq_eq_true g4;have g5 : 0 < i.size := by simpa [Nat.blt_eq] using g5
     obtain ⟨zv, hz1, hz2⟩ := run_zero hz;have hzc := (hz2 ι).cells (zeroB_isTup hz);have hlen : cap * i.size = (repeatS z.cells cap).length := by rw [repeatS_length, g4]
     rw [hlen] at hx;subst hx;have hmade := madeZero hzc (by omega) cap;refine ⟨_, _, rfl, _, .slice (some ⟨w.heap.size, 0, none⟩) len cap, _, ?_, ?_, Step.row k (repeatS z.cells cap) _ (all2_arr hmade)⟩
     ·have w1 : IntKind.i64.wrap (len : Int) = len := zI (by omega) (by omega);have w2 : IntKind.i64.wrap (cap : Int) = cap := zI (by omega) (by omega)
      have w3 : (i.bytes : Int) * (cap : Int) ≤ 281474976710656 := by
       have : ((cap * i.bytes : Nat) : Int) ≤ 1099511627776 := by omega
       rw [Int.natCast_mul, Int.mul_comm] at this;omega
      have c1 : ¬ ((cap : Int) < 0) := by omega
      have c2 : ¬ ((i.bytes : Int) * (cap : Int) > 2 ^ 48) := by omega
      have c3 : ¬ ((len : Int) < 0) := by omega
      have c4 : ¬ ((len : Int) > (cap : Int)) := by omega
      have hE : cap * z.cells.length = 0 → ∀ f : Nat → Value, Array.map f (Array.range (cap * z.cells.length)) = #[] := by intro h0 f; rw [h0]; simp
      simp only [Instr.makeSlice, Sem.run_bind, run_und hel, Result.andThen_ok, asInt, asIntOf, Sem.run_pure, run_info hi, w1, w2, c1, c2, c3, c4, sizeOf, Int.toNat_natCast, run_askRoom, Sem.run_map];simp only [decide_false, Bool.or_false, Bool.false_eq_true, if_false, Sem.run_pure, Result.andThen_ok, Sem.run_bind, run_askRoom, Sem.run_ite, run_info hi];rw [← g4]
      by_cases h0 : cap * z.cells.length = 0
      ·simp only [h0, if_true];have := hE h0;rw [h0] at this;simp [newRow, this]
      ·simp only [h0, if_false, hz1, Result.andThen_ok];simp [newRow]
     ·refine ⟨Or.inl rfl, g1, ⟨w.heap.size, 0, none⟩, cap, rfl, by simp [Inj.add], rfl, .inl (by simp [Inj.add]), Nat.le_refl _, fun _ => rfl, ?_⟩;simp only [Inj.add, if_true];simp [g4]
   ·simp at hx
  ·simp at hx
 ·simp at hx
theorem doMakeMap_sim (k : HR P ι h w) {t : TypeId} {r : R} {ρ : Operand → Value} {x : Option Operand} (hx : doMakeMap P h t x = some r) : SimV P ι h w r (Instr.makeMap t (x.map ρ)) := by
 unfold doMakeMap at hx;split at hx
 ·split at hx
  ·rw [forceN_eq, H.allocK_eq] at hx;cases hx;refine ⟨_, _, rfl, _, .map (some w.heap.size), _, ?_, ?_, Step.newObj k (.map []) (.map #[] 0) 0 0 #[] ⟨#[], 0, ?_, .nil⟩⟩
   ·simp [Instr.makeMap]
   ·exact ⟨Or.inl rfl, by simp [Inj.add]⟩
   ·simp only [Inj.add, if_true]; exact heap_alloc_new w _
  ·simp at hx
 ·simp at hx
theorem doMakeFunc_sim (k : HR P ι h w) {T0 : Sl} {a : Act} (kt : TR ι T0 a.tmps) {fn : Fn} {first captured : Array Operand} {r : R} (hx : doMakeFunc T0 h fn first captured = some r) : SimV P ι h w r (Instr.makeFunc fn (first.map a.eval) (captured.map a.eval)) := by
 unfold doMakeFunc at hx;split at hx
 ·cases hg : first.isEmpty with
  | false => rw [hg] at hx; simp at hx
  | true =>
   rw [hg] at hx;simp only [cond_true] at hx;simp only [Array.isEmpty_iff] at hg;subst hg
   cases hc : captured.isEmpty with
   | true =>
    rw [hc] at hx;simp only [cond_true, Option.some.injEq] at hx;subst hx;simp only [Array.isEmpty_iff] at hc;subst hc;exact SimV.same k (v := .one (.fn0 _)) (v' := .func (.func _) #[] #[]) rfl (by simp [Instr.makeFunc])
   | false =>
    rw [hc] at hx;simp only [cond_false] at hx;rename_i ff;split at hx
    ·rename_i vs hvs;rw [forceN_eq, H.allocK_eq] at hx;cases hx
     have h1 : All2 (VR ι) vs (captured.map a.eval).toList := by
      rw [Array.toList_map]; exact evs_rel kt hvs
     exact ⟨_, _, rfl, _, .func (.func ff) #[] (captured.map a.eval), w, by simp [Instr.makeFunc], ⟨Or.inl rfl, by simp [Inj.add]⟩, Step.newGhost k vs _ h1⟩
    ·simp at hx
 ·simp at hx
theorem asI_some {x : Option V} {n : Int} {v : Value} (hv : ∀ z, x = some z → VR ι z v) (hx : asI x = some n) : v = .int .i64 n := by
 unfold asI at hx;split at hx
 ·simp only [Option.some.injEq] at hx; subst hx; exact hv _ rfl
 ·simp at hx
theorem ptrOf_some {x : Option V} {b o : Nat} {v : Value} (hv : ∀ z, x = some z → VR ι z v) (hx : ptrOf x = some (b, o)) : ι.dom b ∧ v = .pointer (some ⟨ι.blk b, ι.sh b + o, none⟩) := by
 unfold ptrOf at hx;split at hx
 ·simp only [Option.some.injEq, Prod.mk.injEq] at hx; obtain ⟨rfl, rfl⟩ := hx; exact hv _ rfl
 ·simp at hx
theorem isP0_true {x : Option V} {v : Value} (hv : ∀ z, x = some z → VR ι z v) (hx : isP0 x = true) : v = .pointer none := by
 unfold isP0 at hx;split at hx
 ·exact hv _ rfl
 ·simp at hx
theorem isSl0_true {x : Option V} {v : Value} (hv : ∀ z, x = some z → VR ι z v) (hx : isSl0 x = true) : v = .slice none 0 0 := by
 unfold isSl0 at hx;split at hx
 ·exact hv _ rfl
 ·simp at hx
theorem isSl_true {x : Option V} {v : Value} (hv : ∀ z, x = some z → VR ι z v) (hx : isSl x = true) : ∃ a n c, v = .slice (some a) n c := by
 unfold isSl at hx;split at hx
 ·obtain ⟨_, _, a, c, rfl, _⟩ := hv _ rfl; exact ⟨a, _, c, rfl⟩
 ·simp at hx
theorem isNat_true {x : Option V} {v : Value} (hv : ∀ z, x = some z → VR ι z v) (hx : isNat x = true) : ∃ n : Nat, v = .int .i64 n := by
 unfold isNat at hx;split at hx
 ·exact hv _ rfl
 ·simp at hx
theorem intOp_sim (k : HR P ι h w) {op : BinOp} {t : TypeId} {x y : Int} {r : R} {X Y : Operand} (hx : intOp h op x y = some r) :
  SimV P ι h w r (do eqGuard op t X Y (.int .i64 x) (.int .i64 y); binOp op t (.int .i64 x) (.int .i64 y)) := by
 unfold intOp at hx;split at hx <;> (try rw [numR_eq] at hx) <;> (try rw [boolR_eq] at hx) <;> (try simp only [eqI_eq, ltI_eq] at hx) <;> (try (simp at hx; done)) <;> cases hx
 all_goals first
  | (refine SimV.same k (v := .one (.i .i64 _)) (v' := .int .i64 _) rfl ?_
     simp [eqGuard, binOp, Op.intArith]; done)
  | (refine SimV.same k (v := .one (.b _)) (v' := .bool _) rfl ?_
     simp [eqGuard, binOp, Op.intCmp]
     try (rw [Bool.eq_iff_iff]; simp; done))
theorem shape_row {g : Nat} {c : Array Value} {e : TypeId} {fr : Nat × Nat} (hg : w.heap[g]? = some (.cells c e fr)) : w.shape? g = some (e, c.size) := by simp [World.shape?, hg]
theorem frozen_row {g j : Nat} {c : Array Value} {e : TypeId} (hg : w.heap[g]? = some (.cells c e (0, 0))) (s : Option Nat) : w.frozen? ⟨g, j, s⟩ = false := by simp [World.frozen?, hg]
theorem run_sameAddr_apart {a b : Addr} {c c' : Array Value} {e e' : TypeId} (ha : w.heap[a.block]? = some (.cells c e (0, 0))) (hb : w.heap[b.block]? = some (.cells c' e' (0, 0))) (hne : a.block ≠ b.block) : (sameAddr a b).run P w = .ok false w := by
 have hne' : (a.block == b.block) = false := by simpa using hne
 obtain ⟨ab, ao, as⟩ := a;obtain ⟨bb, bo, bs⟩ := b;simp only at ha hb hne hne';simp [sameAddr, hne', frozen_row ha, frozen_row hb, noView, viewAt, shape_row ha, shape_row hb, mayBeOne, stringish]
theorem run_sameAddr_one {g o o' : Nat} : (sameAddr ⟨g, o, none⟩ ⟨g, o', none⟩).run P w = .ok (Nat.beq o o') w := by
 simp [sameAddr];rw [Bool.eq_iff_iff];simp
theorem samePtr_rel (k : HR P ι h w) {b o b' o' : Nat} {r : Bool} (hd : ι.dom b) (hd' : ι.dom b') (hx : samePtr h b o b' o' = some r) : (sameAddr ⟨ι.blk b, ι.sh b + o, none⟩ ⟨ι.blk b', ι.sh b' + o', none⟩).run P w = .ok r w := by
 unfold samePtr at hx
 cases hb : Nat.beq b b' with
 | true =>
  rw [hb] at hx;simp only [cond_true, Option.some.injEq] at hx;have := Nat.eq_of_beq_eq_true hb;subst this; subst hx;rw [run_sameAddr_one]
  congr 1
  rw [Bool.eq_iff_iff]; simp
 | false =>
  rw [hb] at hx;simp only [cond_false] at hx;split at hx
  ·rename_i cs1 n1 cs2 n2 h1 h2
   cases ha : roAt cs1 n1 with
   | none => rw [ha] at hx; simp [roSame] at hx
   | some p =>
    cases hb2 : roAt cs2 n2 with
    | none => rw [ha, hb2] at hx; simp [roSame] at hx
    | some p' =>
     obtain ⟨c, s⟩ := p;obtain ⟨c', s'⟩ := p';rw [ha, hb2] at hx;simp only [roSame, Option.some.injEq] at hx; subst hx;obtain ⟨e1, e2, q1, t1, g1⟩ := (k.obj _ _ h1).2.2 c s ha;obtain ⟨e3, e4, q2, t2, g2⟩ := (k.obj _ _ h2).2.2 c' s' hb2;rw [e1, e2, e3, e4]
     cases hcc : Nat.beq c c' with
     | true =>
      have := Nat.eq_of_beq_eq_true hcc;subst this;rw [run_sameAddr_one]; rfl
     | false =>
      refine run_sameAddr_apart (by simpa using g1) (by simpa using g2) fun e => ?_;have e : c = c' := e;subst e; rw [beq_self] at hcc; cases hcc
  ·rename_i cs1 n1 e2 cs2 n2 h1 h2
   cases ha : roAt cs1 n1 with
   | none => rw [ha] at hx; simp [roApart] at hx
   | some p =>
    obtain ⟨c, s⟩ := p;rw [ha] at hx;simp only [roApart, Option.some.injEq] at hx; subst hx;obtain ⟨e1, e2, q1, t1, g1⟩ := (k.obj _ _ h1).2.2 c s ha;obtain ⟨_, c', p2, _⟩ := k.obj _ _ h2;refine run_sameAddr_apart (c := q1) (e := t1) (by rw [e1]; exact g1) (by simpa using p2) fun e => k.inj _ _ _ _ h2 h1 rfl rfl (fun e => ?_) e.symm;subst e;rw [beq_self] at hb; cases hb
  ·rename_i e1 cs1 n1 cs2 n2 h1 h2
   cases ha : roAt cs2 n2 with
   | none => rw [ha] at hx; simp [roApart] at hx
   | some p =>
    obtain ⟨c, s⟩ := p;rw [ha] at hx;simp only [roApart, Option.some.injEq] at hx; subst hx;obtain ⟨e1, e2, q1, t1, g1⟩ := (k.obj _ _ h2).2.2 c s ha;obtain ⟨_, c', p2, _⟩ := k.obj _ _ h1;refine run_sameAddr_apart (c' := q1) (e' := t1) (by simpa using p2) (by rw [e1]; exact g1) (k.inj _ _ _ _ h1 h2 rfl rfl fun e => ?_);subst e;rw [beq_self] at hb; cases hb
  ·rename_i e1 cs1 n1 e2 cs2 n2 h1 h2;cases hx;obtain ⟨_, c, p1, _⟩ := k.obj _ _ h1;obtain ⟨_, c', p2, _⟩ := k.obj _ _ h2;refine run_sameAddr_apart (by simpa using p1) (by simpa using p2) (k.inj _ _ _ _ h1 h2 rfl rfl fun e => ?_);subst e;rw [beq_self] at hb; cases hb
  ·simp at hx
theorem ptrB_some {t : TypeId} (hp : ptrB P t = true) : ∃ e n, P.underlying t = some (.pointer e) ∧ sizeB P e = some (n + 1) := by
 unfold ptrB at hp;split at hp
 ·rename_i e hu;split at hp
  ·rename_i n hs; exact ⟨e, n, hu, hs⟩
  ·simp at hp
 ·simp at hp
theorem run_equal_ptr (k : HR P ι h w) {t : TypeId} {a b : Addr} {r : Bool} (hp : ptrB P t = true) (hs : (sameAddr a b).run P w = .ok r w) (d : Nat) : (Op.equalIn (d + 1) t (.pointer (some a)) (.pointer (some b))).run P w = .ok r w := by
 obtain ⟨e, n, hu, hsz⟩ := ptrB_some hp;simp only [Op.equalIn, Sem.run_bind, run_und hu, Result.andThen_ok, run_size hsz];rw [if_pos (by omega)];exact hs
theorem run_equal_ptr0 {t : TypeId} {a : Addr} (hp : ptrB P t = true) (d : Nat) : (Op.equalIn (d + 1) t (.pointer (some a)) (.pointer none)).run P w = .ok false w ∧ (Op.equalIn (d + 1) t (.pointer none) (.pointer (some a))).run P w = .ok false w := by
 obtain ⟨e, n, hu, hsz⟩ := ptrB_some hp;constructor <;> simp [Op.equalIn, run_und hu]
theorem run_equal_sl0 {t : TypeId} {a : Addr} {n c : Nat} (hp : sliceB P t = true) (d : Nat) : (Op.equalIn (d + 1) t (.slice (some a) n c) (.slice none 0 0)).run P w = .ok false w ∧ (Op.equalIn (d + 1) t (.slice none 0 0) (.slice (some a) n c)).run P w = .ok false w := by
 unfold sliceB at hp;split at hp
 ·rename_i e hu;constructor <;> simp [Op.equalIn, run_und hu]
 ·simp at hp
theorem sameR_sim (k : HR P ι h w) {op : BinOp} {t : TypeId} {u v : Value} {b : Bool} {r : R} {X Y : Operand} (hg : eqGuard op t X Y u v = pure ()) (hb1 : binOp .eql t u v = do pure (.bool (← Op.equal t u v))) (hb2 : binOp .neq t u v = do pure (.bool (!(← Op.equal t u v))))
  (he : (Op.equal t u v).run P w = .ok b w) (hx : sameR h op (some b) = some r) : SimV P ι h w r (do eqGuard op t X Y u v; binOp op t u v) := by
 unfold sameR at hx;rw [hg];cases op <;> simp at hx <;> subst hx
 ·exact SimV.same k (v := .one (.b _)) (v' := .bool b) rfl (by simp [hb1, he])
 ·exact SimV.same k (v := .one (.b _)) (v' := .bool (!b)) rfl (by simp [hb2, he])
theorem addrOp_sim (k : HR P ι h w) {op : BinOp} {t : TypeId} {x y : Option V} {u v : Value} {r : R} {X Y : Operand} (hu : ∀ z, x = some z → VR ι z u) (hv : ∀ z, y = some z → VR ι z v)
  (hp : isPtr x = true ∨ isPtr y = true → ptrB P t = true) (hs : isSl x = true ∨ isSl y = true → sliceB P t = true) (hx : addrOp h op x y = some r) : SimV P ι h w r (do eqGuard op t X Y u v; binOp op t u v) := by
 have ptr_is : ∀ {z : Option V} {bo : Nat × Nat}, ptrOf z = some bo → isPtr z = true := by
  intro z bo hz;unfold ptrOf at hz;split at hz
  ·rfl
  ·simp at hz
 unfold addrOp at hx;split at hx
 ·rename_i b o b' o' h1 h2;obtain ⟨d1, rfl⟩ := ptrOf_some hu h1;obtain ⟨d2, rfl⟩ := ptrOf_some hv h2
  cases hsp : samePtr h b o b' o' with
  | none => rw [hsp] at hx; simp [sameR] at hx
  | some q =>
   rw [hsp] at hx;exact sameR_sim k (by simp [eqGuard]) (by simp [binOp]) (by simp [binOp]) (run_equal_ptr k (hp (.inl (ptr_is h1))) (samePtr_rel k d1 d2 hsp) 9999) hx
 ·rename_i bo h1 h2;obtain ⟨b, o⟩ := bo
  cases hy : isP0 y with
  | false => rw [hy] at hx; simp at hx
  | true =>
   rw [hy] at hx;obtain ⟨d1, rfl⟩ := ptrOf_some hu h1;have e := isP0_true hv hy;subst e;exact sameR_sim k (by simp [eqGuard]) (by simp [binOp]) (by simp [binOp]) (run_equal_ptr0 (hp (.inl (ptr_is h1))) 9999).1 hx
 ·rename_i bo h1 h2;obtain ⟨b, o⟩ := bo
  cases hy : isP0 x with
  | false => rw [hy] at hx; simp at hx
  | true =>
   rw [hy] at hx;obtain ⟨d1, rfl⟩ := ptrOf_some hv h2;have e := isP0_true hu hy;subst e;exact sameR_sim k (by simp [eqGuard]) (by simp [binOp]) (by simp [binOp]) (run_equal_ptr0 (hp (.inr (ptr_is h2))) 9999).2 hx
 ·cases hsl : ((isSl x && isSl0 y) || (isSl0 x && isSl y)) with
  | true =>
   rw [hsl] at hx;simp only [cond_true] at hx;simp only [Bool.or_eq_true, Bool.and_eq_true] at hsl;rcases hsl with ⟨s1, s2⟩ | ⟨s1, s2⟩
   ·obtain ⟨a, n, c, rfl⟩ := isSl_true hu s1;have e := isSl0_true hv s2;subst e;exact sameR_sim k (by simp [eqGuard]) (by simp [binOp]) (by simp [binOp]) (run_equal_sl0 (hs (.inl s1)) 9999).1 hx
   ·obtain ⟨a, n, c, rfl⟩ := isSl_true hv s2;have e := isSl0_true hu s1;subst e;exact sameR_sim k (by simp [eqGuard]) (by simp [binOp]) (by simp [binOp]) (run_equal_sl0 (hs (.inr s2)) 9999).2 hx
  | false =>
   rw [hsl] at hx;simp only [cond_false] at hx
   cases hn : isNat x with
   | false => rw [hn] at hx; simp at hx
   | true =>
    rw [hn] at hx;simp only [Bool.true_and] at hx;split at hx
    ·rename_i hz;simp only [cond_true] at hx;split at hx
     ·cases hx;obtain ⟨n, rfl⟩ := isNat_true hu hn;have e := asI_some hv hz;subst e;exact SimV.same k (v := .one (.b true)) (v' := .bool true) rfl (by simp [eqGuard, binOp, Op.intCmp])
     ·simp at hx
    ·simp at hx
theorem doBin_sim (k : HR P ι h w) {op : BinOp} {t : TypeId} {x y : Option V} {u v : Value} {r : R} {X Y : Operand} (hu : ∀ z, x = some z → VR ι z u) (hv : ∀ z, y = some z → VR ι z v) (hx : doBin P h op t x y = some r) :
  SimV P ι h w r (do eqGuard op t X Y u v; binOp op t u v) := by
 unfold doBin at hx
 cases hg : (((isPtr x || isPtr y) && !ptrB P t) || ((isSl x || isSl y) && !sliceB P t)) with
 | true => rw [hg] at hx; simp at hx
 | false =>
  rw [hg] at hx;simp only [cond_false] at hx;simp only [Bool.or_eq_false_iff, Bool.and_eq_false_iff, Bool.not_eq_false'] at hg;unfold binOpS at hx;split at hx
  ·rename_i a b h1 h2;rw [asI_some hu h1, asI_some hv h2];exact intOp_sim k hx
  ·refine addrOp_sim k hu hv ?_ ?_ hx
   ·rintro (e | e)
    ·rcases hg.1 with q | q
     ·rw [e] at q; simp at q
     ·exact q
    ·rcases hg.1 with q | q
     ·rw [e] at q; simp at q
     ·exact q
   ·rintro (e | e)
    ·rcases hg.2 with q | q
     ·rw [e] at q; simp at q
     ·exact q
    ·rcases hg.2 with q | q
     ·rw [e] at q; simp at q
     ·exact q
end
end Go.Ai
