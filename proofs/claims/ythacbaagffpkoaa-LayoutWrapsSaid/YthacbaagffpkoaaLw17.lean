/-
LayoutWraps, part 17 of 48: AiWp AiWd.
-/
import Derived.Test.YthacbaagffpkoaaLw16
set_option linter.unusedVariables false
set_option linter.unusedSimpArgs false
namespace Go.Ai
open Go.RowKit
section
variable {P : Program} {spec : CallF} {nt : Nat} {T : Sl} {h : H}
section
variable {d : Option Tmp} {ty : TypeId} {ps : String} {af : Array Edge} {g : Option (Nat × Bool)}
theorem ex_move {x : Operand} : execO P T h ⟨d, .move x, ty, ps, af, g⟩ = doMove h (ev T x) := rfl
theorem ex_assign {x : Operand} : execO P T h ⟨d, .assign x, ty, ps, af, g⟩ = doMove h (ev T x) := rfl
theorem ex_pick {c a b : Operand} : execO P T h ⟨d, .pick c a b, ty, ps, af, g⟩ = doPick T h a b (ev T c) := rfl
theorem ex_alloc {e : TypeId} : execO P T h ⟨d, .alloc e, ty, ps, af, g⟩ = doAlloc P h e := rfl
theorem ex_box {e : TypeId} {x : Operand} : execO P T h ⟨d, .box e x, ty, ps, af, g⟩ = doBox P h e (ev T x) := rfl
theorem ex_build {t : TypeId} {q : Array (Nat × Operand)} : execO P T h ⟨d, .build t q, ty, ps, af, g⟩ = doBuild P T h t q := rfl
theorem ex_buildSlice {t : TypeId} {n : Nat} {q : Array (Nat × Operand)} : execO P T h ⟨d, .buildSlice t n q, ty, ps, af, g⟩ = doBuildSlice P T h t n q := rfl
theorem ex_load {t : TypeId} {a : Operand} : execO P T h ⟨d, .load t a, ty, ps, af, g⟩ = doLoad P h t (ev T a) := rfl
theorem ex_store {t : TypeId} {a x : Operand} : execO P T h ⟨d, .store t a x, ty, ps, af, g⟩ = doStore P h t (ev T a) (ev T x) := rfl
theorem ex_nilCheck {x : Operand} : execO P T h ⟨d, .nilCheck x, ty, ps, af, g⟩ = doNilCheck h (ev T x) := rfl
theorem ex_fieldAddr {s : TypeId} {x : Operand} {f : Nat} : execO P T h ⟨d, .fieldAddr s x f, ty, ps, af, g⟩ = doFieldAddr P h s f (ev T x) := rfl
theorem ex_indexAddr {t : TypeId} {x i : Operand} : execO P T h ⟨d, .indexAddr t x i, ty, ps, af, g⟩ = doIndexW P h t (ev T x) (ev T i) := rfl
theorem ex_field {t : TypeId} {x : Operand} {f : Nat} : execO P T h ⟨d, .field t x f, ty, ps, af, g⟩ = doField P h t f (ev T x) := rfl
theorem ex_extract {t : Operand} {i : Nat} : execO P T h ⟨d, .extract t i, ty, ps, af, g⟩ = doExtract h i (ev T t) := rfl
theorem ex_makeSlice {t : TypeId} {l c : Operand} : execO P T h ⟨d, .makeSlice t l c, ty, ps, af, g⟩ = doMakeSlice P h t (ev T l) (ev T c) := rfl
theorem ex_lookup {t : TypeId} {x k : Operand} {ok : Bool} : execO P T h ⟨d, .lookup t x k ok, ty, ps, af, g⟩ = doLookup P h t ok (ev T x) (ev T k) := rfl
theorem ex_mapUpdate {t : TypeId} {m k x : Operand} : execO P T h ⟨d, .mapUpdate t m k x, ty, ps, af, g⟩ = doMapUpdate P h t (ev T m) (ev T k) (ev T x) := rfl
theorem zB {op : BinOp} {t t' : TypeId} {x y : Operand} {a b : Int} {r : R} (hx : ev T x = some (.one (.i .i64 a))) (hy : ev T y = some (.one (.i .i64 b))) (hr : intOp h op a b = some r) : execO P T h ⟨d, .binOp op t x y t', ty, ps, af, g⟩ = some r := by
 show orPure P T h _ (doBin P h op t (ev T x) (ev T y)) = _
 have : doBin P h op t (ev T x) (ev T y) = some r := by
  rw [hx, hy]; exact hr
 rw [this]; rfl
theorem zA {a b : Int} : intOp h .add a b = some (.val (.one (.i .i64 (IntKind.i64.wrap (a + b)))) h) := numR_eq _
theorem in_sub {a b : Int} : intOp h .sub a b = some (.val (.one (.i .i64 (IntKind.i64.wrap (a - b)))) h) := numR_eq _
theorem in_mul {a b : Int} : intOp h .mul a b = some (.val (.one (.i .i64 (IntKind.i64.wrap (a * b)))) h) := numR_eq _
theorem in_eql {a b : Int} : intOp h .eql a b = some (.val (.one (.b (decide (a = b)))) h) := by show boolR h (eqI a b) = _; rw [eqI_eq, boolR_eq]
theorem in_neq {a b : Int} : intOp h .neq a b = some (.val (.one (.b (!decide (a = b)))) h) := by show boolR h (!eqI a b) = _; rw [eqI_eq, boolR_eq]
theorem zL {a b : Int} : intOp h .lss a b = some (.val (.one (.b (decide (a < b)))) h) := by show boolR h (ltI a b) = _; rw [ltI_eq, boolR_eq]
theorem in_gtr {a b : Int} : intOp h .gtr a b = some (.val (.one (.b (decide (b < a)))) h) := by show boolR h (ltI b a) = _; rw [ltI_eq, boolR_eq]
theorem in_leq {a b : Int} : intOp h .leq a b = some (.val (.one (.b (!decide (b < a)))) h) := by show boolR h (!ltI b a) = _; rw [ltI_eq, boolR_eq]
theorem in_geq {a b : Int} : intOp h .geq a b = some (.val (.one (.b (!decide (a < b)))) h) := by show boolR h (!ltI a b) = _; rw [ltI_eq, boolR_eq]
theorem ex_pure {op : Op} {v : Value} {x : V} (hd : execO P T h ⟨d, op, ty, ps, af, g⟩ = orPure P T h ⟨d, op, ty, ps, af, g⟩ none) (hc : allConc T op.operands.toList = true) (hp : prun P (execOp (fun x => (evc T x).getD undef) ⟨d, op, ty, ps, af, g⟩) = some (.value v)) (hv : V.ofVal v = some x) : execO P T h ⟨d, op, ty, ps, af, g⟩ = some (.val x h) := by
 rw [hd];unfold orPure pureOp;simp only;rw [hc, cond_true, hp];simp only;rw [hv]
end
def Cells (h : H) (b e : Nat) (xs : List S) : Prop := ∃ cs, h.get b = some (.cells e cs xs.length) ∧ ∀ j, j < xs.length → cs.get j = xs[j]?
theorem O.row_of {o : O} {xs : List S} {j : Nat} (hx : ∀ i, i < xs.length → o.cell (j + i) = xs[i]?) : o.row xs.length j = some xs := by
 induction xs generalizing j with
 | nil => rfl
 | cons x xs ih =>
  have h0 := hx 0 (by simp);simp only [Nat.add_zero, List.getElem?_cons_zero] at h0
  have h1 : o.row xs.length (j + 1) = some xs := ih fun i hi => by
   have := hx (i + 1) (by simp; omega);rw [show j + (i + 1) = j + 1 + i by omega] at this;simpa using this
  show (match o.cell j, o.row xs.length (j + 1) with
   | some x, some xs => some (x :: xs)
   | _, _ => none) = _
  rw [h0, h1]
theorem Cells.cell {b e : Nat} {xs : List S} (hc : Cells h b e xs) : ∃ x, h.get b = some x ∧ ∀ j, j < xs.length → x.cell j = xs[j]? := by
 obtain ⟨cs, h1, h2⟩ := hc
 exact ⟨_, h1, fun j hj => by
  show cond (Nat.blt j xs.length) (cs.get j) none = _
  rw [blt_true hj, cond_true, h2 j hj]⟩
theorem Cells.row {b e o n : Nat} {xs : List S} (hc : Cells h b e xs) (hl : o + n ≤ xs.length) : h.row b o n = some ((xs.drop o).take n) := by
 obtain ⟨x, h1, h2⟩ := hc.cell;unfold H.row;rw [h1];simp only;have hn : ((xs.drop o).take n).length = n := by simp; omega
 have := O.row_of (o := x) (xs := (xs.drop o).take n) (j := o) fun i hi => by
  rw [hn] at hi;rw [h2 _ (by omega), List.getElem?_take_of_lt hi, List.getElem?_drop]
 rw [hn] at this;exact this
theorem Cells.of_alloc {e : Nat} {xs : List S} (hh : hidden h.hid h.next = false) : Cells (h.alloc (.cells e (Go.Ai.T.setMany .e 0 xs) xs.length)) h.next e xs :=
 ⟨Go.Ai.T.setMany .e 0 xs, by rw [H.get_alloc _ _ _ hh, if_pos rfl], fun j _ => Go.Ai.T.get_row xs j⟩
theorem Cells.get {h' : H} {b e : Nat} {xs : List S} (hc : Cells h b e xs) (hg : h'.get b = h.get b) : Cells h' b e xs := by
 obtain ⟨cs, h1, h2⟩ := hc;exact ⟨cs, by rw [hg]; exact h1, h2⟩
theorem Cells.at1 {b e k : Nat} {xs : List S} {x : S} (hc : Cells h b e xs) (hx : xs[k]? = some x) : h.row b k 1 = some [x] := by
 obtain ⟨hk, rfl⟩ := gEi.1 hx;rw [hc.row (by omega), List.drop_eq_getElem_cons hk]; rfl
theorem row_head {b o n : Nat} {x : S} {xs : List S} (hr : h.row b o (n + 1) = some (x :: xs)) : h.row b o 1 = some [x] := by
 unfold H.row at hr ⊢;split at hr
 ·rename_i ob hb
  have hr : (match ob.cell o, ob.row n (o + 1) with
   | some x, some xs => some (x :: xs)
   | _, _ => none) = some (x :: xs) := hr
  split at hr
  ·rename_i a l h1 h2;cases hr
   show (match ob.cell o, some [] with
    | some x, some xs => some (x :: xs)
    | _, _ => none) = _
   rw [h1]
  ·cases hr
 ·cases hr
theorem row_sub {b o n : Nat} {xs : List S} (hr : h.row b o n = some xs) : ∀ {j : Nat} {x : S}, xs[j]? = some x → h.row b (o + j) 1 = some [x] := by
 unfold H.row at hr ⊢;split at hr
 ·rename_i ob hb
  have key : ∀ (n o : Nat) (xs : List S), ob.row n o = some xs → ∀ (j : Nat) (x : S), xs[j]? = some x → ob.cell (o + j) = some x := by
   intro n
   induction n with
   | zero => intro o xs hr j x hx; cases hr; simp at hx
   | succ n ih =>
    intro o xs hr j x hx
    have hr : (match ob.cell o, ob.row n (o + 1) with
     | some x, some xs => some (x :: xs)
     | _, _ => none) = some xs := hr
    split at hr
    ·rename_i a l h1 h2;cases hr
     cases j with
     | zero => simp at hx; subst hx; exact h1
     | succ j => rw [show o + (j + 1) = (o + 1) + j by omega]; exact ih _ _ h2 j x (by simpa using hx)
    ·cases hr
  intro j x hx;have := key n o xs hr j x hx
  show (match ob.cell (o + j), some [] with
   | some x, some xs => some (x :: xs)
   | _, _ => none) = _
  rw [this]
 ·cases hr
theorem nil_p {b o : Nat} : doNilCheck h (some (.one (.p b o))) = some (.val (.one (.p b o)) h) := rfl
theorem mv_some {v : V} : doMove h (some v) = some (.val v h) := rfl
theorem ofInt {k : IntKind} {n : Int} : V.ofVal (.int k n) = some (.one (.i k n)) := rfl
theorem ofBool {b : Bool} : V.ofVal (.bool b) = some (.one (.b b)) := rfl
theorem pick_b {a b : Operand} {t : Bool} : doPick T h a b (some (.one (.b t))) = doMove h (ev T (cond t a b)) := rfl
theorem not_b {t : Bool} : doUn h .not (some (.one (.b t))) = some (.val (.one (.b (!t))) h) := by cases t <;> rfl
theorem ex_not {d : Option Tmp} {ty t : TypeId} {ps : String} {af : Array Edge} {g : Option (Nat × Bool)} {x : Operand} {b : Bool} (hx : ev T x = some (.one (.b b))) : execO P T h ⟨d, .unOp .not t x, ty, ps, af, g⟩ = some (.val (.one (.b (!b))) h) := by
 show orPure P T h _ (doUn h .not (ev T x)) = _;rw [hx, not_b]; rfl
theorem box_agg {e : Nat} {xs : List S} : doBox P h e (some (.agg xs)) = some (.val (.one (.p h.next 0)) (h.alloc (.cells e (Go.Ai.T.setMany .e 0 xs) xs.length))) := by
 unfold doBox ofTup alloc1; simp only; rw [H.rowK_eq]; rfl
def fieldAt (P : Program) (s f : Nat) : Option Nat := match P.underlying s with
 | some (.struct fields) => match fields[f]? with
  | some fd => match sizeB P fd.type with
   | some (_ + 1) => some fd.offset
   | _ => none
  | none => none
 | _ => none
def elemAt (P : Program) (t : Nat) : Option (Nat × Nat) := match P.underlying t with
 | some (.slice e) => match sizeB P e with
  | some n => some (e, n)
  | none => none
 | _ => none
def kindAt (P : Program) (t : Nat) : Option (Bool × Nat) := match aggB P t, sizeB P t with
 | some a, some n => some (a, n)
 | _, _ => none
def fieldOf (P : Program) (s f : Nat) : Option (Bool × Nat × Nat) := match P.underlying s with
 | some (.struct fields) => match fields[f]? with
  | some fd => match aggB P fd.type, sizeB P fd.type with
   | some a, some n => some (a, fd.offset, n)
   | _, _ => none
  | none => none
 | _ => none
theorem fa_p {s f b o k : Nat} (hf : fieldAt P s f = some k) : doFieldAddr P h s f (some (.one (.p b o))) = some (.val (.one (.p b (o + k))) h) := by
 unfold fieldAt at hf;unfold doFieldAddr;simp only;split at hf
 ·rename_i fields hu;rw [hu];simp only;split at hf
  ·rename_i fd hfd;rw [hfd];simp only;split at hf
   ·rename_i n hs;cases hf;rw [hs]; simp only; rw [ptrR_eq]
   ·cases hf
  ·cases hf
 ·cases hf
theorem ld_one {t b o n : Nat} {x : S} (ht : kindAt P t = some (false, n)) (hr : h.row b o 1 = some [x]) : doLoad P h t (some (.one (.p b o))) = some (.val (.one x) h) := by
 unfold kindAt at ht;split at ht
 ·rename_i a n' ha hs;cases ht;unfold doLoad; simp only; rw [ha, hs]; simp only; rw [hr]
 ·cases ht
theorem ld_agg {t b o n : Nat} {xs : List S} (ht : kindAt P t = some (true, n)) (hr : h.row b o n = some xs) : doLoad P h t (some (.one (.p b o))) = some (.val (.agg xs) h) := by
 unfold kindAt at ht;split at ht
 ·rename_i a n' ha hs;cases ht;unfold doLoad; simp only; rw [ha, hs]; simp only; rw [hr]
 ·cases ht
def oneR (h : H) : Option (List S) → Option R
 | some [x] => some (.val (.one x) h)
 | _ => none
def aggR (h : H) : Option (List S) → Option R
 | some xs => some (.val (.agg xs) h)
 | none => none
theorem oneR_some {x : S} : oneR h (some [x]) = some (.val (.one x) h) := rfl
theorem aggR_some {xs : List S} : aggR h (some xs) = some (.val (.agg xs) h) := rfl
theorem ld1 {t b o n : Nat} (ht : kindAt P t = some (false, n)) : doLoad P h t (some (.one (.p b o))) = oneR h (h.row b o 1) := by
 unfold kindAt at ht;split at ht
 ·rename_i a n' ha hs;cases ht;unfold doLoad; simp only; rw [ha, hs]; simp only;rcases h.row b o 1 with _ | (_ | ⟨x, _ | ⟨y, l⟩⟩) <;> rfl
 ·cases ht
theorem ldA {t b o n : Nat} (ht : kindAt P t = some (true, n)) : doLoad P h t (some (.one (.p b o))) = aggR h (h.row b o n) := by
 unfold kindAt at ht;split at ht
 ·rename_i a n' ha hs;cases ht;unfold doLoad; simp only; rw [ha, hs]; simp only;cases h.row b o n <;> rfl
 ·cases ht
theorem inRange_nat {j n : Nat} (hj : j < n) : inRange (j : Int) n = some j := by
 show cond (Nat.blt j n) (some j) none = _;rw [blt_true hj]; rfl
theorem ix_sl {t b o len cap sz e n j : Nat} {ex : Bool} {k : IntKind} {i : Int} (ht : elemAt P t = some (e, n)) (hi : i = (j : Int)) (hj : j < len) : doIndexW P h t (some (.one (.sl b o len cap sz ex))) (some (.one (.i k i))) = some (.val (.one (.p b (o + j * n))) h) := by
 subst hi;unfold elemAt at ht;split at ht
 ·rename_i e' hu;split at ht
  ·rename_i n' hs;cases ht;unfold doIndexW;simp only;unfold doIndexAddr;simp only;rw [hu]; simp only;rw [hs, inRange_nat hj]; simp only;rw [ptrR_eq]
  ·cases ht
 ·cases ht
theorem ixN {t b o len cap sz e n j : Nat} {ex : Bool} {k : IntKind} (ht : elemAt P t = some (e, n)) (hj : j < len) : doIndexW P h t (some (.one (.sl b o len cap sz ex))) (some (.one (.i k (j : Int)))) = some (.val (.one (.p b (o + j * n))) h) := ix_sl ht rfl hj
theorem fo_one {s f o n : Nat} {xs : List S} {x : S} (hf : fieldOf P s f = some (false, o, n)) (hx : xs[o]? = some x) : doField P h s f (some (.agg xs)) = some (.val (.one x) h) := by
 unfold fieldOf at hf;unfold doField;simp only;split at hf
 ·rename_i fields hu;rw [hu]; simp only;split at hf
  ·rename_i fd hfd;rw [hfd]; simp only;split at hf
   ·rename_i a n' ha hs;cases hf;rw [ha, hs]; simp only; rw [hx]
   ·cases hf
  ·cases hf
 ·cases hf
theorem H.may_of {b : Nat} (h1 : h.floor ≤ b) (h2 : hidden h.hid b = false) (h3 : hidden h.frz b = false) : h.may b = true := by
 simp [H.may, h2, h3, Nat.ble_eq_true_of_le h1]
theorem storeB_of {b e o : Nat} {xs ys : List S} (hc : Cells h b e xs) (hm : h.may b = true) (hl : o + ys.length ≤ xs.length) (hy : ys ≠ []) :
  ∃ ob, storeB h b o ys = some (h.put b ob) ∧ Cells (h.put b ob) b e (xs.take o ++ ys ++ xs.drop (o + ys.length)) := by
 obtain ⟨cs, h1, h2⟩ := hc;refine ⟨.cells e (cs.setMany o ys) xs.length, ?_, cs.setMany o ys, ?_, ?_⟩
 ·unfold storeB
  cases ys with
  | nil => exact absurd rfl hy
  | cons y ys =>
   simp only;rw [h1]; simp only;rw [hm, show Nat.ble (o + (y :: ys).length) xs.length = true from Nat.ble_eq_true_of_le hl, Bool.and_self, cond_true, T.setManyK_eq, H.putK_eq]
 ·rw [H.get_put h1, if_pos rfl]
  congr 2
  simp; omega
 ·intro j hj;rw [T.get_setMany];have hj' : j < xs.length := by simp at hj; omega
  by_cases q : o ≤ j ∧ j < o + ys.length
  ·rw [if_pos q, List.append_assoc, List.getElem?_append_right (by simp; omega)];simp only [List.length_take, Nat.min_eq_left (show o ≤ xs.length by omega)];rw [List.getElem?_append_left (by omega)]
  ·rw [if_neg q, h2 j hj'];rcases Nat.lt_or_ge j o with q1 | q1
   ·rw [List.append_assoc, List.getElem?_append_left (by simp; omega), List.getElem?_take_of_lt q1]
   ·rw [List.getElem?_append_right (by simp; omega)];simp only [List.length_append, List.length_take, Nat.min_eq_left (show o ≤ xs.length by omega), List.getElem?_drop]
    congr 1; omega
theorem st_one {t b o : Nat} {n : Nat} {x : S} {h1 : H} (hk : sizeB P t = some 1) (hs : storeB h b o [x] = some h1) : doStore P h t (some (.one (.p b o))) (some (.one x)) = some (.val (.tup []) h1) := by
 unfold doStore;simp only;rw [hk];show cond (Nat.beq 1 1 && true) _ _ = _
 show (match storeB h b o [x] with
  | some h' => some (R.val (.tup []) h')
  | none => none) = _
 rw [hs]
theorem st_agg {t b o : Nat} {n : Nat} {xs : List S} {h1 : H} (hk : sizeB P t = some n) (hn : xs.length = n) (hs : storeB h b o xs = some h1) : doStore P h t (some (.one (.p b o))) (some (.agg xs)) = some (.val (.tup []) h1) := by
 unfold doStore;simp only;rw [hk];subst hn;show cond (Nat.beq xs.length xs.length && true) _ _ = _;rw [beq_self]
 show (match storeB h b o xs with
  | some h' => some (R.val (.tup []) h')
  | none => none) = _
 rw [hs]
theorem Cells.there {b e : Nat} {xs : List S} (hc : Cells h b e xs) : ∃ o, h.get b = some o := by
 obtain ⟨cs, h1, _⟩ := hc; exact ⟨_, h1⟩
section
variable {d : Option Tmp} {ty : TypeId} {ps : String} {af : Array Edge} {g : Option (Nat × Bool)}
theorem ex_min {t t' : TypeId} {x y : Operand} {a b : Int} (hx : ev T x = some (.one (.i .i64 a))) (hy : ev T y = some (.one (.i .i64 b))) : execO P T h ⟨d, .call ⟨.builtin .min, #[x, y], #[t, t']⟩, ty, ps, af, g⟩ = some (.val (.one (.i .i64 (min a b))) h) := by
 show orPure P T h _ (doMinMax true h (evs T [x, y])) = _;have : evs T [x, y] = some [.one (.i .i64 a), .one (.i .i64 b)] := by simp only [evs, hx, hy]
 rw [this];show orPure P T h _ (cond (ltI b a) _ _) = _;rw [ltI_eq];rcases Int.lt_or_le b a with q | q
 ·rw [decide_eq_true q, Int.min_eq_right (by omega)]; rfl
 ·rw [decide_eq_false (by omega), Int.min_eq_left q]; rfl
theorem ex_max {t t' : TypeId} {x y : Operand} {a b : Int} (hx : ev T x = some (.one (.i .i64 a))) (hy : ev T y = some (.one (.i .i64 b))) : execO P T h ⟨d, .call ⟨.builtin .max, #[x, y], #[t, t']⟩, ty, ps, af, g⟩ = some (.val (.one (.i .i64 (max a b))) h) := by
 show orPure P T h _ (doMinMax false h (evs T [x, y])) = _;have : evs T [x, y] = some [.one (.i .i64 a), .one (.i .i64 b)] := by simp only [evs, hx, hy]
 rw [this];show orPure P T h _ (cond (ltI a b) _ _) = _;rw [ltI_eq];rcases Int.lt_or_le a b with q | q
 ·rw [decide_eq_true q, Int.max_eq_right (by omega)]; rfl
 ·rw [decide_eq_false (by omega), Int.max_eq_left q]; rfl
theorem ex_len {t e n : Nat} {x : Operand} {b o len cap sz : Nat} {ex : Bool} (ht : elemAt P t = some (e, n)) (hx : ev T x = some (.one (.sl b o len cap sz ex))) : execO P T h ⟨d, .call ⟨.builtin .len, #[x], #[t]⟩, ty, ps, af, g⟩ = some (.val (.one (.i .i64 (len : Int))) h) := by
 show orPure P T h _ (doLen P h t (ev T x)) = _;rw [hx];unfold elemAt at ht;split at ht
 ·rename_i e' hu;unfold doLen;simp only;rw [hu]; rfl
 ·cases ht
theorem ex_len0 {t e n : Nat} {x : Operand} (ht : elemAt P t = some (e, n)) (hx : ev T x = some (.one .sl0)) : execO P T h ⟨d, .call ⟨.builtin .len, #[x], #[t]⟩, ty, ps, af, g⟩ = some (.val (.one (.i .i64 ((0 : Nat) : Int))) h) := by
 have hu : ∃ e', P.underlying t = some (.slice e') := by
  unfold elemAt at ht;split at ht
  ·rename_i e' hu; exact ⟨e', hu⟩
  ·cases ht
 obtain ⟨e', hu⟩ := hu;refine ex_pure (v := .int .i64 0) ?_ ?_ ?_ rfl
 ·show orPure P T h _ (doLen P h t (ev T x)) = _;rw [hx]; rfl
 ·show allConc T [x] = true;simp only [allConc, evc, hx]; rfl
 ·have hp : ∀ ρ : Operand → Value, ρ x = .slice none 0 0 → prun P (execOp ρ ⟨d, .call ⟨.builtin .len, #[x], #[t]⟩, ty, ps, af, g⟩) = some (.value (.int .i64 0)) := by
   intro ρ hρ;simp only [execOp, resolve, List.map_toArray, List.map_cons, List.map_nil, hρ, invoke, builtin, Builtin.len_, underlying];simp [Bind.bind, Pure.pure, Sem.bind, prun, program, hu, goInt]
  exact hp _ (by simp only [evc, hx]; rfl)
end
end
end Go.Ai
namespace Go.Ai
open Go.RowKit
structure Up (p : Nat → Prop) (h h' : H) : Prop where
 tr : ∀ b, p b → h'.tr.get b = h.tr.get b
 next : h.next ≤ h'.next
 floor : h'.floor = h.floor
 hid : h'.hid = h.hid
 frz : h'.frz = h.frz
 kn : h'.kn = h.kn
theorem Up.refl (p : Nat → Prop) (h : H) : Up p h h := ⟨fun _ _ => rfl, Nat.le_refl _, rfl, rfl, rfl, rfl⟩
theorem Up.trans {p : Nat → Prop} {a b c : H} (h : Up p a b) (k : Up p b c) : Up p a c :=
 ⟨fun x hx => (k.tr x hx).trans (h.tr x hx), Nat.le_trans h.next k.next, k.floor.trans h.floor, k.hid.trans h.hid, k.frz.trans h.frz, k.kn.trans h.kn⟩
theorem Up.mono {p q : Nat → Prop} {h h' : H} (k : Up p h h') (hq : ∀ b, q b → p b) : Up q h h' := ⟨fun b hb => k.tr b (hq b hb), k.next, k.floor, k.hid, k.frz, k.kn⟩
theorem Up.alloc {p : Nat → Prop} {h : H} {o : O} (hp : ∀ b, p b → b ≠ h.next) : Up p h (h.alloc o) :=
 ⟨fun b hb => by show (h.tr.set h.next o).get b = _; rw [T.get_set, if_neg (hp b hb)], Nat.le_succ _, rfl, rfl, rfl, rfl⟩
theorem Up.put {p : Nat → Prop} {h : H} {c : Nat} {o : O} (hp : ¬ p c) : Up p h (h.put c o) :=
 ⟨fun b hb => by show (h.tr.set c o).get b = _; rw [T.get_set, if_neg (fun e => hp (by rw [← e]; exact hb))], Nat.le_refl _, rfl, rfl, rfl, rfl⟩
theorem Up.kill {p : Nat → Prop} {h : H} {c : Nat} (hp : ¬ p c) : Up p h (h.kill c) :=
 ⟨fun b hb => by show (h.tr.upd c none).get b = _; rw [T.get_upd, if_neg (fun e => hp (by rw [← e]; exact hb))], Nat.le_refl _, rfl, rfl, rfl, rfl⟩
theorem Up.get {p : Nat → Prop} {h h' : H} (k : Up p h h') {b : Nat} (hb : p b) : h'.get b = h.get b := by
 show cond (hidden h'.hid b) none (h'.tr.get b) = cond (hidden h.hid b) none (h.tr.get b);rw [k.hid, k.tr b hb]
theorem Up.cells {p : Nat → Prop} {h h' : H} (k : Up p h h') {b e : Nat} {xs : List S} (hb : p b) (hc : Cells h b e xs) : Cells h' b e xs := hc.get (k.get hb)
theorem Up.row {p : Nat → Prop} {h h' : H} (k : Up p h h') {b o n : Nat} (hb : p b) : h'.row b o n = h.row b o n := by unfold H.row; rw [k.get hb]
theorem Up.may {p : Nat → Prop} {h h' : H} (k : Up p h h') {b : Nat} : h'.may b = h.may b := by simp only [H.may, k.floor, k.hid, k.frz]
structure Ok (h : H) : Prop where
 hid : ∀ b, h.next ≤ b → hidden h.hid b = false
 frz : ∀ b, h.next ≤ b → hidden h.frz b = false
 floor : h.floor ≤ h.next
theorem Up.ok {p : Nat → Prop} {h h' : H} (k : Up p h h') (o : Ok h) : Ok h' :=
 ⟨fun b hb => by rw [k.hid]; exact o.hid b (Nat.le_trans k.next hb), fun b hb => by rw [k.frz]; exact o.frz b (Nat.le_trans k.next hb), by rw [k.floor]; exact Nat.le_trans o.floor k.next⟩
theorem Ok.top {h : H} (o : Ok h) : hidden h.hid h.next = false := o.hid _ (Nat.le_refl _)
theorem Ok.mayNew {h h' : H} (o : Ok h) {p : Nat → Prop} (k : Up p h h') {b : Nat} (hb : h.next ≤ b) : h'.may b = true :=
 H.may_of (by rw [k.floor]; exact Nat.le_trans o.floor hb) (by rw [k.hid]; exact o.hid b hb) (by rw [k.frz]; exact o.frz b hb)
noncomputable def H.back (h h1 : H) : H := { tr := h1.tr, next := h1.next, floor := h.floor, hid := h.hid, frz := h.frz, kn := h.kn }
theorem back_fenced {h : H} {l z : List (Nat × Nat)} {f : Nat} : h.back (h.fenced l z f) = h := rfl
theorem fenced_next {h : H} {l z : List (Nat × Nat)} {f : Nat} : (h.fenced l z f).next = h.next := rfl
theorem back_put {h h1 : H} {b : Nat} {o : O} : h.back (h1.put b o) = (h.back h1).put b o := rfl
theorem Up.back {p : Nat → Prop} {h h1 : H} {l z : List (Nat × Nat)} {f : Nat} (k : Up p (h.fenced l z f) h1) : Up p h (h.back h1) := ⟨k.tr, k.next, rfl, rfl, rfl, rfl⟩
def Off (l : List (Nat × Nat)) (b : Nat) : Prop := hidden l b = false
theorem Off.nil {b : Nat} : Off [] b := rfl
theorem Off.cons {l : List (Nat × Nat)} {lo hi b : Nat} (h : b < lo ∨ hi ≤ b) (k : Off l b) : Off ((lo, hi) :: l) b := by
 show ((Nat.ble lo b && Nat.blt b hi) || hidden l b) = false;rw [show hidden l b = false from k];rcases h with h | h
 ·have : Nat.ble lo b = false := by
   cases e : Nat.ble lo b with
   | false => rfl
   | true => have := Nat.le_of_ble_eq_true e; omega
  rw [this]; rfl
 ·rw [blt_false (by omega)]; simp
theorem Off.seen {m i lo hi b : Nat} {r : List (Nat × Nat × Nat)} (hm : Nat.testBit m i = true) (k : Off (unseen m r) b) : Off (unseen m ((i, lo, hi) :: r)) b := by
 show hidden (cond (Nat.testBit m i) (unseen m r) ((lo, hi) :: unseen m r)) b = false;rw [hm]; exact k
theorem Off.off {m i lo hi b : Nat} {r : List (Nat × Nat × Nat)} (h : b < lo ∨ hi ≤ b) (k : Off (unseen m r) b) : Off (unseen m ((i, lo, hi) :: r)) b := by
 show hidden (cond (Nat.testBit m i) (unseen m r) ((lo, hi) :: unseen m r)) b = false
 cases Nat.testBit m i with
 | true => exact k
 | false => exact Off.cons h k
theorem fenced_get {h : H} {l z : List (Nat × Nat)} {f b : Nat} (hl : Off l b) : (h.fenced l z f).get b = h.get b := by
 show cond (hidden (l ++ h.hid) b) none (h.tr.get b) = _;rw [hidden_append, show hidden l b = false from hl]; rfl
theorem fenced_row {h : H} {l z : List (Nat × Nat)} {f b o n : Nat} (hl : Off l b) : (h.fenced l z f).row b o n = h.row b o n := by unfold H.row; rw [fenced_get hl]
theorem Cells.fenced {h : H} {l z : List (Nat × Nat)} {f b e : Nat} {xs : List S} (hc : Cells h b e xs) (hl : Off l b) : Cells (h.fenced l z f) b e xs := hc.get (fenced_get hl)
theorem fenced_may {h : H} {l z : List (Nat × Nat)} {f b : Nat} (hl : Off l b) (hz : Off z b) (hf : f ≤ b) (hm : h.may b = true) : (h.fenced l z f).may b = true := by
 obtain ⟨⟨_, h1⟩, h2⟩ := H.may_iff hm;refine H.may_of hf ?_ ?_
 ·show hidden (l ++ h.hid) b = false;rw [hidden_append, show hidden l b = false from hl, h2]; rfl
 ·show hidden (z ++ h.frz) b = false;rw [hidden_append, show hidden z b = false from hz, h1]; rfl
theorem Ok.fenced {h : H} (o : Ok h) {l z : List (Nat × Nat)} {f : Nat} (hl : ∀ b, h.next ≤ b → Off l b) (hz : ∀ b, h.next ≤ b → Off z b) (hf : f ≤ h.next) : Ok (h.fenced l z f) :=
 ⟨fun b hb => by
  show hidden (l ++ h.hid) b = false
  rw [hidden_append, show hidden l b = false from hl b hb, o.hid b hb]; rfl, fun b hb => by
  show hidden (z ++ h.frz) b = false
  rw [hidden_append, show hidden z b = false from hz b hb, o.frz b hb]; rfl, hf⟩
def toldBy (ops : Array Oper) (ix : List (Nat × Nat × Bool)) : List (It × Bool) := ix.map fun p => (⟨p.1, p.2.1, ops.toList.getD p.1 default⟩, p.2.2)
section
variable {P : Program} {spec : CallF} {nt : Nat} {T : Sl} {h : H} {ops : Array Oper} {rg ld : List (Nat × Nat × Nat)} {K : Sl → H → Prop} {Q : Ex → Sl → H → Prop}
def WI (P : Program) (spec : CallF) (nt : Nat) (ops : Array Oper) (ix : List (Nat × Nat × Bool)) (T : Sl) (h : H) (rg ld : List (Nat × Nat × Nat)) (K : Sl → H → Prop) : Prop := WD P spec nt ops.toList (toldBy ops ix) ⟨T, h, rg, ld⟩ K
theorem W_drawn {id : Nat} (ix : List (Nat × Nat × Bool)) (ht : told ops = some (toldBy ops ix)) (hf : h.floor ≤ h.next) (hw : WI P spec nt ops ix T h [] [] (Q .normal)) : W P spec nt (.region id ops true) T h Q := W_draw ht hf hw
theorem WI_nil (hk : K T h) : WI P spec nt ops [] T h rg ld K := ⟨0, _, fun _ _ => rfl, hk⟩
theorem WI_step {i m : Nat} {bar : Bool} {ix : List (Nat × Nat × Bool)} {o : Oper} (ho : ops.toList[i]? = some o) {T1 : Sl} {h1 : H} {rg1 ld1 : List (Nat × Nat × Nat)}
  (hs : ∃ n0, ∀ k, n0 ≤ k → itemStep P (runG P spec k) nt ops.toList ⟨i, m, o⟩ bar ⟨T, h, rg, ld⟩ = some ⟨T1, h1, rg1, ld1⟩) (hk : WI P spec nt ops ix T1 h1 rg1 ld1 K) : WI P spec nt ops ((i, m, bar) :: ix) T h rg ld K := by
 obtain ⟨n0, hs⟩ := hs;obtain ⟨n1, s1, h2, h3⟩ := hk;refine ⟨max n0 n1, s1, fun k hk => ?_, h3⟩;have e : ops.toList.getD i default = o := by rw [List.getD_eq_getElem?_getD, ho]; rfl
 show (match itemStep P _ nt ops.toList ⟨i, m, ops.toList.getD i default⟩ bar ⟨T, h, rg, ld⟩ with
  | some s1 => drawAll P _ nt ops.toList (toldBy ops ix) s1
  | none => none) = _
 rw [e, hs k (by omega)];exact h2 k (by omega)
theorem WI_quiet {i m : Nat} {bar : Bool} {ix : List (Nat × Nat × Bool)} {o : Oper} (ho : ops.toList[i]? = some o) (hw : wantB ops.toList T o = some true) (hc : cls o.op = .quiet) {v : V} {h1 : H} (hx : execO P T h.emptied o = some (.val v h1)) (hn : h1.next = h.next) {T1 : Sl} (hp : putT nt T o.dst v = some T1) (hk : WI P spec nt ops ix T1 h rg ld K) : WI P spec nt ops ((i, m, bar) :: ix) T h rg ld K := by
 refine WI_step ho ⟨0, fun k _ => ?_⟩ hk;unfold itemStep;rw [hw];simp only;unfold itemDo It.c;rw [hc];simp only;unfold quietDo;simp only;rw [hx];simp only;rw [hn, beq_self, cond_true];unfold putS;rw [hp]
theorem WI_not {i m : Nat} {bar : Bool} {ix : List (Nat × Nat × Bool)} {o : Oper} (ho : ops.toList[i]? = some o) (hw : wantB ops.toList T o = some false) {T1 : Sl} (hp : putT nt T o.dst (.tup []) = some T1) (hk : WI P spec nt ops ix T1 h rg ld K) : WI P spec nt ops ((i, m, bar) :: ix) T h rg ld K := by
 refine WI_step ho ⟨0, fun k _ => ?_⟩ hk;unfold itemStep;rw [hw];simp only;unfold putS;rw [hp]
theorem WI_alloc {i m : Nat} {bar : Bool} {ix : List (Nat × Nat × Bool)} {o : Oper} (ho : ops.toList[i]? = some o) (hw : wantB ops.toList T o = some true) (hc : cls o.op = .alloc) {v : V} {x : O} (hx : execO P T h.emptied o = some (.val v (h.emptied.alloc x))) {T1 : Sl} (hp : putT nt T o.dst v = some T1) (hk : WI P spec nt ops ix T1 (h.alloc x) ((i, h.next, h.next + 1) :: rg) ld K) : WI P spec nt ops ((i, m, bar) :: ix) T h rg ld K := by
 refine WI_step ho ⟨0, fun k _ => ?_⟩ hk;unfold itemStep;rw [hw];simp only;unfold itemDo It.c;rw [hc];simp only;unfold allocDo;simp only;rw [hx];simp only
 have e : (h.emptied.alloc x).tr.get h.next = some x := by
  show (Go.Ai.T.set .e h.next x).get h.next = _;rw [Go.Ai.T.get_set, if_pos rfl]
 rw [e];simp only;rw [show Nat.beq (h.emptied.alloc x).next (h.next + 1) = true from beq_self _, cond_true, H.allocK_eq];unfold putS;rw [hp]
theorem doLoad_only {t b o : Nat} {v : V} (hx : doLoad P h t (some (.one (.p b o))) = some (.val v h)) : ∃ x, h.get b = some x ∧ doLoad P (h.only b x) t (some (.one (.p b o))) = some (.val v (h.only b x)) := by
 have hrow : ∀ x, h.get b = some x → ∀ o n, (h.only b x).row b o n = h.row b o n := by
  intro x hx o n
  have e : (h.only b x).get b = some x := by
   show (Go.Ai.T.set .e b x).get b = _;rw [Go.Ai.T.get_set, if_pos rfl]
  unfold H.row;rw [e, hx]
 have hget : ∀ {n : Nat} {xs : List S}, h.row b o n = some xs → ∃ x, h.get b = some x := by
  intro n xs hr;unfold H.row at hr;split at hr
  ·rename_i x hx; exact ⟨x, hx⟩
  ·cases hr
 unfold doLoad at hx;simp only at hx;split at hx
 ·rename_i n ha hs;split at hx
  ·rename_i xs hr;cases hx;obtain ⟨x, hx⟩ := hget hr;exact ⟨x, hx, ld_agg (n := n) (by unfold kindAt; rw [ha, hs]) (by rw [hrow x hx]; exact hr)⟩
  ·cases hx
 ·rename_i n ha hs;split at hx
  ·rename_i y hr;cases hx;obtain ⟨x, hx⟩ := hget hr;exact ⟨x, hx, ld_one (n := n) (by unfold kindAt; rw [ha, hs]) (by rw [hrow x hx]; exact hr)⟩
  ·cases hx
 ·cases hx
theorem WI_load {i m : Nat} {bar : Bool} {ix : List (Nat × Nat × Bool)} {d : Option Tmp} {t ty : TypeId} {a : Operand} {ps : String} {af : Array Edge} {g : Option (Nat × Bool)} (ho : ops.toList[i]? = some ⟨d, .load t a, ty, ps, af, g⟩) (hw : wantB ops.toList T ⟨d, .load t a, ty, ps, af, g⟩ = some true) {b o : Nat} (ha : ev T a = some (.one (.p b o))) {v : V} (hx : doLoad P h t (some (.one (.p b o))) = some (.val v h)) (hl : Off (unseen m rg) b) {T1 : Sl} (hp : putT nt T d v = some T1) (hk : WI P spec nt ops ix T1 h rg ((i, b, b + 1) :: ld) K) : WI P spec nt ops ((i, m, bar) :: ix) T h rg ld K := by
 refine WI_step ho ⟨0, fun k _ => ?_⟩ hk;obtain ⟨x, hx1, hx2⟩ := doLoad_only hx;unfold itemStep;rw [hw];simp only;unfold itemDo It.c;rw [show cls (Op.load t a) = .load from rfl];simp only;unfold loadDo;simp only;rw [show loadAtB T (Op.load t a) = some b by unfold loadAtB; simp only [ha]; rfl];simp only;rw [fenced_get hl, hx1];simp only;rw [show execO P T (h.only b x) ⟨d, .load t a, ty, ps, af, g⟩ = doLoad P (h.only b x) t (ev T a) from rfl, ha, hx2];simp only;rw [show Nat.beq (h.only b x).next h.next = true from beq_self _, cond_true];unfold putS;simp only;rw [hp]
theorem WI_loud {i m : Nat} {bar : Bool} {ix : List (Nat × Nat × Bool)} {o : Oper} (ho : ops.toList[i]? = some o) (hw : wantB ops.toList T o = some true) (hc : cls o.op = .loud)
  (hx : WX P spec T (h.fenced (unseen m rg) (cond bar (unseen m ld) []) (cond bar h.floor h.next)) o fun v h1 => ∃ T1, putT nt T o.dst v = some T1 ∧ WI P spec nt ops ix T1 (h.back h1) ((i, h.next, h1.next) :: rg) ld K) : WI P spec nt ops ((i, m, bar) :: ix) T h rg ld K := by
 obtain ⟨n0, v, h1, h2, T1, hp, hk⟩ := hx;refine WI_step ho ⟨n0, fun k hk => ?_⟩ hk;unfold itemStep;rw [hw];simp only;unfold itemDo It.c;rw [hc];simp only;unfold loudDo;simp only;rw [h2 k hk];simp only;unfold putS;simp only;rw [hp]; rfl
end
section
variable {P : Program} {T : Sl} {h : H} {d : Option Tmp} {ty : TypeId} {ps : String} {af : Array Edge} {g : Option (Nat × Bool)}
theorem ex_quo {t t' : TypeId} {x y : Operand} {a c : Int} (hx : ev T x = some (.one (.i .i64 a))) (hy : ev T y = some (.one (.i .i64 c))) (hc : c ≠ 0) : execO P T h ⟨d, .binOp .quo t x y t', ty, ps, af, g⟩ = some (.val (.one (.i .i64 (IntKind.i64.wrap (a.tdiv c)))) h) := by
 refine ex_pure (v := .int .i64 (IntKind.i64.wrap (a.tdiv c))) ?_ ?_ ?_ rfl
 ·show orPure P T h _ (doBin P h .quo t (ev T x) (ev T y)) = _;rw [hx, hy]; rfl
 ·show allConc T [x, y] = true;simp only [allConc, evc, hx, hy]; rfl
 ·have hp : ∀ ρ : Operand → Value, ρ x = .int .i64 a → ρ y = .int .i64 c → prun P (execOp ρ ⟨d, .binOp .quo t x y t', ty, ps, af, g⟩) = some (.value (.int .i64 (IntKind.i64.wrap (a.tdiv c)))) := by
   intro ρ h1 h2;simp [execOp, h1, h2, binOp, eqGuard, Op.intDiv, hc, Bind.bind, Pure.pure, Sem.bind, prun]
  exact hp _ (by simp only [evc, hx]; rfl) (by simp only [evc, hy]; rfl)
theorem ex_neg {t : TypeId} {x : Operand} {a : Int} (hx : ev T x = some (.one (.i .i64 a))) : execO P T h ⟨d, .unOp .neg t x, ty, ps, af, g⟩ = some (.val (.one (.i .i64 (IntKind.i64.wrap (-a)))) h) := by
 refine ex_pure (v := .int .i64 (IntKind.i64.wrap (-a))) ?_ ?_ ?_ rfl
 ·show orPure P T h _ (doUn h .neg (ev T x)) = _;rw [hx]; rfl
 ·show allConc T [x] = true;simp only [allConc, evc, hx]; rfl
 ·have hp : ∀ ρ : Operand → Value, ρ x = .int .i64 a → prun P (execOp ρ ⟨d, .unOp .neg t x, ty, ps, af, g⟩) = some (.value (.int .i64 (IntKind.i64.wrap (-a)))) := by
   intro ρ h1;simp [execOp, h1, Op.unary, Op.intArith, Bind.bind, Pure.pure, Sem.bind, prun]
  exact hp _ (by simp only [evc, hx]; rfl)
theorem ex_rem {t t' : TypeId} {x y : Operand} {a c : Int} (hx : ev T x = some (.one (.i .i64 a))) (hy : ev T y = some (.one (.i .i64 c))) (hc : c ≠ 0) : execO P T h ⟨d, .binOp .rem t x y t', ty, ps, af, g⟩ = some (.val (.one (.i .i64 (a.tmod c))) h) := by
 refine ex_pure (v := .int .i64 (a.tmod c)) ?_ ?_ ?_ rfl
 ·show orPure P T h _ (doBin P h .rem t (ev T x) (ev T y)) = _;rw [hx, hy]; rfl
 ·show allConc T [x, y] = true;simp only [allConc, evc, hx, hy]; rfl
 ·have hp : ∀ ρ : Operand → Value, ρ x = .int .i64 a → ρ y = .int .i64 c → prun P (execOp ρ ⟨d, .binOp .rem t x y t', ty, ps, af, g⟩) = some (.value (.int .i64 (a.tmod c))) := by
   intro ρ h1 h2;simp [execOp, h1, h2, binOp, eqGuard, Op.intDiv, hc, Bind.bind, Pure.pure, Sem.bind, prun]
  exact hp _ (by simp only [evc, hx]; rfl) (by simp only [evc, hy]; rfl)
theorem ex_toU {s e : TypeId} {x : Operand} {a : Int} (hs : P.underlying s = some (.int .i64)) (he : P.underlying e = some (.int .u64)) (hx : ev T x = some (.one (.i .i64 a))) : execO P T h ⟨d, .convert s e x, ty, ps, af, g⟩ = some (.val (.one (.i .u64 (IntKind.u64.wrap a))) h) := by
 refine ex_pure (v := .int .u64 (IntKind.u64.wrap a)) ?_ ?_ ?_ rfl
 ·show orPure P T h _ (doConv P h s e (ev T x)) = _;rw [hx]
  have : doConv P h s e (some (.one (.i .i64 a))) = none := by
   show cond (intT P s && intT P e) _ none = none;have : intT P e = false := by unfold intT; rw [he]
   rw [this, Bool.and_false]; rfl
  rw [this]
 ·show allConc T [x] = true;simp only [allConc, evc, hx]; rfl
 ·have hp : ∀ ρ : Operand → Value, ρ x = .int .i64 a → prun P (execOp ρ ⟨d, .convert s e x, ty, ps, af, g⟩) = some (.value (.int .u64 (IntKind.u64.wrap a))) := by
   intro ρ h1;simp [execOp, h1, convert, underlying, program, hs, he, Conv.intToInt, Bind.bind, Pure.pure, Sem.bind, prun]
  exact hp _ (by simp only [evc, hx]; rfl)
theorem ex_toI {s e : TypeId} {x : Operand} {a : Int} (hs : P.underlying s = some (.int .u64)) (he : P.underlying e = some (.int .i64)) (hx : ev T x = some (.one (.i .u64 a))) : execO P T h ⟨d, .convert s e x, ty, ps, af, g⟩ = some (.val (.one (.i .i64 (IntKind.i64.wrap a))) h) := by
 refine ex_pure (v := .int .i64 (IntKind.i64.wrap a)) ?_ ?_ ?_ rfl
 ·show orPure P T h _ (doConv P h s e (ev T x)) = _;rw [hx]; rfl
 ·show allConc T [x] = true;simp only [allConc, evc, hx]; rfl
 ·have hp : ∀ ρ : Operand → Value, ρ x = .int .u64 a → prun P (execOp ρ ⟨d, .convert s e x, ty, ps, af, g⟩) = some (.value (.int .i64 (IntKind.i64.wrap a))) := by
   intro ρ h1;simp [execOp, h1, convert, underlying, program, hs, he, Conv.intToInt, Bind.bind, Pure.pure, Sem.bind, prun]
  exact hp _ (by simp only [evc, hx]; rfl)
theorem ex_half {t t' : TypeId} {x : Operand} {a : Int} (hx : ev T x = some (.one (.i .u64 a))) : execO P T h ⟨d, .binOp .shr t x (.const (.int .u64 1)) t', ty, ps, af, g⟩ = some (.val (.one (.i .u64 (a / 2))) h) := by
 refine ex_pure (v := .int .u64 (a / 2)) ?_ ?_ ?_ rfl
 ·show orPure P T h _ (doBin P h .shr t (ev T x) (some (.one (.i .u64 1)))) = _;rw [hx]; rfl
 ·show allConc T [x, .const (.int .u64 1)] = true;simp only [allConc, evc, hx]; rfl
 ·have hp : ∀ ρ : Operand → Value, ρ x = .int .u64 a → ρ (.const (.int .u64 1)) = .int .u64 1 → prun P (execOp ρ ⟨d, .binOp .shr t x (.const (.int .u64 1)) t', ty, ps, af, g⟩) = some (.value (.int .u64 (a / 2))) := by
   intro ρ h1 h2;have e : a.fdiv 2 = a / 2 := Int.fdiv_eq_ediv_of_nonneg _ (by omega);simp [execOp, h1, h2, binOp, eqGuard, Op.shift, IntKind.bits, Bind.bind, Pure.pure, Sem.bind, prun, e]
  exact hp _ (by simp only [evc, hx]; rfl) rfl
end
end Go.Ai
