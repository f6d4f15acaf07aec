/-
Operations of the machine, each as an equation; rows that are known as lists; regions that draw their order.
-/
import Derived.Test.YtjjlmmebkemlgaaAiGen
set_option linter.unusedVariables false
set_option linter.unusedSimpArgs false
namespace Go.Ai
open Go.RowKit
section
variable {P : Program} {spec : CallF} {nt : Nat} {T : Sl} {h : H}
section
variable {d : Option Tmp} {ty : TypeId} {ps : String} {af : Array Edge} {g : Option (Nat × Bool)}
theorem ex_move {x : Operand} : execO P T h ⟨d, .move x, ty, ps, af, g⟩ = doMove h (ev T x) := rfl
theorem ex_assign {x : Operand} : execO P T h ⟨d, .assign x, ty, ps, af, g⟩ = doMove h (ev T x) := rfl
theorem ex_pick {c a b : Operand} : execO P T h ⟨d, .pick c a b, ty, ps, af, g⟩ = doPick T h a b (ev T c) := rfl
theorem ex_alloc {e : TypeId} : execO P T h ⟨d, .alloc e, ty, ps, af, g⟩ = doAlloc P h e := rfl
theorem ex_box {e : TypeId} {x : Operand} : execO P T h ⟨d, .box e x, ty, ps, af, g⟩ = doBox P h e (ev T x) := rfl
theorem ex_build {t : TypeId} {q : Array (Nat × Operand)} : execO P T h ⟨d, .build t q, ty, ps, af, g⟩ = doBuild P T h t q := rfl
theorem ex_buildSlice {t : TypeId} {n : Nat} {q : Array (Nat × Operand)} : execO P T h ⟨d, .buildSlice t n q, ty, ps, af, g⟩ = doBuildSlice P T h t n q := rfl
theorem ex_load {t : TypeId} {a : Operand} : execO P T h ⟨d, .load t a, ty, ps, af, g⟩ = doLoad P h t (ev T a) := rfl
theorem ex_store {t : TypeId} {a x : Operand} : execO P T h ⟨d, .store t a x, ty, ps, af, g⟩ = doStore P h t (ev T a) (ev T x) := rfl
theorem ex_nilCheck {x : Operand} : execO P T h ⟨d, .nilCheck x, ty, ps, af, g⟩ = doNilCheck h (ev T x) := rfl
theorem ex_fieldAddr {s : TypeId} {x : Operand} {f : Nat} : execO P T h ⟨d, .fieldAddr s x f, ty, ps, af, g⟩ = doFieldAddr P h s f (ev T x) := rfl
theorem ex_indexAddr {t : TypeId} {x i : Operand} : execO P T h ⟨d, .indexAddr t x i, ty, ps, af, g⟩ = doIndexW P h t (ev T x) (ev T i) := rfl
theorem ex_field {t : TypeId} {x : Operand} {f : Nat} : execO P T h ⟨d, .field t x f, ty, ps, af, g⟩ = doField P h t f (ev T x) := rfl
theorem ex_extract {t : Operand} {i : Nat} : execO P T h ⟨d, .extract t i, ty, ps, af, g⟩ = doExtract h i (ev T t) := rfl
theorem ex_makeSlice {t : TypeId} {l c : Operand} : execO P T h ⟨d, .makeSlice t l c, ty, ps, af, g⟩ = doMakeSlice P h t (ev T l) (ev T c) := rfl
theorem ex_call {c : Call} : execO P T h ⟨d, .call c, ty, ps, af, g⟩ = doCallOp P T h ⟨d, .call c, ty, ps, af, g⟩ c.args c.argTypes c.callee := rfl
theorem ex_lookup {t : TypeId} {x k : Operand} {ok : Bool} : execO P T h ⟨d, .lookup t x k ok, ty, ps, af, g⟩ = doLookup P h t ok (ev T x) (ev T k) := rfl
theorem ex_mapUpdate {t : TypeId} {m k x : Operand} : execO P T h ⟨d, .mapUpdate t m k x, ty, ps, af, g⟩ = doMapUpdate P h t (ev T m) (ev T k) (ev T x) := rfl
theorem orPure_some {o : Oper} {r : R} : orPure P T h o (some r) = some r := rfl
/-- Whole numbers. -/
theorem ex_bin {op : BinOp} {t t' : TypeId} {x y : Operand} {a b : Int} {r : R} (hx : ev T x = some (.one (.i .i64 a))) (hy : ev T y = some (.one (.i .i64 b))) (hr : intOp h op a b = some r) : execO P T h ⟨d, .binOp op t x y t', ty, ps, af, g⟩ = some r := by
  show orPure P T h _ (doBin P h op t (ev T x) (ev T y)) = _
  have : doBin P h op t (ev T x) (ev T y) = some r := by
    rw [hx, hy]; exact hr
  rw [this]; rfl
theorem in_add {a b : Int} : intOp h .add a b = some (.val (.one (.i .i64 (IntKind.i64.wrap (a + b)))) h) := numR_eq _
theorem in_sub {a b : Int} : intOp h .sub a b = some (.val (.one (.i .i64 (IntKind.i64.wrap (a - b)))) h) := numR_eq _
theorem in_mul {a b : Int} : intOp h .mul a b = some (.val (.one (.i .i64 (IntKind.i64.wrap (a * b)))) h) := numR_eq _
theorem in_eql {a b : Int} : intOp h .eql a b = some (.val (.one (.b (decide (a = b)))) h) := by show boolR h (eqI a b) = _; rw [eqI_eq, boolR_eq]
theorem in_neq {a b : Int} : intOp h .neq a b = some (.val (.one (.b (!decide (a = b)))) h) := by show boolR h (!eqI a b) = _; rw [eqI_eq, boolR_eq]
theorem in_lss {a b : Int} : intOp h .lss a b = some (.val (.one (.b (decide (a < b)))) h) := by show boolR h (ltI a b) = _; rw [ltI_eq, boolR_eq]
theorem in_gtr {a b : Int} : intOp h .gtr a b = some (.val (.one (.b (decide (b < a)))) h) := by show boolR h (ltI b a) = _; rw [ltI_eq, boolR_eq]
theorem in_leq {a b : Int} : intOp h .leq a b = some (.val (.one (.b (!decide (b < a)))) h) := by show boolR h (!ltI b a) = _; rw [ltI_eq, boolR_eq]
theorem in_geq {a b : Int} : intOp h .geq a b = some (.val (.one (.b (!decide (a < b)))) h) := by show boolR h (!ltI a b) = _; rw [ltI_eq, boolR_eq]
/-- What is left to the model's own reckoning. -/
theorem ex_pure {op : Op} {v : Value} {x : V} (hd : execO P T h ⟨d, op, ty, ps, af, g⟩ = orPure P T h ⟨d, op, ty, ps, af, g⟩ none) (hc : allConc T op.operands.toList = true) (hp : prun P (execOp (fun x => (evc T x).getD undef) ⟨d, op, ty, ps, af, g⟩) = some (.value v)) (hv : V.ofVal v = some x) : execO P T h ⟨d, op, ty, ps, af, g⟩ = some (.val x h) := by
  rw [hd]
  unfold orPure pureOp
  simp only
  rw [hc, cond_true, hp]
  simp only
  rw [hv]
end

/-! ### Rows that are known as lists -/
/-- A block of cells that is known whole. -/
def Cells (h : H) (b e : Nat) (xs : List S) : Prop := ∃ cs, h.get b = some (.cells e cs xs.length) ∧ ∀ j, j < xs.length → cs.get j = xs[j]?
theorem O.row_of {o : O} {xs : List S} {j : Nat} (hx : ∀ i, i < xs.length → o.cell (j + i) = xs[i]?) : o.row xs.length j = some xs := by
  induction xs generalizing j with
  | nil => rfl
  | cons x xs ih =>
    have h0 := hx 0 (by simp)
    simp only [Nat.add_zero, List.getElem?_cons_zero] at h0
    have h1 : o.row xs.length (j + 1) = some xs := ih fun i hi => by
      have := hx (i + 1) (by simp; omega)
      rw [show j + (i + 1) = j + 1 + i by omega] at this
      simpa using this
    show (match o.cell j, o.row xs.length (j + 1) with
      | some x, some xs => some (x :: xs)
      | _, _ => none) = _
    rw [h0, h1]
theorem Cells.cell {b e : Nat} {xs : List S} (hc : Cells h b e xs) : ∃ x, h.get b = some x ∧ ∀ j, j < xs.length → x.cell j = xs[j]? := by
  obtain ⟨cs, h1, h2⟩ := hc
  exact ⟨_, h1, fun j hj => by
    show cond (Nat.blt j xs.length) (cs.get j) none = _
    rw [blt_true hj, cond_true, h2 j hj]⟩
theorem Cells.row {b e o n : Nat} {xs : List S} (hc : Cells h b e xs) (hl : o + n ≤ xs.length) : h.row b o n = some ((xs.drop o).take n) := by
  obtain ⟨x, h1, h2⟩ := hc.cell
  unfold H.row
  rw [h1]
  simp only
  have hn : ((xs.drop o).take n).length = n := by simp; omega
  have := O.row_of (o := x) (xs := (xs.drop o).take n) (j := o) fun i hi => by
    rw [hn] at hi
    rw [h2 _ (by omega), List.getElem?_take_of_lt hi, List.getElem?_drop]
  rw [hn] at this
  exact this
theorem Cells.of_alloc {e : Nat} {xs : List S} (hh : hidden h.hid h.next = false) : Cells (h.alloc (.cells e (Go.Ai.T.setMany .e 0 xs) xs.length)) h.next e xs :=
  ⟨Go.Ai.T.setMany .e 0 xs, by rw [H.get_alloc _ _ _ hh, if_pos rfl], fun j _ => Go.Ai.T.get_row xs j⟩
theorem Cells.get {h' : H} {b e : Nat} {xs : List S} (hc : Cells h b e xs) (hg : h'.get b = h.get b) : Cells h' b e xs := by
  obtain ⟨cs, h1, h2⟩ := hc
  exact ⟨cs, by rw [hg]; exact h1, h2⟩

theorem Cells.at1 {b e k : Nat} {xs : List S} {x : S} (hc : Cells h b e xs) (hx : xs[k]? = some x) : h.row b k 1 = some [x] := by
  obtain ⟨hk, rfl⟩ := List.getElem?_eq_some_iff.1 hx
  rw [hc.row (by omega), List.drop_eq_getElem_cons hk]; rfl
theorem row_head {b o n : Nat} {x : S} {xs : List S} (hr : h.row b o (n + 1) = some (x :: xs)) : h.row b o 1 = some [x] := by
  unfold H.row at hr ⊢
  split at hr
  · rename_i ob hb
    have hr : (match ob.cell o, ob.row n (o + 1) with
      | some x, some xs => some (x :: xs)
      | _, _ => none) = some (x :: xs) := hr
    split at hr
    · rename_i a l h1 h2
      cases hr
      show (match ob.cell o, some [] with
        | some x, some xs => some (x :: xs)
        | _, _ => none) = _
      rw [h1]
    · cases hr
  · cases hr
theorem row_sub {b o n : Nat} {xs : List S} (hr : h.row b o n = some xs) : ∀ {j : Nat} {x : S}, xs[j]? = some x → h.row b (o + j) 1 = some [x] := by
  unfold H.row at hr ⊢
  split at hr
  · rename_i ob hb
    have key : ∀ (n o : Nat) (xs : List S), ob.row n o = some xs → ∀ (j : Nat) (x : S), xs[j]? = some x → ob.cell (o + j) = some x := by
      intro n
      induction n with
      | zero => intro o xs hr j x hx; cases hr; simp at hx
      | succ n ih =>
        intro o xs hr j x hx
        have hr : (match ob.cell o, ob.row n (o + 1) with
          | some x, some xs => some (x :: xs)
          | _, _ => none) = some xs := hr
        split at hr
        · rename_i a l h1 h2
          cases hr
          cases j with
          | zero => simp at hx; subst hx; exact h1
          | succ j => rw [show o + (j + 1) = (o + 1) + j by omega]; exact ih _ _ h2 j x (by simpa using hx)
        · cases hr
    intro j x hx
    have := key n o xs hr j x hx
    show (match ob.cell (o + j), some [] with
      | some x, some xs => some (x :: xs)
      | _, _ => none) = _
    rw [this]
  · cases hr
theorem Cells.visible {b e : Nat} {xs : List S} (hc : Cells h b e xs) : hidden h.hid b = false := by
  obtain ⟨cs, h1, _⟩ := hc
  exact (H.get_some h1).1

/-! ### Values of operations -/
theorem nil_p {b o : Nat} : doNilCheck h (some (.one (.p b o))) = some (.val (.one (.p b o)) h) := rfl
theorem mv_some {v : V} : doMove h (some v) = some (.val v h) := rfl
theorem ofInt {k : IntKind} {n : Int} : V.ofVal (.int k n) = some (.one (.i k n)) := rfl
theorem ofBool {b : Bool} : V.ofVal (.bool b) = some (.one (.b b)) := rfl
theorem pick_b {a b : Operand} {t : Bool} : doPick T h a b (some (.one (.b t))) = doMove h (ev T (cond t a b)) := rfl
theorem not_b {t : Bool} : doUn h .not (some (.one (.b t))) = some (.val (.one (.b (!t))) h) := by cases t <;> rfl
theorem ex_not {d : Option Tmp} {ty t : TypeId} {ps : String} {af : Array Edge} {g : Option (Nat × Bool)} {x : Operand} {b : Bool} (hx : ev T x = some (.one (.b b))) : execO P T h ⟨d, .unOp .not t x, ty, ps, af, g⟩ = some (.val (.one (.b (!b))) h) := by
  show orPure P T h _ (doUn h .not (ev T x)) = _
  rw [hx, not_b]; rfl
theorem box_agg {e : Nat} {xs : List S} : doBox P h e (some (.agg xs)) = some (.val (.one (.p h.next 0)) (h.alloc (.cells e (Go.Ai.T.setMany .e 0 xs) xs.length))) := by
  unfold doBox ofTup alloc1; simp only; rw [H.rowK_eq]; rfl
theorem box_one {e : Nat} {x : S} : doBox P h e (some (.one x)) = some (.val (.one (.p h.next 0)) (h.alloc (.cells e (Go.Ai.T.setMany .e 0 [x]) [x].length))) := by
  unfold doBox ofTup alloc1; simp only; rw [H.rowK_eq]; rfl
/-- Facts of types, each by the kernel. -/
def fieldAt (P : Program) (s f : Nat) : Option Nat := match P.underlying s with
  | some (.struct fields) => match fields[f]? with
    | some fd => match sizeB P fd.type with
      | some (_ + 1) => some fd.offset
      | _ => none
    | none => none
  | _ => none
def elemAt (P : Program) (t : Nat) : Option (Nat × Nat) := match P.underlying t with
  | some (.slice e) => match sizeB P e with
    | some n => some (e, n)
    | none => none
  | _ => none
def kindAt (P : Program) (t : Nat) : Option (Bool × Nat) := match aggB P t, sizeB P t with
  | some a, some n => some (a, n)
  | _, _ => none
def fieldOf (P : Program) (s f : Nat) : Option (Bool × Nat × Nat) := match P.underlying s with
  | some (.struct fields) => match fields[f]? with
    | some fd => match aggB P fd.type, sizeB P fd.type with
      | some a, some n => some (a, fd.offset, n)
      | _, _ => none
    | none => none
  | _ => none
theorem fa_p {s f b o k : Nat} (hf : fieldAt P s f = some k) : doFieldAddr P h s f (some (.one (.p b o))) = some (.val (.one (.p b (o + k))) h) := by
  unfold fieldAt at hf
  unfold doFieldAddr
  simp only
  split at hf
  · rename_i fields hu
    rw [hu]
    simp only
    split at hf
    · rename_i fd hfd
      rw [hfd]
      simp only
      split at hf
      · rename_i n hs
        cases hf
        rw [hs]; simp only; rw [ptrR_eq]
      · cases hf
    · cases hf
  · cases hf
theorem ld_one {t b o n : Nat} {x : S} (ht : kindAt P t = some (false, n)) (hr : h.row b o 1 = some [x]) : doLoad P h t (some (.one (.p b o))) = some (.val (.one x) h) := by
  unfold kindAt at ht
  split at ht
  · rename_i a n' ha hs
    cases ht
    unfold doLoad; simp only; rw [ha, hs]; simp only; rw [hr]
  · cases ht
theorem ld_agg {t b o n : Nat} {xs : List S} (ht : kindAt P t = some (true, n)) (hr : h.row b o n = some xs) : doLoad P h t (some (.one (.p b o))) = some (.val (.agg xs) h) := by
  unfold kindAt at ht
  split at ht
  · rename_i a n' ha hs
    cases ht
    unfold doLoad; simp only; rw [ha, hs]; simp only; rw [hr]
  · cases ht
/-- What was loaded. -/
def oneR (h : H) : Option (List S) → Option R
  | some [x] => some (.val (.one x) h)
  | _ => none
def aggR (h : H) : Option (List S) → Option R
  | some xs => some (.val (.agg xs) h)
  | none => none
theorem oneR_some {x : S} : oneR h (some [x]) = some (.val (.one x) h) := rfl
theorem aggR_some {xs : List S} : aggR h (some xs) = some (.val (.agg xs) h) := rfl
theorem ld1 {t b o n : Nat} (ht : kindAt P t = some (false, n)) : doLoad P h t (some (.one (.p b o))) = oneR h (h.row b o 1) := by
  unfold kindAt at ht
  split at ht
  · rename_i a n' ha hs
    cases ht
    unfold doLoad; simp only; rw [ha, hs]; simp only
    rcases h.row b o 1 with _ | (_ | ⟨x, _ | ⟨y, l⟩⟩) <;> rfl
  · cases ht
theorem ldA {t b o n : Nat} (ht : kindAt P t = some (true, n)) : doLoad P h t (some (.one (.p b o))) = aggR h (h.row b o n) := by
  unfold kindAt at ht
  split at ht
  · rename_i a n' ha hs
    cases ht
    unfold doLoad; simp only; rw [ha, hs]; simp only
    cases h.row b o n <;> rfl
  · cases ht
theorem inRange_nat {j n : Nat} (hj : j < n) : inRange (j : Int) n = some j := by
  show cond (Nat.blt j n) (some j) none = _
  rw [blt_true hj]; rfl
theorem ix_sl {t b o len cap sz e n j : Nat} {ex : Bool} {k : IntKind} {i : Int} (ht : elemAt P t = some (e, n)) (hi : i = (j : Int)) (hj : j < len) : doIndexW P h t (some (.one (.sl b o len cap sz ex))) (some (.one (.i k i))) = some (.val (.one (.p b (o + j * n))) h) := by
  subst hi
  unfold elemAt at ht
  split at ht
  · rename_i e' hu
    split at ht
    · rename_i n' hs
      cases ht
      unfold doIndexW
      simp only
      unfold doIndexAddr
      simp only
      rw [hu]; simp only
      rw [hs, inRange_nat hj]; simp only
      rw [ptrR_eq]
    · cases ht
  · cases ht
theorem ixN {t b o len cap sz e n j : Nat} {ex : Bool} {k : IntKind} (ht : elemAt P t = some (e, n)) (hj : j < len) : doIndexW P h t (some (.one (.sl b o len cap sz ex))) (some (.one (.i k (j : Int)))) = some (.val (.one (.p b (o + j * n))) h) := ix_sl ht rfl hj
theorem fo_one {s f o n : Nat} {xs : List S} {x : S} (hf : fieldOf P s f = some (false, o, n)) (hx : xs[o]? = some x) : doField P h s f (some (.agg xs)) = some (.val (.one x) h) := by
  unfold fieldOf at hf
  unfold doField
  simp only
  split at hf
  · rename_i fields hu
    rw [hu]; simp only
    split at hf
    · rename_i fd hfd
      rw [hfd]; simp only
      split at hf
      · rename_i a n' ha hs
        cases hf
        rw [ha, hs]; simp only; rw [hx]
      · cases hf
    · cases hf
  · cases hf
theorem fo_agg {s f o n : Nat} {xs : List S} (hf : fieldOf P s f = some (true, o, n)) : doField P h s f (some (.agg xs)) = some (.val (.agg ((xs.drop o).take n)) h) := by
  unfold fieldOf at hf
  unfold doField
  simp only
  split at hf
  · rename_i fields hu
    rw [hu]; simp only
    split at hf
    · rename_i fd hfd
      rw [hfd]; simp only
      split at hf
      · rename_i a n' ha hs
        cases hf
        rw [ha, hs]
      · cases hf
    · cases hf
  · cases hf
/-! Stores. -/
theorem H.may_of {b : Nat} (h1 : h.floor ≤ b) (h2 : hidden h.hid b = false) (h3 : hidden h.frz b = false) : h.may b = true := by
  simp [H.may, h2, h3, Nat.ble_eq_true_of_le h1]
theorem storeB_of {b e o : Nat} {xs ys : List S} (hc : Cells h b e xs) (hm : h.may b = true) (hl : o + ys.length ≤ xs.length) (hy : ys ≠ []) :
    ∃ ob, storeB h b o ys = some (h.put b ob) ∧ Cells (h.put b ob) b e (xs.take o ++ ys ++ xs.drop (o + ys.length)) := by
  obtain ⟨cs, h1, h2⟩ := hc
  refine ⟨.cells e (cs.setMany o ys) xs.length, ?_, cs.setMany o ys, ?_, ?_⟩
  · unfold storeB
    cases ys with
    | nil => exact absurd rfl hy
    | cons y ys =>
      simp only
      rw [h1]; simp only
      rw [hm, show Nat.ble (o + (y :: ys).length) xs.length = true from Nat.ble_eq_true_of_le hl, Bool.and_self, cond_true, T.setManyK_eq, H.putK_eq]
  · rw [H.get_put h1, if_pos rfl]
    congr 2
    simp; omega
  · intro j hj
    rw [T.get_setMany]
    have hj' : j < xs.length := by simp at hj; omega
    by_cases q : o ≤ j ∧ j < o + ys.length
    · rw [if_pos q, List.append_assoc, List.getElem?_append_right (by simp; omega)]
      simp only [List.length_take, Nat.min_eq_left (show o ≤ xs.length by omega)]
      rw [List.getElem?_append_left (by omega)]
    · rw [if_neg q, h2 j hj']
      rcases Nat.lt_or_ge j o with q1 | q1
      · rw [List.append_assoc, List.getElem?_append_left (by simp; omega), List.getElem?_take_of_lt q1]
      · rw [List.getElem?_append_right (by simp; omega)]
        simp only [List.length_append, List.length_take, Nat.min_eq_left (show o ≤ xs.length by omega), List.getElem?_drop]
        congr 1; omega
theorem st_one {t b o : Nat} {n : Nat} {x : S} {h1 : H} (hk : sizeB P t = some 1) (hs : storeB h b o [x] = some h1) : doStore P h t (some (.one (.p b o))) (some (.one x)) = some (.val (.tup []) h1) := by
  unfold doStore
  simp only
  rw [hk]
  show cond (Nat.beq 1 1 && true) _ _ = _
  show (match storeB h b o [x] with
    | some h' => some (R.val (.tup []) h')
    | none => none) = _
  rw [hs]
theorem st_agg {t b o : Nat} {n : Nat} {xs : List S} {h1 : H} (hk : sizeB P t = some n) (hn : xs.length = n) (hs : storeB h b o xs = some h1) : doStore P h t (some (.one (.p b o))) (some (.agg xs)) = some (.val (.tup []) h1) := by
  unfold doStore
  simp only
  rw [hk]
  subst hn
  show cond (Nat.beq xs.length xs.length && true) _ _ = _
  rw [beq_self]
  show (match storeB h b o xs with
    | some h' => some (R.val (.tup []) h')
    | none => none) = _
  rw [hs]
theorem Cells.put {b c e : Nat} {xs : List S} {ob : O} (hc : Cells h b e xs) (hne : b ≠ c) (hv : ∃ o, h.get c = some o) : Cells (h.put c ob) b e xs := by
  obtain ⟨o, ho⟩ := hv
  exact hc.get (by rw [H.get_put ho, if_neg hne])
theorem Cells.alloc {b e : Nat} {xs : List S} {ob : O} (hc : Cells h b e xs) (hh : hidden h.hid h.next = false) (hb : b < h.next) : Cells (h.alloc ob) b e xs :=
  hc.get (by rw [H.get_alloc _ _ _ hh, if_neg (by omega)])
theorem Cells.there {b e : Nat} {xs : List S} (hc : Cells h b e xs) : ∃ o, h.get b = some o := by
  obtain ⟨cs, h1, _⟩ := hc; exact ⟨_, h1⟩
/-! min, max, len. -/
section
variable {d : Option Tmp} {ty : TypeId} {ps : String} {af : Array Edge} {g : Option (Nat × Bool)}
theorem ex_min {t t' : TypeId} {x y : Operand} {a b : Int} (hx : ev T x = some (.one (.i .i64 a))) (hy : ev T y = some (.one (.i .i64 b))) : execO P T h ⟨d, .call ⟨.builtin .min, #[x, y], #[t, t']⟩, ty, ps, af, g⟩ = some (.val (.one (.i .i64 (min a b))) h) := by
  show orPure P T h _ (doMinMax true h (evs T [x, y])) = _
  have : evs T [x, y] = some [.one (.i .i64 a), .one (.i .i64 b)] := by simp only [evs, hx, hy]
  rw [this]
  show orPure P T h _ (cond (ltI b a) _ _) = _
  rw [ltI_eq]
  rcases Int.lt_or_le b a with q | q
  · rw [decide_eq_true q, Int.min_eq_right (by omega)]; rfl
  · rw [decide_eq_false (by omega), Int.min_eq_left q]; rfl
theorem ex_max {t t' : TypeId} {x y : Operand} {a b : Int} (hx : ev T x = some (.one (.i .i64 a))) (hy : ev T y = some (.one (.i .i64 b))) : execO P T h ⟨d, .call ⟨.builtin .max, #[x, y], #[t, t']⟩, ty, ps, af, g⟩ = some (.val (.one (.i .i64 (max a b))) h) := by
  show orPure P T h _ (doMinMax false h (evs T [x, y])) = _
  have : evs T [x, y] = some [.one (.i .i64 a), .one (.i .i64 b)] := by simp only [evs, hx, hy]
  rw [this]
  show orPure P T h _ (cond (ltI a b) _ _) = _
  rw [ltI_eq]
  rcases Int.lt_or_le a b with q | q
  · rw [decide_eq_true q, Int.max_eq_right (by omega)]; rfl
  · rw [decide_eq_false (by omega), Int.max_eq_left q]; rfl
theorem ex_len {t e n : Nat} {x : Operand} {b o len cap sz : Nat} {ex : Bool} (ht : elemAt P t = some (e, n)) (hx : ev T x = some (.one (.sl b o len cap sz ex))) : execO P T h ⟨d, .call ⟨.builtin .len, #[x], #[t]⟩, ty, ps, af, g⟩ = some (.val (.one (.i .i64 (len : Int))) h) := by
  show orPure P T h _ (doLen P h t (ev T x)) = _
  rw [hx]
  unfold elemAt at ht
  split at ht
  · rename_i e' hu
    unfold doLen
    simp only
    rw [hu]; rfl
  · cases ht
theorem ex_len0 {t e n : Nat} {x : Operand} (ht : elemAt P t = some (e, n)) (hx : ev T x = some (.one .sl0)) : execO P T h ⟨d, .call ⟨.builtin .len, #[x], #[t]⟩, ty, ps, af, g⟩ = some (.val (.one (.i .i64 ((0 : Nat) : Int))) h) := by
  have hu : ∃ e', P.underlying t = some (.slice e') := by
    unfold elemAt at ht
    split at ht
    · rename_i e' hu; exact ⟨e', hu⟩
    · cases ht
  obtain ⟨e', hu⟩ := hu
  refine ex_pure (v := .int .i64 0) ?_ ?_ ?_ rfl
  · show orPure P T h _ (doLen P h t (ev T x)) = _
    rw [hx]; rfl
  · show allConc T [x] = true
    simp only [allConc, evc, hx]; rfl
  · have hp : ∀ ρ : Operand → Value, ρ x = .slice none 0 0 → prun P (execOp ρ ⟨d, .call ⟨.builtin .len, #[x], #[t]⟩, ty, ps, af, g⟩) = some (.value (.int .i64 0)) := by
      intro ρ hρ
      simp only [execOp, resolve, List.map_toArray, List.map_cons, List.map_nil, hρ, invoke, builtin, Builtin.len_, underlying]
      simp [Bind.bind, Pure.pure, Sem.bind, prun, program, hu, goInt]
    exact hp _ (by simp only [evc, hx]; rfl)
end
end
end Go.Ai
