/-
LayoutWraps, part 2 of 48: AiDefs.
-/
import Derived.Orders
import Derived.Test.YthacbaagffpkoaaLw01
set_option linter.unusedVariables false
set_option linter.unusedSimpArgs false
namespace Go.Ai
structure Tm where
 k : Int
 v : Nat
 lo : Int
 hi : Int
structure Lin where
 c : Int
 ts : List Tm
def evalTs (env : Nat → Int) : List Tm → Int
 | [] => 0
 | t :: ts => t.k * env t.v + evalTs env ts
def Lin.eval (env : Nat → Int) (e : Lin) : Int := e.c + evalTs env e.ts
def Lin.ok (env : Nat → Int) (e : Lin) : Prop := ∀ t ∈ e.ts, t.lo ≤ env t.v ∧ env t.v ≤ t.hi
inductive S where
 | b (x : Bool)
 | i (k : IntKind) (n : Int)
 | f (k : FloatKind) (bits : Nat)
 | c (k : FloatKind) (re im : Nat)
 | s (x : ByteArray)
 | p0
 | p (b o : Nat)
 | sl0
 | sl (b o len cap sz : Nat) (ex : Bool)
 | m0
 | m (r : Nat)
 | fn0 (f : Nat)
 | fn (f r : Nat)
 | nilf
 | nili
 | any
 | anysl
 | nat
 | yi (k : IntKind) (e : Lin)
 | fe (e : Lin)
 | ce (x y : Lin)
 | lsl (e : Lin)
 | slx (q o m : Nat) (e : Lin)
 | slw (q z : Nat) (e n : Lin)
inductive V where
 | one (x : S)
 | agg (xs : List S)
 | tup (xs : List (Bool × List S))
inductive O where
 | cells (e : Nat) (cs : T S) (n : Nat)
 | ro (cs : T S) (n : Nat)
 | map (es : List (V × V))
 | ghost (vs : List V)
structure Kn where
 call : Nat → List V → Option V
 facts : List Lin
 mx : List (Lin × Lin × Lin)
 pr : List (Lin × Lin × Lin) := []
structure H where
 tr : T O
 next : Nat
 floor : Nat
 hid : List (Nat × Nat)
 frz : List (Nat × Nat)
 kn : Kn
abbrev Sl := T V
noncomputable def Sl.get (t : Sl) (k : Nat) : Option V := T.get t k
noncomputable def Sl.set (t : Sl) (k : Nat) (v : V) : Sl := T.set t k v
noncomputable def Sl.setK {β : Type} (t : Sl) (k : Nat) (v : V) (K : Sl → β) : β := T.setK t k v K
theorem Sl.setK_eq {β : Type} (t : Sl) (k : Nat) (v : V) (K : Sl → β) : t.setK k v K = K (t.set k v) := T.setK_eq ..
noncomputable def Sl.new : Sl := T.e
noncomputable def Sl.setMany (t : Sl) (k : Nat) (l : List V) : Sl := List.rec (fun _ t => t) (fun x _ f k t => f (k + 1) (t.set k x)) l k t
noncomputable def Sl.setManyK {β : Type} (t : Sl) (k : Nat) (l : List V) (K : Sl → β) : β :=
 List.rec (fun _ t => K t) (fun x _ f k t => t.setK k x fun t => forceN (k + 1) fun k => f k t) l k t
theorem Sl.setManyK_eq {β : Type} (l : List V) (K : Sl → β) : ∀ (t : Sl) (k : Nat), t.setManyK k l K = K (t.setMany k l) := by
 induction l with
 | nil => intro t k; rfl
 | cons x l ih =>
  intro t k;show t.setK k x (fun t => forceN (k + 1) fun k => Sl.setManyK t k l K) = K (Sl.setMany (t.set k x) (k + 1) l);rw [Sl.setK_eq, forceN_eq, ih]
def S.conc : S → Option Value
 | .b x => some (.bool x)
 | .i k n => some (.int k n)
 | .f k z => some (.float k z)
 | .c k z y => some (.complex k z y)
 | .s x => some (.string x)
 | .p0 => some (.pointer none)
 | .sl0 => some (.slice none 0 0)
 | .m0 => some (.map none)
 | .fn0 z => some (.func (.func z) #[] #[])
 | .nilf => some .nilFunc
 | .nili => some .nilIface
 | _ => none
def concs : List S → Option (List Value)
 | [] => some []
 | x :: xs => match x.conc, concs xs with
  | some v, some vs => some (v :: vs)
  | _, _ => none
def V.conc : V → Option Value
 | .one x => x.conc
 | .agg xs => match concs xs with
  | some vs => some (.agg vs.toArray)
  | none => none
 | .tup [] => some (.tuple #[])
 | .tup _ => none
def S.ofVal : Value → Option S
 | .bool x => some (.b x)
 | .int k n => some (.i k n)
 | .float k z => some (.f k z)
 | .complex k z y => some (.c k z y)
 | .string x => some (.s x)
 | .pointer none => some .p0
 | .slice none 0 0 => some .sl0
 | .map none => some .m0
 | .func (.func z) ⟨[]⟩ ⟨[]⟩ => some (.fn0 z)
 | .nilFunc => some .nilf
 | .nilIface => some .nili
 | _ => none
def ofVals : List Value → Option (List S)
 | [] => some []
 | v :: vs => match S.ofVal v, ofVals vs with
  | some x, some xs => some (x :: xs)
  | _, _ => none
def V.ofVal : Value → Option V
 | .agg cs => match ofVals cs.toList with
  | some xs => some (.agg xs)
  | none => none
 | v => match S.ofVal v with
  | some x => some (.one x)
  | none => none
def V.cells : V → List S
 | .one x => [x]
 | .agg xs => xs
 | .tup _ => []
def V.isTup : V → Bool
 | .tup _ => true
 | _ => false
def V.part : V → Option (Bool × List S)
 | .one x => some (false, [x])
 | .agg xs => some (true, xs)
 | .tup _ => none
def ofPart : Bool × List S → Option V
 | (true, xs) => some (.agg xs)
 | (false, [x]) => some (.one x)
 | _ => none
def parts : List V → Option (List (Bool × List S))
 | [] => some []
 | v :: vs => match v.part, parts vs with
  | some x, some xs => some (x :: xs)
  | _, _ => none
def hidden : List (Nat × Nat) → Nat → Bool
 | [], _ => false
 | (lo, hi) :: r, b => (Nat.ble lo b && Nat.blt b hi) || hidden r b
noncomputable def H.get (h : H) (b : Nat) : Option O := cond (hidden h.hid b) none (h.tr.get b)
noncomputable def H.alloc (h : H) (o : O) : H := { h with tr := h.tr.set h.next o, next := h.next + 1 }
def H.may (h : H) (b : Nat) : Bool := Nat.ble h.floor b && !hidden h.hid b && !hidden h.frz b
noncomputable def H.allocK {β : Type} (h : H) (o : O) (K : H → β) : β := match h with
 | ⟨tr, next, floor, hid, frz, kn⟩ => tr.setK next o fun tr' => forceN (next + 1) fun n => K ⟨tr', n, floor, hid, frz, kn⟩
theorem H.allocK_eq {β : Type} (h : H) (o : O) (K : H → β) : h.allocK o K = K (h.alloc o) := by
 show h.tr.setK h.next o _ = _;rw [T.setK_eq, forceN_eq]; rfl
noncomputable def H.put (h : H) (b : Nat) (o : O) : H := { h with tr := h.tr.set b o }
noncomputable def H.putK {β : Type} (h : H) (b : Nat) (o : O) (K : H → β) : β := match h with
 | ⟨tr, next, floor, hid, frz, kn⟩ => tr.setK b o fun tr' => K ⟨tr', next, floor, hid, frz, kn⟩
theorem H.putK_eq {β : Type} (h : H) (b : Nat) (o : O) (K : H → β) : h.putK b o K = K (h.put b o) := by
 show h.tr.setK b o _ = _;rw [T.setK_eq]; rfl
noncomputable def H.kill (h : H) (b : Nat) : H := { h with tr := h.tr.upd b none }
noncomputable def H.killK {β : Type} (h : H) (b : Nat) (K : H → β) : β := match h with
 | ⟨tr, next, floor, hid, frz, kn⟩ => T.updK tr b none fun tr' => K ⟨tr', next, floor, hid, frz, kn⟩
theorem H.killK_eq {β : Type} (h : H) (b : Nat) (K : H → β) : h.killK b K = K (h.kill b) := by
 unfold H.killK;exact T.updK_eq ..
noncomputable def H.rowK {β : Type} (h : H) (e : Nat) (xs : List S) (n : Nat) (K : H → Nat → β) : β := T.setManyK .e 0 xs fun cs => forceN n fun n => forceN h.next fun b => h.allocK (.cells e cs n) fun h' => K h' b
theorem H.rowK_eq {β : Type} (h : H) (e : Nat) (xs : List S) (n : Nat) (K : H → Nat → β) : h.rowK e xs n K = K (h.alloc (.cells e (T.setMany .e 0 xs) n)) h.next := by
 unfold H.rowK; rw [T.setManyK_eq, forceN_eq, forceN_eq, H.allocK_eq]
noncomputable def O.cell : O → Nat → Option S
 | .cells _ cs n, j => cond (Nat.blt j n) (cs.get j) none
 | .ro cs n, j => cond (Nat.blt j n) (cs.get j) none
 | _, _ => none
noncomputable def O.row (o : O) : Nat → Nat → Option (List S)
 | 0, _ => some []
 | n + 1, j => match o.cell j, o.row n (j + 1) with
  | some x, some xs => some (x :: xs)
  | _, _ => none
noncomputable def H.row (h : H) (b o n : Nat) : Option (List S) := match h.get b with
 | some x => x.row n o
 | none => none
def sizeB (P : Program) (t : TypeId) : Option Nat := match P.info? t with
 | some i => some i.size
 | none => none
def aggB (P : Program) (t : TypeId) : Option Bool := match P.underlying t with
 | some (.struct _) => some true
 | some (.array _ _) => some true
 | some _ => some false
 | none => none
def zeroB (P : Program) (t : TypeId) : Option V := match P.info? t with
 | some i => match i.zero with
  | some v => V.ofVal v
  | none => none
 | none => none
def prun {α : Type} (P : Program) : Sem α → Option α
 | .pure a => some a
 | .program k => prun P (k P)
 | .mark _ k => prun P k
 | _ => none
noncomputable def ev (T0 : Sl) : Operand → Option V
 | .tmp t => T0.get t
 | .const v => V.ofVal v
 | .global _ => none
 | .func f => some (.one (.fn0 f))
noncomputable def evs (T0 : Sl) : List Operand → Option (List V)
 | [] => some []
 | x :: xs => match ev T0 x, evs T0 xs with
  | some v, some vs => some (v :: vs)
  | _, _ => none
noncomputable def evc (T0 : Sl) (x : Operand) : Option Value := match ev T0 x with
 | some v => v.conc
 | none => none
noncomputable def evInt (T0 : Sl) (x : Operand) : Option Int := match ev T0 x with
 | some (.one (.i _ n)) => some n
 | _ => none
inductive R where
 | val (v : V) (h : H)
 | enter (f : FuncId) (args : List V) (h : H)
noncomputable def slR (h : H) (b o len cap sz : Nat) (ex : Bool) : Option R := forceN o fun o => forceN len fun len => forceN cap fun cap => some (.val (.one (.sl b o len cap sz ex)) h)
theorem slR_eq (h : H) (b o len cap sz : Nat) (ex : Bool) : slR h b o len cap sz ex = some (.val (.one (.sl b o len cap sz ex)) h) := by
 unfold slR; rw [forceN_eq, forceN_eq, forceN_eq]
def lim63 : Nat := 9223372036854775808
def wrapI : Int → Int
 | .ofNat a => cond (Nat.blt a lim63) (.ofNat a) (IntKind.i64.wrap (.ofNat a))
 | .negSucc a => cond (Nat.blt a lim63) (.negSucc a) (IntKind.i64.wrap (.negSucc a))
noncomputable def numR (h : H) (x : Int) : Option R := forceI (wrapI x) fun z => some (.val (.one (.i .i64 z)) h)
noncomputable def ptrR (h : H) (b o : Nat) : Option R := forceN o fun o => some (.val (.one (.p b o)) h)
theorem ptrR_eq (h : H) (b o : Nat) : ptrR h b o = some (.val (.one (.p b o)) h) := by unfold ptrR; rw [forceN_eq]
noncomputable def allConc (T0 : Sl) : List Operand → Bool
 | [] => true
 | x :: xs => match evc T0 x with
  | some _ => allConc T0 xs
  | none => false
noncomputable def pureOp (P : Program) (T0 : Sl) (h : H) (o : Oper) : Option R :=
 cond (allConc T0 o.op.operands.toList) (match prun P (execOp (fun x => (evc T0 x).getD undef) o) with
  | some (.value v) => match V.ofVal v with
   | some x => some (.val x h)
   | none => none
  | _ => none) none
noncomputable def alloc1 (h : H) (e : TypeId) (v : V) : Option R := h.rowK e v.cells v.cells.length fun h' b => some (.val (.one (.p b 0)) h')
def ofTup : Option V → Option V
 | some (.tup _) => none
 | x => x
def fillS (place : Nat → Option (Nat × Nat)) (cells : List S) : List (Nat × V) → Option (List S)
 | [] => some cells
 | (i, v) :: rest => match place i with
  | none => none
  | some (off, size) =>
   cond (Nat.beq v.cells.length size && Nat.ble (off + v.cells.length) cells.length && !v.isTup) (fillS place (cells.take off ++ v.cells ++ cells.drop (off + v.cells.length)) rest) none
noncomputable def evParts (T0 : Sl) : List (Nat × Operand) → Option (List (Nat × V))
 | [] => some []
 | (i, x) :: xs => match ev T0 x, evParts T0 xs with
  | some v, some vs => some ((i, v) :: vs)
  | _, _ => none
def placesB (P : Program) : List Field → Option (List (Nat × Nat))
 | [] => some []
 | f :: fs => match sizeB P f.type, placesB P fs with
  | some s, some r => some ((f.offset, s) :: r)
  | _, _ => none
noncomputable def doBuild (P : Program) (T0 : Sl) (h : H) (t : TypeId) (ps : Array (Nat × Operand)) : Option R :=
 match zeroB P t, P.underlying t, evParts T0 ps.toList with
 | some (.agg zero), some (.struct fields), some vs => match placesB P fields.toList with
  | some pl => match fillS (fun i => pl[i]?) zero vs with
   | some cells => some (.val (.agg cells) h)
   | none => none
  | none => none
 | some (.agg zero), some (.array _ elem), some vs => match sizeB P elem with
  | some size => match fillS (fun i => some (i * size, size)) zero vs with
   | some cells => some (.val (.agg cells) h)
   | none => none
  | none => none
 | _, _, _ => none
def repeatS (zero : List S) : Nat → List S
 | 0 => []
 | n + 1 => zero ++ repeatS zero n
noncomputable def doBuildSlice (P : Program) (T0 : Sl) (h : H) (t : TypeId) (len : Nat) (ps : Array (Nat × Operand)) : Option R :=
 match P.underlying t, evParts T0 ps.toList with
 | some (.slice elem), some vs => match sizeB P elem, zeroB P elem with
  | some size, some z =>
   cond (Nat.ble (len * size) 16777216 && Nat.beq z.cells.length size && Nat.blt 0 size) (match fillS (fun i => some (i * size, size)) (repeatS z.cells len) vs with
    | some cells => h.rowK elem cells cells.length fun h' q => some (.val (.one (.sl q 0 len len size true)) h')
    | none => none) none
  | _, _ => none
 | _, _ => none
noncomputable def doLoad (P : Program) (h : H) (t : TypeId) : Option V → Option R
 | some (.one (.p b o)) => match aggB P t, sizeB P t with
  | some true, some n => match h.row b o n with
   | some xs => some (.val (.agg xs) h)
   | none => none
  | some false, some _ => match h.row b o 1 with
   | some [x] => some (.val (.one x) h)
   | _ => none
  | _, _ => none
 | _ => none
noncomputable def storeB (h : H) (b o : Nat) (xs : List S) : Option H :=
 match xs with
 | [] => some h
 | _ => match h.get b with
  | some (.cells e cs n) => cond (h.may b && Nat.ble (o + xs.length) n) (cs.setManyK o xs fun cs' => h.putK b (.cells e cs' n) some) none
  | _ => none
noncomputable def doStore (P : Program) (h : H) (t : TypeId) : Option V → Option V → Option R
 | some (.one (.p b o)), some v => match sizeB P t with
  | some n => cond (Nat.beq v.cells.length n && !v.isTup) (match storeB h b o v.cells with
   | some h' => some (.val (.tup []) h')
   | none => none) none
  | none => none
 | _, _ => none
def doNilCheck (h : H) : Option V → Option R
 | some (.one (.p b o)) => some (.val (.one (.p b o)) h)
 | some (.one (.fn0 f)) => some (.val (.one (.fn0 f)) h)
 | some (.one (.fn f r)) => some (.val (.one (.fn f r)) h)
 | _ => none
noncomputable def doFieldAddr (P : Program) (h : H) (s : TypeId) (f : Nat) : Option V → Option R
 | some (.one (.p b o)) => match P.underlying s with
  | some (.struct fields) => match fields[f]? with
   | some fd => match sizeB P fd.type with
    | some (_ + 1) => ptrR h b (o + fd.offset)
    | _ => none
   | none => none
  | _ => none
 | _ => none
def inRange (i : Int) (n : Nat) : Option Nat := match i with
 | .ofNat j => cond (Nat.blt j n) (some j) none
 | .negSucc _ => none
noncomputable def doIndexAddr (P : Program) (h : H) (t : TypeId) : Option V → Option V → Option R
 | some (.one (.sl b o len _ _ _)), some (.one (.i _ i)) => match P.underlying t with
  | some (.slice elem) => match sizeB P elem, inRange i len with
   | some size, some j => ptrR h b (o + j * size)
   | _, _ => none
  | _ => none
 | some (.one (.p b o)), some (.one (.i _ i)) => match P.underlying t with
  | some (.array len elem) => match sizeB P elem, inRange i len with
   | some size, some j => ptrR h b (o + j * size)
   | _, _ => none
  | _ => none
 | some (.one (.slx b o m _)), some (.one (.i _ i)) => match P.underlying t with
  | some (.slice elem) => match sizeB P elem, inRange i m with
   | some size, some j => ptrR h b (o + j * size)
   | _, _ => none
  | _ => none
 | _, _ => none
noncomputable def bound (T0 : Sl) (x : Option Operand) (dflt y : Nat) : Option Nat := match x with
 | none => some dflt
 | some x => match evInt T0 x with
  | some i => inRange i (y + 1)
  | none => none
noncomputable def doSlice (P : Program) (T0 : Sl) (h : H) (t : TypeId) (lo hi mx : Option Operand) : Option V → Option R
 | some (.one (.sl b o len cap sz ex)) => match P.underlying t with
  | some (.slice elem) => match sizeB P elem, bound T0 mx cap cap with
   | some size, some m => match bound T0 hi len m with
    | some k => match bound T0 lo 0 k with
     | some l => cond ((mx.isNone || hi.isSome) && Nat.beq size sz) (slR h b (o + l * size) (k - l) (m - l) sz (ex || mx.isSome)) none
     | none => none
    | none => none
   | _, _ => none
  | _ => none
 | _ => none
def doField (P : Program) (h : H) (t : TypeId) (f : Nat) : Option V → Option R
 | some (.agg xs) => match P.underlying t with
  | some (.struct fields) => match fields[f]? with
   | some fd => match aggB P fd.type, sizeB P fd.type with
    | some true, some n => some (.val (.agg ((xs.drop fd.offset).take n)) h)
    | some false, some _ => match xs[fd.offset]? with
     | some x => some (.val (.one x) h)
     | none => none
    | _, _ => none
   | none => none
  | _ => none
 | _ => none
def doExtract (h : H) (ix : Nat) : Option V → Option R
 | some (.tup vs) => match vs[ix]? with
  | some w => match ofPart w with
   | some v => some (.val v h)
   | none => none
  | none => none
 | _ => none
noncomputable def doMakeSlice (P : Program) (h : H) (t : TypeId) : Option V → Option V → Option R
 | some (.one (.i .i64 (.ofNat len))), some (.one (.i .i64 (.ofNat cap))) => match P.underlying t with
  | some (.slice elem) => match P.info? elem, zeroB P elem with
   | some i, some z => cond (Nat.ble len cap && Nat.ble (cap * i.bytes) 1099511627776 && Nat.ble cap 1099511627776 && Nat.beq z.cells.length i.size && Nat.blt 0 i.size)
     (h.rowK elem (repeatS z.cells cap) (cap * i.size) fun h' q => some (.val (.one (.sl q 0 len cap i.size true)) h')) none
   | _, _ => none
  | _ => none
 | _, _ => none
def eqI : Int → Int → Bool
 | .ofNat a, .ofNat b => Nat.beq a b
 | .negSucc a, .negSucc b => Nat.beq a b
 | _, _ => false
def ltI : Int → Int → Bool
 | .ofNat a, .ofNat b => Nat.blt a b
 | .negSucc a, .negSucc b => Nat.blt b a
 | .negSucc _, .ofNat _ => true
 | .ofNat _, .negSucc _ => false
def insT (t : Tm) : List Tm → List Tm
 | [] => [t]
 | u :: us => cond (Nat.blt t.v u.v) (t :: u :: us) (cond (Nat.beq t.v u.v) (cond (eqI (t.k + u.k) 0) us ({ k := t.k + u.k, v := u.v, lo := u.lo, hi := u.hi } :: us)) (u :: insT t us))
def addTs : List Tm → List Tm → List Tm
 | [], us => us
 | t :: ts, us => insT t (addTs ts us)
def scaleTs (n : Int) : List Tm → List Tm
 | [] => []
 | t :: ts => { k := n * t.k, v := t.v, lo := t.lo, hi := t.hi } :: scaleTs n ts
def Lin.num (n : Int) : Lin := { c := n, ts := [] }
def Lin.add (a b : Lin) : Lin := { c := a.c + b.c, ts := addTs a.ts b.ts }
def Lin.scale (n : Int) (a : Lin) : Lin := { c := n * a.c, ts := cond (eqI n 0) [] (scaleTs n a.ts) }
def Lin.sub (a b : Lin) : Lin := a.add (b.scale (-1))
def loTs : List Tm → Int
 | [] => 0
 | t :: ts => cond (ltI t.k 0) (t.k * t.hi) (t.k * t.lo) + loTs ts
def hiTs : List Tm → Int
 | [] => 0
 | t :: ts => cond (ltI t.k 0) (t.k * t.lo) (t.k * t.hi) + hiTs ts
def Lin.lo (e : Lin) : Int := e.c + loTs e.ts
def Lin.hi (e : Lin) : Int := e.c + hiTs e.ts
def Lin.isNum (e : Lin) : Option Int := match e.ts with
 | [] => some e.c
 | _ => none
def ty64 : IntKind → Bool
 | .i64 => true
 | .u64 => true
 | _ => false
def lim64 : Nat := 18446744073709551616
def inR (k : IntKind) (e : Lin) : Bool := match k with
 | .i64 => !ltI e.lo (Int.negSucc (lim63 - 1)) && ltI e.hi (.ofNat lim63)
 | .u64 => !ltI e.lo 0 && ltI e.hi (.ofNat lim64)
 | _ => false
def limF : Nat := 4503599627370496
def inF (e : Lin) : Bool := !ltI e.lo (Int.negSucc (limF - 1)) && !ltI (.ofNat limF) e.hi
def asL : Option V → Option (IntKind × Lin)
 | some (.one (.i k n)) => cond (ty64 k && inR k (Lin.num n)) (some (k, Lin.num n)) none
 | some (.one (.yi k e)) => cond (ty64 k) (some (k, e)) none
 | _ => none
def tmEq (a b : Tm) : Bool := eqI a.k b.k && Nat.beq a.v b.v && eqI a.lo b.lo && eqI a.hi b.hi
def tmsEq : List Tm → List Tm → Bool
 | [], [] => true
 | a :: l, b :: m => tmEq a b && tmsEq l m
 | _, _ => false
def linEq (a b : Lin) : Bool := eqI a.c b.c && tmsEq a.ts b.ts
noncomputable def doIndexW (P : Program) (h : H) (t : TypeId) (x y : Option V) : Option R := match x with
 | some (.one (.slw b z e _)) => match P.underlying t, asL y with
  | some (.slice elem), some (k, e') => match sizeB P elem with
   | some size => cond (linEq e e' && inR k e' && Nat.beq size z) (ptrR h b 0) none
   | none => none
  | _, _ => none
 | _ => doIndexAddr P h t x y
def asFN (b : Nat) : Option Lin := match (FloatKind.f64.decode b).toInt .zero with
 | some n => cond (inF (Lin.num n) && Nat.beq (FloatKind.f64.nearest n) b) (some (Lin.num n)) none
 | none => none
def asF : Option V → Option Lin
 | some (.one (.f .f64 b)) => asFN b
 | some (.one (.fe e)) => some e
 | _ => none
def asC : Option V → Option (Lin × Lin)
 | some (.one (.c .f64 re im)) => match asFN re, asFN im with
  | some x, some y => some (x, y)
  | _, _ => none
 | some (.one (.ce x y)) => some (x, y)
 | _ => none
def mkY (k : IntKind) (e : Lin) : V := match e.isNum with
 | some c => .one (.i k (k.wrap c))
 | none => .one (.yi k e)
def factLt (d : Lin) : List Lin → Option Bool
 | [] => none
 | f :: fs => cond (ltI (d.add f).hi 0) (some true) (cond (ltI (d.sub f).lo 0) (factLt d fs) (some false))
def ltD (fs : List Lin) (d : Lin) : Option Bool := cond (ltI d.hi 0) (some true) (cond (ltI d.lo 0) (factLt d fs) (some false))
def ltL (fs : List Lin) (a b : Lin) : Option Bool := ltD fs (a.sub b)
def eqD (c : Option Int) : Option Bool → Option Bool → Option Bool
 | some true, _ => some false
 | _, some true => some false
 | some false, some false => some true
 | _, _ => match c with
  | some c => some (eqI c 0)
  | none => none
def eqL (fs : List Lin) (a b : Lin) : Option Bool := eqD (a.sub b).isNum (ltD fs (a.sub b)) (ltD fs (b.sub a))
def sameTs : List Tm → List Tm → Bool
 | [], [] => true
 | t :: ts, u :: us => eqI t.k u.k && Nat.beq t.v u.v && sameTs ts us
 | _, _ => false
def sameL (a b : Lin) : Bool := eqI a.c b.c && sameTs a.ts b.ts
def maxL (a b : Lin) : List (Lin × Lin × Lin) → Option Lin
 | [] => none
 | (x, y, z) :: r => cond (sameL a x && sameL b y) (some z) (maxL a b r)
def notO : Option Bool → Option Bool
 | some b => some (!b)
 | none => none
def cmpL (fs : List Lin) (op : BinOp) (a b : Lin) : Option Bool := match op with
 | .eql => eqL fs a b
 | .neq => notO (eqL fs a b)
 | .lss => ltL fs a b
 | .gtr => ltL fs b a
 | .leq => notO (ltL fs b a)
 | .geq => notO (ltL fs a b)
 | _ => none
def eqY (fs : List Lin) : Option (IntKind × Lin) → Option (IntKind × Lin) → Option Bool
 | some (k, a), some (k', b) => cond (k == k' && inR k a && inR k b) (eqL fs a b) none
 | _, _ => none
def asB : S → Option Bool
 | .b x => some x
 | _ => none
def asStr : S → Option ByteArray
 | .s x => some x
 | _ => none
def asNum : S → Option (IntKind × Int)
 | .i k x => some (k, x)
 | _ => none
def asPtr : S → Option (Option (Nat × Nat))
 | .p0 => some none
 | .p b o => some (some (b, o))
 | _ => none
noncomputable def roAt (cs : T S) (n : Nat) : Option (Nat × Nat) := match cs.get n with
 | some (.fn c s) => some (c, s)
 | _ => none
def roSame (o o' : Nat) : Option (Nat × Nat) → Option (Nat × Nat) → Option Bool
 | some (c, s), some (c', s') => some (Nat.beq c c' && Nat.beq (s + o) (s' + o'))
 | _, _ => none
def roApart : Option (Nat × Nat) → Option Bool
 | some _ => some false
 | none => none
noncomputable def samePtr (h : H) (b o b' o' : Nat) : Option Bool := cond (Nat.beq b b') (some (Nat.beq o o')) (match h.get b, h.get b' with
 | some (.ro cs n), some (.ro cs' n') => roSame o o' (roAt cs n) (roAt cs' n')
 | some (.ro cs n), some (.cells _ _ _) => roApart (roAt cs n)
 | some (.cells _ _ _), some (.ro cs n) => roApart (roAt cs n)
 | some (.cells _ _ _), some (.cells _ _ _) => some false
 | _, _ => none)
noncomputable def samePtrs (h : H) : Option (Nat × Nat) → Option (Nat × Nat) → Option Bool
 | none, none => some true
 | some (b, o), some (b', o') => samePtr h b o b' o'
 | _, _ => some false
noncomputable def eqPtr (h : H) (x y : S) : Option Bool := match asPtr x, asPtr y with
 | some a, some b => samePtrs h a b
 | _, _ => none
noncomputable def eqCell (P : Program) (h : H) (t : TypeId) (x y : S) : Option Bool := match P.underlying t with
 | some (.int _) => match asNum x, asNum y with
  | some (k, a), some (k', b) => cond (k == k') (some (eqI a b)) none
  | _, _ => eqY h.kn.facts (asL (some (.one x))) (asL (some (.one y)))
 | some .bool => match asB x, asB y with
  | some a, some b => some (a == b)
  | _, _ => none
 | some .string => match asStr x, asStr y with
  | some a, some b => some (a.toList == b.toList)
  | _, _ => none
 | some (.pointer e) => match sizeB P e with
  | some (_ + 1) => eqPtr h x y
  | _ => none
 | _ => none
def cmpName : String := "internal/bytealg.abigen_runtime_cmpstring"
def cmpFn (P : Program) (g : FuncId) : Bool := match P.funcs[g]? with
 | some fn => match fn.body with
  | none => fn.name == cmpName && fn.origin == ""
  | some _ => false
 | none => false
def cmpS : List UInt8 → List UInt8 → Int
 | [], [] => 0
 | [], _ :: _ => -1
 | _ :: _, [] => 1
 | a :: l, b :: m => cond (Nat.blt a.toNat b.toNat) (-1) (cond (Nat.blt b.toNat a.toNat) 1 (cmpS l m))
def callR (P : Program) (h : H) (g : FuncId) (vs : List V) : Option R := match vs with
 | [.one (.s x), .one (.s y)] => cond (cmpFn P g) (some (.val (.one (.i .i64 (cmpS x.data.toList y.data.toList))) h)) (some (.enter g vs h))
 | _ => some (.enter g vs h)
noncomputable def doCall (P : Program) (T0 : Sl) (h : H) (f : Operand) (args : Array Operand) : Option R :=
 match ev T0 f, evs T0 args.toList with
 | some (.one (.fn0 g)), some vs => callR P h g vs
 | some (.one (.fn g r)), some vs => match h.get r with
  | some (.ghost cs) => some (.enter g (vs ++ cs) h)
  | _ => none
 | _, _ => none
noncomputable def doLen (P : Program) (h : H) (t : TypeId) : Option V → Option R
 | some (.one (.sl _ _ n _ _ _)) => match P.underlying t with
  | some (.slice _) => some (.val (.one (.i .i64 (.ofNat n))) h)
  | _ => none
 | some (.one .anysl) => match P.underlying t with
  | some (.slice _) => some (.val (.one .nat) h)
  | _ => none
 | some (.one (.m r)) => match P.underlying t, h.get r with
  | some (.map _ _), some (.map es) => some (.val (.one (.i .i64 es.length)) h)
  | _, _ => none
 | _ => none
def flatB (P : Program) (t : TypeId) : Bool := match P.underlying t with
 | some .bool => true
 | some (.int _) => true
 | some .string => true
 | some (.pointer _) => true
 | _ => false
def flatFields (P : Program) : Nat → List Field → Bool
 | _, [] => true
 | n, f :: fs => flatB P f.type && Nat.beq f.offset n && f.name != "_" && flatFields P (n + 1) fs
noncomputable def eqFieldsB (P : Program) (h : H) : List Field → List S → List S → Option Bool
 | [], [], [] => some true
 | f :: fs, x :: xs, y :: ys => match eqCell P h f.type x y with
  | some true => eqFieldsB P h fs xs ys
  | some false => some false
  | none => none
 | _, _, _ => none
def keyB (P : Program) (t : TypeId) : Option (Option (List Field)) := cond (flatB P t) (some none) (match P.underlying t with
 | some (.struct fs) => cond (flatFields P 0 fs.toList && !P.stoodInHeld t) (some (some fs.toList)) none
 | _ => none)
def keyOk : Option (Option (List Field)) → V → Bool
 | some none, .one _ => true
 | some (some fs), .agg xs => Nat.beq xs.length fs.length
 | _, _ => false
noncomputable def eqKey (P : Program) (h : H) (t : TypeId) (kb : Option (Option (List Field))) (x y : V) : Option Bool := match kb, x, y with
 | some none, .one a, .one b => eqCell P h t a b
 | some (some fs), .agg xs, .agg ys => eqFieldsB P h fs xs ys
 | _, _, _ => none
noncomputable def findB (P : Program) (h : H) (t : TypeId) (kb : Option (Option (List Field))) (k : V) : List (V × V) → Option (Option V)
 | [] => some none
 | (k', v) :: r => match eqKey P h t kb k k' with
  | some true => some (some v)
  | some false => findB P h t kb k r
  | none => none
def lookR (h : H) (v : V) (there ok : Bool) : Option R := cond ok (match v.part with
  | some w => some (.val (.tup [w, (false, [.b there])]) h)
  | none => none) (some (.val v h))
noncomputable def lookB (P : Program) (h : H) (elem : TypeId) (ok : Bool) : Option (Option V) → Option R
 | some (some v) => lookR h v true ok
 | some none => match zeroB P elem with
  | some z => lookR h z false ok
  | none => none
 | none => none
noncomputable def doLookup (P : Program) (h : H) (t : TypeId) (ok : Bool) : Option V → Option V → Option R
 | some (.one (.m r)), some k => match P.underlying t, h.get r with
  | some (.map key elem), some (.map es) => cond (keyOk (keyB P key) k) (lookB P h elem ok (findB P h key (keyB P key) k es)) none
  | _, _ => none
 | _, _ => none
def sameC : S → S → Bool
 | .i k a, .i k' b => k == k' && eqI a b
 | .p b o, .p b' o' => Nat.beq b b' && Nat.beq o o'
 | _, _ => false
def sameCs : List S → List S → Bool
 | [], [] => true
 | x :: xs, y :: ys => sameC x y && sameCs xs ys
 | _, _ => false
def sameV : V → V → Bool
 | .one x, .one y => sameC x y
 | .agg xs, .agg ys => sameCs xs ys
 | _, _ => false
noncomputable def swapB (P : Program) (h : H) (t : TypeId) (kb : Option (Option (List Field))) (k v : V) : List (V × V) → Option (List (V × V))
 | [] => none
 | (k', v') :: r => match eqKey P h t kb k k' with
  | some true => cond (sameV k k') (some ((k', v) :: r)) none
  | some false => match swapB P h t kb k v r with
   | some l => some ((k', v') :: l)
   | none => none
  | none => none
noncomputable def doMapUpdate (P : Program) (h : H) (t : TypeId) : Option V → Option V → Option V → Option R
 | some (.one (.m r)), some k, some v => match P.underlying t, h.get r with
  | some (.map key _), some (.map es) => cond (keyOk (keyB P key) k && h.may r && !v.isTup) (match findB P h key (keyB P key) k es with
   | some none => h.putK r (.map (es ++ [(k, v)])) fun h' => some (.val (.tup []) h')
   | some (some _) => match swapB P h key (keyB P key) k v es with
    | some l => h.putK r (.map l) fun h' => some (.val (.tup []) h')
    | none => none
   | _ => none) none
  | _, _ => none
 | _, _, _ => none
noncomputable def doMakeMap (P : Program) (h : H) (t : TypeId) : Option Operand → Option R
 | none => match P.underlying t with
  | some (.map _ _) => forceN h.next fun q => h.allocK (.map []) fun h' => some (.val (.one (.m q)) h')
  | _ => none
 | some _ => none
def srcLen : V → Option Nat
 | .one .sl0 => some 0
 | .one (.sl _ _ n _ _ _) => some n
 | .one (.s x) => some x.size
 | .one (.lsl e) => match e.isNum with
  | some (.ofNat 0) => some 0
  | _ => none
 | _ => none
noncomputable def srcB (h : H) (size n : Nat) : V → Option (List S)
 | .one .sl0 => some []
 | .one (.sl b o _ _ _ _) => cond (Nat.beq n 0) (some []) (h.row b o (n * size))
 | .one (.s x) => cond (Nat.beq size 1) (some ((x.extract 0 n).data.toList.map (fun c => S.i .u8 c.toNat))) none
 | .one (.lsl _) => some []
 | _ => none
noncomputable def growB (h : H) (b o l elem : Nat) (xs old : List S) (K : H → Nat → Option R) : Option R := match h.get b with
 | some (.cells e cs m) => cond (h.may b && Nat.beq e elem) (cond (Nat.beq o 0 && Nat.beq l m)
   (h.killK b fun h1 => cs.setManyK m xs fun cs' => forceN (m + xs.length) fun m' => forceN h1.next fun q => h1.allocK (.cells elem cs' m') fun h' => K h' q)
   (h.killK b fun h1 => h1.rowK elem (old ++ xs) (old ++ xs).length K)) none
 | _ => none
noncomputable def appendTo (P : Program) (h : H) (elem : TypeId) (i : TypeInfo) (xs : List S) (n : Nat) : Option V → Option R
 | some (.one .sl0) => cond (Nat.beq n 0) (some (.val (.one .sl0) h))
   (cond (Nat.ble (n * i.bytes) 1099511627776 && Nat.ble n 1099511627776) (h.rowK elem xs xs.length fun h' q => slR h' q 0 n n i.size false) none)
 | some (.one (.sl b o len cap sz ex)) => cond (Nat.beq sz i.size)
  (cond (Nat.ble (len + n) cap)
   (match storeB h b (o + len * i.size) xs with
    | some h' => slR h' b o (len + n) cap sz ex
    | none => none)
   (cond (Nat.ble ((len + n) * i.bytes) 1099511627776 && Nat.ble (len + n) 1099511627776)
    (match h.row b o (len * i.size) with
     | some old => cond ex
       (h.rowK elem (old ++ xs) (old ++ xs).length fun h' q => slR h' q 0 (len + n) (len + n) sz false)
       (growB h b o (len * i.size) elem xs old fun h' q => slR h' q 0 (len + n) (len + n) sz false)
     | none => none) none)) none
 | _ => none
def srcType (P : Program) (u : TypeId) : Bool := match P.underlying u with
 | some (.slice _) => true
 | some .string => true
 | _ => false
noncomputable def appendAt (P : Program) (h : H) (elem : TypeId) (i : TypeInfo) (s : Option V) (x : V) : Option R :=
 match i.zero, srcLen x with
 | some z, some n => match srcB h i.size n x with
  | some xs => cond (Nat.blt 0 i.size && Nat.beq z.cells.size i.size && Nat.beq xs.length (n * i.size)) (appendTo P h elem i xs n s) none
  | none => none
 | _, _ => none
noncomputable def appendZ (P : Program) (h : H) (elem u : TypeId) (i : TypeInfo) (s : Option V) : V → Option R
 | .one (.i .i64 (.ofNat n)) => match P.underlying u, i.zero with
  | some (.int .i64), some z => match V.ofVal z with
   | some y => cond (Nat.blt 0 i.size && Nat.beq z.cells.size i.size && Nat.beq y.cells.length i.size && !y.isTup && Nat.ble (n * i.bytes) 1099511627776 && Nat.ble n 1099511627776) (appendTo P h elem i (repeatS y.cells n) n s) none
   | none => none
  | _, _ => none
 | _ => none
noncomputable def doAppend (P : Program) (h : H) (t u : TypeId) (s : Option V) : Option V → Option R
 | some x => match P.underlying t with
  | some (.slice elem) => match P.info? elem with
   | some i => cond (srcType P u) (appendAt P h elem i s x) (appendZ P h elem u i s x)
   | none => none
  | _ => none
 | none => none
def boolR (h : H) : Bool → Option R
 | true => some (.val (.one (.b true)) h)
 | false => some (.val (.one (.b false)) h)
def isSl : Option V → Bool
 | some (.one (.sl _ _ _ _ _ _)) => true
 | _ => false
def asI : Option V → Option Int
 | some (.one (.i .i64 x)) => some x
 | _ => none
noncomputable def intOp (h : H) (op : BinOp) (x y : Int) : Option R := match op with
 | .add => numR h (x + y)
 | .sub => numR h (x - y)
 | .mul => numR h (x * y)
 | .eql => boolR h (eqI x y)
 | .neq => boolR h (!eqI x y)
 | .lss => boolR h (ltI x y)
 | .leq => boolR h (!ltI y x)
 | .gtr => boolR h (ltI y x)
 | .geq => boolR h (!ltI x y)
 | _ => none
def sameR (h : H) (op : BinOp) : Option Bool → Option R
 | some r => match op with
  | .eql => some (.val (.one (.b r)) h)
  | .neq => some (.val (.one (.b !r)) h)
  | _ => none
 | none => none
def isP0 : Option V → Bool
 | some (.one .p0) => true
 | _ => false
def isSl0 : Option V → Bool
 | some (.one .sl0) => true
 | _ => false
def isNat : Option V → Bool
 | some (.one .nat) => true
 | _ => false
def ptrOf : Option V → Option (Nat × Nat)
 | some (.one (.p b o)) => some (b, o)
 | _ => none
noncomputable def addrOp (h : H) (op : BinOp) (x y : Option V) : Option R := match ptrOf x, ptrOf y with
 | some (b, o), some (b', o') => sameR h op (samePtr h b o b' o')
 | some _, none => cond (isP0 y) (sameR h op (some false)) none
 | none, some _ => cond (isP0 x) (sameR h op (some false)) none
 | none, none => cond ((isSl x && isSl0 y) || (isSl0 x && isSl y)) (sameR h op (some false)) (cond (isNat x && (match asI y with
   | some (.ofNat 0) => true
   | _ => false)) (match op with
   | .geq => some (.val (.one (.b true)) h)
   | _ => none) none)
noncomputable def binOpS (h : H) (op : BinOp) (x y : Option V) : Option R := match asI x, asI y with
 | some a, some b => intOp h op a b
 | _, _ => addrOp h op x y
def ptrB (P : Program) (t : TypeId) : Bool := match P.underlying t with
 | some (.pointer e) => match sizeB P e with
  | some (_ + 1) => true
  | _ => false
 | _ => false
def isPtr : Option V → Bool
 | some (.one (.p _ _)) => true
 | _ => false
def sliceB (P : Program) (t : TypeId) : Bool := match P.underlying t with
 | some (.slice _) => true
 | _ => false
noncomputable def doBin (P : Program) (h : H) (op : BinOp) (t : TypeId) (x y : Option V) : Option R :=
 cond (((isPtr x || isPtr y) && !ptrB P t) || ((isSl x || isSl y) && !sliceB P t)) none (binOpS h op x y)
def boolV : Option Bool → Option V
 | some b => some (.one (.b b))
 | none => none
def quoTs (c : Int) : List Tm → List Tm
 | [] => []
 | t :: ts => cond (eqI (t.k % c) 0) ({ k := t.k / c, v := t.v, lo := t.lo, hi := t.hi } :: quoTs c ts) (quoTs c ts)
def remTs (c : Int) : List Tm → List Tm
 | [] => []
 | t :: ts => cond (eqI (t.k % c) 0) (remTs c ts) (t :: remTs c ts)
def Lin.quo (a : Lin) (c : Int) : Lin := { c := a.c / c, ts := quoTs c a.ts }
def Lin.rem (a : Lin) (c : Int) : Lin := { c := a.c % c, ts := remTs c a.ts }
def divL (k : IntKind) (a : Lin) (quo : Bool) : Option Int → Option V
 | some c => cond (ltI 0 c && inR k a && inR k (Lin.num c) && !ltI a.lo 0 && !ltI (a.rem c).lo 0 && ltI (a.rem c).hi c) (some (mkY k (cond quo (a.quo c) (a.rem c)))) none
 | none => none
def mulL (k : IntKind) (a b : Lin) : Option Int → Option Int → Option V
 | some c, _ => some (mkY k (b.scale c))
 | none, some c => some (mkY k (a.scale c))
 | none, none => none
def intL (fs : List Lin) (op : BinOp) (k : IntKind) (a b : Lin) : Option V := match op with
 | .add => some (mkY k (a.add b))
 | .sub => some (mkY k (a.sub b))
 | .mul => mulL k a b a.isNum b.isNum
 | .quo => divL k a true b.isNum
 | .rem => divL k a false b.isNum
 | .eql | .neq | .lss | .leq | .gtr | .geq => cond (inR k a && inR k b) (boolV (cmpL fs op a b)) none
 | _ => none
def fltL (fs : List Lin) (op : BinOp) (a b : Lin) : Option V := match op with
 | .add => cond (inF (a.add b)) (some (.one (.fe (a.add b)))) none
 | .eql | .neq | .lss | .leq | .gtr | .geq => boolV (cmpL fs op a b)
 | _ => none
def andO : Option Bool → Option Bool → Option Bool
 | some a, some b => some (a && b)
 | _, _ => none
def cpxL (fs : List Lin) (op : BinOp) (a b c d : Lin) : Option V := match op with
 | .eql => boolV (andO (eqL fs a c) (eqL fs b d))
 | .neq => boolV (notO (andO (eqL fs a c) (eqL fs b d)))
 | _ => none
def sym2 (fs : List Lin) (op : BinOp) (x y : Option V) : Option V := match asL x, asL y with
 | some (k, a), some (k', b) => cond (k == k') (intL fs op k a b) none
 | _, _ => match asF x, asF y with
  | some a, some b => fltL fs op a b
  | _, _ => match asC x, asC y with
   | some (a, b), some (c, d) => cpxL fs op a b c d
   | _, _ => none
def sym1 : UnOp → Option (IntKind × Lin) → Option V
 | .neg, some (k, a) => some (mkY k (a.scale (-1)))
 | _, _ => none
def convL (x : Option V) : Option TypeDesc → Option TypeDesc → Option V
 | some _, some (.int k) => match asL x with
  | some (k', e) => cond (ty64 k) (some (mkY k e)) none
  | none => match k, asF x with
   | .i64, some e => some (mkY .i64 e)
   | _, _ => none
 | some _, some (.float .f64) => match asL x with
  | some (k', e) => cond (inR k' e && inF e) (some (.one (.fe e))) none
  | none => none
 | _, _ => none
def pickL (lt gt : Option Bool) (x y : V) : Option V := match lt with
 | some true => some y
 | some false => some x
 | none => match gt with
  | some false => some y
  | _ => none
def orMax (k : IntKind) (a b : Lin) (mx : List (Lin × Lin × Lin)) : Option V → Option V
 | some v => some v
 | none => match maxL a b mx with
  | some c => some (mkY k c)
  | none => none
def minL (kn : Kn) (mn : Bool) : List V → Option V
 | [x, y] => match asL (some x), asL (some y) with
  | some (k, a), some (k', b) => cond (k == k' && inR k a && inR k b) (cond mn (pickL (ltL kn.facts b a) (ltL kn.facts a b) x y) (orMax k a b kn.mx (pickL (ltL kn.facts a b) (ltL kn.facts b a) x y))) none
  | _, _ => none
 | _ => none
def symB (kn : Kn) (P : Program) : Builtin → List V → List TypeId → Option V
 | .min, l, _ => minL kn true l
 | .max, l, _ => minL kn false l
 | .complex, [x, y], _ => match asF (some x), asF (some y) with
  | some a, some b => some (.one (.ce a b))
  | _, _ => none
 | .real, [x], _ => match asC (some x) with
  | some (a, _) => some (.one (.fe a))
  | none => none
 | .imag, [x], _ => match asC (some x) with
  | some (_, b) => some (.one (.fe b))
  | none => none
 | .len, [.one (.lsl e)], [t] => match P.underlying t with
  | some (.slice _) => cond (inR .i64 e) (some (mkY .i64 e)) none
  | _ => none
 | .len, [.one (.slx _ _ _ e)], [t] => match P.underlying t with
  | some (.slice _) => cond (inR .i64 e) (some (mkY .i64 e)) none
  | _ => none
 | .len, [.one (.slw _ _ _ e)], [t] => match P.underlying t with
  | some (.slice _) => cond (inR .i64 e) (some (mkY .i64 e)) none
  | _ => none
 | _, _, _ => none
noncomputable def symC (kn : Kn) (P : Program) (T0 : Sl) (c : Call) : Option V := match c.callee, evs T0 c.args.toList with
 | .builtin b, some vs => symB kn P b vs c.argTypes.toList
 | _, _ => none
def prodL (k : IntKind) (a b : Lin) : List (Lin × Lin × Lin) → Option V
 | [] => none
 | p :: l => cond (linEq p.1 a && linEq p.2.1 b) (some (mkY k p.2.2)) (prodL k a b l)
def orProd (op : BinOp) (x y : Option (IntKind × Lin)) (pr : List (Lin × Lin × Lin)) : Option V → Option V
 | some v => some v
 | none => match op, x, y with
  | .mul, some (k, a), some (k', b) => cond (k == k') (prodL k a b pr) none
  | _, _, _ => none
noncomputable def symV (kn : Kn) (P : Program) (T0 : Sl) (o : Oper) : Option V := match o.op with
 | .binOp op _ x y _ => orProd op (asL (ev T0 x)) (asL (ev T0 y)) kn.pr (sym2 kn.facts op (ev T0 x) (ev T0 y))
 | .unOp op _ x => sym1 op (asL (ev T0 x))
 | .convert s d x => convL (ev T0 x) (P.underlying s) (P.underlying d)
 | .call c => symC kn P T0 c
 | _ => none
noncomputable def orPure (P : Program) (T0 : Sl) (h : H) (o : Oper) (r : Option R) : Option R := match r with
 | some x => some x
 | none => match pureOp P T0 h o with
  | some x => some x
  | none => match symV h.kn P T0 o with
   | some v => some (.val v h)
   | none => none
noncomputable def copyB (h : H) (b o n : Nat) : Option (List S) → Option R
 | some xs => match storeB h b o xs with
  | some h' => forceN n fun n => some (.val (.one (.i .i64 (.ofNat n))) h')
  | none => none
 | none => none
noncomputable def doCopy (P : Program) (h : H) (t : TypeId) : Option V → Option V → Option R
 | some (.one .sl0), some y => match P.underlying t with
  | some (.slice elem) => match sizeB P elem, srcLen y with
   | some size, some _ => match srcB h size 0 y with
    | some _ => some (.val (.one (.i .i64 (.ofNat 0))) h)
    | none => none
   | _, _ => none
  | _ => none
 | some (.one (.sl b o len _ _ _)), some y => match P.underlying t with
  | some (.slice elem) => match sizeB P elem, srcLen y with
   | some size, some n => copyB h b o (Nat.min n len) (srcB h size (Nat.min n len) y)
   | _, _ => none
  | _ => none
 | _, _ => none
noncomputable def doClear (P : Program) (h : H) (t : TypeId) : Option V → Option R
 | some (.one .sl0) => match P.underlying t with
  | some (.slice _) => some (.val (.tup []) h)
  | _ => none
 | some (.one (.sl b o len _ _ _)) => match P.underlying t with
  | some (.slice elem) => match zeroB P elem with
   | some z => cond (Nat.blt 0 z.cells.length && !z.isTup) (match storeB h b o (repeatS z.cells len) with
    | some h' => some (.val (.tup []) h')
    | none => none) none
   | none => none
  | _ => none
 | _ => none
def doUn (h : H) : UnOp → Option V → Option R
 | .not, some (.one (.b x)) => boolR h (!x)
 | _, _ => none
def intT (P : Program) (t : TypeId) : Bool := match P.underlying t with
 | some (.int .i64) => true
 | _ => false
def bytesT (P : Program) (t : TypeId) : Option TypeId := match P.underlying t with
 | some (.slice e) => match P.underlying e with
  | some (.int .u8) => some e
  | _ => none
 | _ => none
def strT (P : Program) (t : TypeId) : Bool := match P.underlying t with
 | some .string => true
 | _ => false
def bytesOf : List S → Option (List UInt8)
 | [] => some []
 | .i .u8 (.ofNat n) :: l => match bytesOf l with
  | some r => cond (Nat.blt n 256) (some (UInt8.ofNat n :: r)) none
  | none => none
 | _ :: _ => none
def strOf (h : H) : Option (List S) → Option R
 | some xs => match bytesOf xs with
  | some l => some (.val (.one (.s ⟨l.toArray⟩)) h)
  | none => none
 | none => none
noncomputable def bytesR (h : H) (x : ByteArray) : Option R := T.setManyK .e 0 (x.data.toList.map (fun c => S.i .u8 c.toNat)) fun cs => forceN x.size fun n => forceN h.next fun q => h.allocK (.ro cs n) fun h' => some (.val (.one (.sl q 0 n n 1 false)) h')
noncomputable def doConv (P : Program) (h : H) (s d : TypeId) : Option V → Option R
 | some (.one (.i .i64 x)) => cond (intT P s && intT P d) (numR h x) none
 | some (.one .sl0) => match bytesT P s with
  | some _ => cond (strT P d) (some (.val (.one (.s ⟨#[]⟩)) h)) none
  | none => none
 | some (.one (.sl b o len _ _ _)) => match bytesT P s with
  | some _ => cond (strT P d) (cond (Nat.beq len 0) (some (.val (.one (.s ⟨#[]⟩)) h)) (strOf h (h.row b o len))) none
  | none => none
 | some (.one (.s x)) => match bytesT P d with
  | some _ => cond (strT P s) (bytesR h x) none
  | none => none
 | _ => none
def doMove (h : H) : Option V → Option R
 | some v => some (.val v h)
 | none => none
noncomputable def doPick (T0 : Sl) (h : H) (a b : Operand) : Option V → Option R
 | some (.one (.b t)) => doMove h (ev T0 (cond t a b))
 | _ => none
noncomputable def doAlloc (P : Program) (h : H) (e : TypeId) : Option R := match zeroB P e with
 | some z => cond z.isTup none (alloc1 h e z)
 | none => none
noncomputable def doBox (P : Program) (h : H) (e : TypeId) (x : Option V) : Option R := match ofTup x with
 | some v => alloc1 h e v
 | none => none
noncomputable def doMakeFunc (T0 : Sl) (h : H) : Fn → Array Operand → Array Operand → Option R
 | .func f, first, captured => cond first.isEmpty (cond captured.isEmpty (some (.val (.one (.fn0 f)) h)) (match evs T0 captured.toList with
  | some vs => forceN h.next fun q => h.allocK (.ghost vs) fun h' => some (.val (.one (.fn f q)) h')
  | none => none)) none
 | _, _, _ => none
noncomputable def doLenOp (P : Program) (T0 : Sl) (h : H) (o : Oper) : List Operand → List TypeId → Option R
 | [x], [t] => orPure P T0 h o (doLen P h t (ev T0 x))
 | _, _ => none
def pureBuiltin : Builtin → Bool
 | .min | .max | .real | .imag | .complex => true
 | _ => false
def doMinMax (mn : Bool) (h : H) : Option (List V) → Option R
 | some [.one (.i .i64 x), .one (.i .i64 y)] => cond (cond mn (ltI y x) (ltI x y)) (some (.val (.one (.i .i64 y)) h)) (some (.val (.one (.i .i64 x)) h))
 | _ => none
noncomputable def doTwo (P : Program) (T0 : Sl) : List Operand → List TypeId → (TypeId → TypeId → Option V → Option V → Option R) → Option R
 | [x, y], [t, u], f => f t u (ev T0 x) (ev T0 y)
 | _, _, _ => none
noncomputable def doOne (P : Program) (T0 : Sl) : List Operand → List TypeId → (TypeId → Option V → Option R) → Option R
 | [x], [t], f => f t (ev T0 x)
 | _, _, _ => none
noncomputable def doBuiltin (P : Program) (T0 : Sl) (h : H) (o : Oper) (args : Array Operand) (ts : Array TypeId) : Builtin → Option R
 | .len => doLenOp P T0 h o args.toList ts.toList
 | .append => doTwo P T0 args.toList ts.toList (doAppend P h)
 | .copy => doTwo P T0 args.toList ts.toList (fun t _ x y => doCopy P h t x y)
 | .clear => doOne P T0 args.toList ts.toList (doClear P h)
 | .min => orPure P T0 h o (doMinMax true h (evs T0 args.toList))
 | .max => orPure P T0 h o (doMinMax false h (evs T0 args.toList))
 | b => cond (pureBuiltin b) (orPure P T0 h o none) none
noncomputable def doCallOp (P : Program) (T0 : Sl) (h : H) (o : Oper) (args : Array Operand) (ts : Array TypeId) : Callee → Option R
 | .value f => doCall P T0 h f args
 | .builtin b => doBuiltin P T0 h o args ts b
 | .invoke _ _ => none
noncomputable def execO (P : Program) (T0 : Sl) (h : H) (o : Oper) : Option R :=
 match o.op with
 | .move x => doMove h (ev T0 x)
 | .assign x => doMove h (ev T0 x)
 | .pick c a b => doPick T0 h a b (ev T0 c)
 | .alloc e => doAlloc P h e
 | .box e x => doBox P h e (ev T0 x)
 | .build t ps => doBuild P T0 h t ps
 | .buildSlice t len ps => doBuildSlice P T0 h t len ps
 | .load t a => doLoad P h t (ev T0 a)
 | .store t a x => doStore P h t (ev T0 a) (ev T0 x)
 | .nilCheck x => doNilCheck h (ev T0 x)
 | .fieldAddr s x f => doFieldAddr P h s f (ev T0 x)
 | .indexAddr t x i => doIndexW P h t (ev T0 x) (ev T0 i)
 | .slice t x lo hi mx => orPure P T0 h o (doSlice P T0 h t lo hi mx (ev T0 x))
 | .field t x f => doField P h t f (ev T0 x)
 | .extract t ix => doExtract h ix (ev T0 t)
 | .makeSlice t l c => doMakeSlice P h t (ev T0 l) (ev T0 c)
 | .makeFunc fn first captured => doMakeFunc T0 h fn first captured
 | .binOp op t x y _ => orPure P T0 h o (doBin P h op t (ev T0 x) (ev T0 y))
 | .unOp op _ x => orPure P T0 h o (doUn h op (ev T0 x))
 | .convert s d x => orPure P T0 h o (doConv P h s d (ev T0 x))
 | .index _ _ _ => pureOp P T0 h o
 | .call c => doCallOp P T0 h o c.args c.argTypes c.callee
 | .lookup t x k ok => doLookup P h t ok (ev T0 x) (ev T0 k)
 | .mapUpdate t m k x => doMapUpdate P h t (ev T0 m) (ev T0 k) (ev T0 x)
 | .makeMap t r => doMakeMap P h t r
 | _ => none
noncomputable def wantB (all : List Oper) (T0 : Sl) (o : Oper) : Option Bool := match o.guard with
 | none => some true
 | some (j, want) => match all[j]? with
  | some g => match g.dst with
   | some d => match T0.get d with
    | some (.one (.b t)) => some (t == want)
    | some (.tup []) => some false
    | _ => none
   | none => none
  | none => none
noncomputable def putT (nt : Nat) (T0 : Sl) (d : Option Tmp) (v : V) : Option (Sl) := match d with
 | none => some T0
 | some d => cond (Nat.blt d nt) (T0.setK d v some) none
abbrev CallF := FuncId → List V → H → Option (V × H)
noncomputable def goR (call : CallF) : Option R → Option (V × H)
 | some (.val v h1) => some (v, h1)
 | some (.enter f args h1) => call f args h1
 | none => none
noncomputable def execW (P : Program) (call : CallF) (T0 : Sl) (h : H) (o : Oper) : Option (V × H) := goR call (execO P T0 h o)
noncomputable def putR (nt : Nat) (T0 : Sl) (d : Option Tmp) : Option (V × H) → Option (Sl × H)
 | some (v, h1) => match putT nt T0 d v with
  | some T1 => some (T1, h1)
  | none => none
 | none => none
noncomputable def oneOp (P : Program) (call : CallF) (nt : Nat) (all : List Oper) (o : Oper) (T0 : Sl) (h : H) : Option (Sl × H) :=
 match wantB all T0 o with
 | none => none
 | some false => putR nt T0 o.dst (some (.tup [], h))
 | some true => putR nt T0 o.dst (execW P call T0 h o)
noncomputable def runOps (P : Program) (call : CallF) (nt : Nat) (all : List Oper) (l : List Oper) : Sl → H → Option (Sl × H) :=
 List.rec (fun T0 h => some (T0, h)) (fun o _ f T0 h => match oneOp P call nt all o T0 h with
  | some (T1, h1) => f T1 h1
  | none => none) l
inductive Cls where
 | quiet
 | alloc
 | load
 | loud
def quietCall : Callee → Bool
 | .builtin .len => true
 | .builtin b => pureBuiltin b
 | _ => false
def cls : Op → Cls
 | .move _ | .assign _ | .pick .. | .build .. | .nilCheck _ | .fieldAddr .. | .indexAddr .. | .slice .. | .field .. | .extract .. | .unOp .. | .convert .. | .index .. | .binOp .. => .quiet
 | .call c => cond (quietCall c.callee) .quiet .loud
 | .makeFunc _ _ c => cond c.isEmpty .quiet .alloc
 | .alloc _ | .box .. | .buildSlice .. | .makeSlice .. | .makeMap .. => .alloc
 | .load .. => .load
 | _ => .loud
def Cls.isLoud : Cls → Bool
 | .loud => true
 | _ => false
def Cls.isLoad : Cls → Bool
 | .load => true
 | _ => false
def writesCall : Callee → Bool
 | .builtin _ => true
 | _ => false
def writesOp : Op → Bool
 | .call c => writesCall c.callee
 | .lookup .. => false
 | _ => true
structure It where
 i : Nat
 m : Nat
 o : Oper
def It.c (x : It) : Cls := cls x.o.op
def maskOf (acc : List Nat) : List Edge → Nat
 | [] => 0
 | e :: es => cond (Region.binds .any e) ((2 ^ e.on ||| acc.getD e.on 0) ||| maskOf acc es) (maskOf acc es)
def items (k : Nat) (acc : List Nat) : List Oper → List It
 | [] => []
 | o :: os => ⟨k, maskOf acc o.after.toList, o⟩ :: items (k + 1) (acc ++ [maskOf acc o.after.toList]) os
def takeFirst (p : It → Bool) : List It → Option (It × List It)
 | [] => none
 | x :: r => cond (p x) (some (x, r)) (match takeFirst p r with
  | some (y, s) => some (y, x :: s)
  | none => none)
def order : Nat → Nat → List It → List It
 | 0, _, _ => []
 | n + 1, done, l => match takeFirst (fun x => Nat.beq (Nat.land x.m done) x.m && !x.c.isLoud) l with
  | some (x, r) => x :: order n (done ||| 2 ^ x.i) r
  | none => match takeFirst (fun x => Nat.beq (Nat.land x.m done) x.m) l with
   | some (x, r) => x :: order n (done ||| 2 ^ x.i) r
   | none => []
def slotsB (ops : Array Oper) (x y : Oper) : Bool := (match x.dst with
  | some d => !(y.looksAt ops).contains d
  | none => true) && (match y.dst with
  | some d => !(x.looksAt ops).contains d
  | none => true)
def dstB (x y : Oper) : Bool := match x.dst, y.dst with
 | some d, some e => !Nat.beq d e
 | _, _ => true
def pairB (ops : Array Oper) (x y : It) : Bool := !Nat.testBit x.m y.i && !Nat.beq x.i y.i && dstB x.o y.o && (Nat.testBit y.m x.i || slotsB ops x.o y.o)
def pairsB (ops : Array Oper) : List It → Bool
 | [] => true
 | x :: r => r.all (pairB ops x) && pairsB ops r
def barB (pre : List It) (x : It) (post : List It) : Bool :=
 x.c.isLoud && pre.all (fun y => Nat.testBit x.m y.i || !y.c.isLoud) && post.all (fun y => Nat.testBit y.m x.i || !(y.c.isLoud || y.c.isLoad))
def bars (pre : List It) : List It → List (It × Bool)
 | [] => []
 | x :: r => (x, barB pre x r) :: bars (pre ++ [x]) r
def barsOk (l : List (It × Bool)) : Bool := l.all fun x => x.2 || !x.1.c.isLoud || !writesOp x.1.o.op
def coversB (n : Nat) (l : List It) : Bool := (List.range n).all fun k => l.any fun x => Nat.beq x.i k
def seenB : Nat → List It → Bool
 | _, [] => true
 | done, x :: r => Nat.beq (Nat.land x.m done) x.m && seenB (done ||| 2 ^ x.i) r
def told (ops : Array Oper) : Option (List (It × Bool)) :=
 let l := order ops.size 0 (items 0 [] ops.toList)
 cond (pairsB ops l && coversB ops.size l && seenB 0 l && barsOk (bars [] l)) (some (bars [] l)) none
structure St where
 t : Sl
 h : H
 rg : List (Nat × Nat × Nat)
 ld : List (Nat × Nat × Nat)
def unseen (m : Nat) : List (Nat × Nat × Nat) → List (Nat × Nat)
 | [] => []
 | (i, lo, hi) :: r => cond (Nat.testBit m i) (unseen m r) ((lo, hi) :: unseen m r)
noncomputable def H.emptied (h : H) : H := { tr := .e, next := h.next, floor := h.next, hid := [], frz := [], kn := h.kn }
noncomputable def H.only (h : H) (b : Nat) (x : O) : H := { tr := T.set .e b x, next := h.next, floor := h.next, hid := [], frz := [], kn := h.kn }
def H.fenced (h : H) (l z : List (Nat × Nat)) (floor : Nat) : H := { tr := h.tr, next := h.next, floor := floor, hid := l ++ h.hid, frz := z ++ h.frz, kn := h.kn }
noncomputable def putS (nt : Nat) (s : St) (d : Option Tmp) (v : V) : Option St := match putT nt s.t d v with
 | some T1 => some { t := T1, h := s.h, rg := s.rg, ld := s.ld }
 | none => none
noncomputable def quietDo (P : Program) (nt : Nat) (o : Oper) (s : St) : Option St := match execO P s.t s.h.emptied o with
 | some (.val v h1) => cond (Nat.beq h1.next s.h.next) (putS nt s o.dst v) none
 | _ => none
noncomputable def allocDo (P : Program) (nt : Nat) (i : Nat) (o : Oper) (s : St) : Option St := match execO P s.t s.h.emptied o with
 | some (.val v h1) => match h1.tr.get s.h.next with
  | some x => cond (Nat.beq h1.next (s.h.next + 1)) (s.h.allocK x fun h' => putS nt { t := s.t, h := h', rg := (i, s.h.next, s.h.next + 1) :: s.rg, ld := s.ld } o.dst v) none
  | none => none
 | _ => none
noncomputable def loadAtB (T0 : Sl) : Op → Option Nat
 | .load _ a => match ptrOf (ev T0 a) with
  | some (b, _) => some b
  | none => none
 | _ => none
noncomputable def loadDo (P : Program) (nt : Nat) (i m : Nat) (o : Oper) (s : St) : Option St := match loadAtB s.t o.op with
 | some b => match (s.h.fenced (unseen m s.rg) [] s.h.floor).get b with
  | some x => match execO P s.t (s.h.only b x) o with
   | some (.val v h1) => cond (Nat.beq h1.next s.h.next) (putS nt { t := s.t, h := s.h, rg := s.rg, ld := (i, b, b + 1) :: s.ld } o.dst v) none
   | _ => none
  | none => none
 | none => none
noncomputable def loudDo (P : Program) (call : CallF) (nt : Nat) (x : It) (bar : Bool) (s : St) : Option St :=
 match execW P call s.t (s.h.fenced (unseen x.m s.rg) (cond bar (unseen x.m s.ld) []) (cond bar s.h.floor s.h.next)) x.o with
 | some (v, h1) => putS nt { t := s.t, h := { tr := h1.tr, next := h1.next, floor := s.h.floor, hid := s.h.hid, frz := s.h.frz, kn := s.h.kn }, rg := (x.i, s.h.next, h1.next) :: s.rg, ld := s.ld } x.o.dst v
 | none => none
noncomputable def itemDo (P : Program) (call : CallF) (nt : Nat) (x : It) (bar : Bool) (s : St) : Option St := match x.c with
 | .quiet => quietDo P nt x.o s
 | .alloc => allocDo P nt x.i x.o s
 | .load => loadDo P nt x.i x.m x.o s
 | .loud => loudDo P call nt x bar s
noncomputable def itemStep (P : Program) (call : CallF) (nt : Nat) (all : List Oper) (x : It) (bar : Bool) (s : St) : Option St := match wantB all s.t x.o with
 | none => none
 | some false => putS nt s x.o.dst (.tup [])
 | some true => itemDo P call nt x bar s
noncomputable def drawAll (P : Program) (call : CallF) (nt : Nat) (all : List Oper) (l : List (It × Bool)) : St → Option St :=
 List.rec (fun s => some s) (fun x _ f s => match itemStep P call nt all x.1 x.2 s with
  | some s1 => f s1
  | none => none) l
noncomputable def drawR (P : Program) (call : CallF) (nt : Nat) (ops : Array Oper) (T0 : Sl) (h : H) : Option (Sl × H) := match told ops with
 | some l => cond (Nat.ble h.floor h.next) (match drawAll P call nt ops.toList l { t := T0, h := h, rg := [], ld := [] } with
  | some s => some (s.t, s.h)
  | none => none) none
 | none => none
inductive Ex where
 | normal
 | exit (id : Nat)
 | goto (l : Nat)
 | ret
abbrev ExecF := Code → Option Code → Sl → H → Option (Ex × Sl × H)
def thenC (f : Sl → H → Option (Ex × Sl × H)) : Option (Ex × Sl × H) → Option (Ex × Sl × H)
 | some (.normal, T1, h1) => f T1 h1
 | r => r
def inBlockC (id : Nat) : Option (Ex × Sl × H) → Option (Ex × Sl × H)
 | some (.exit id', T1, h1) => cond (Nat.beq id' id) (some (.normal, T1, h1)) (some (.exit id', T1, h1))
 | r => r
def restC (ih : ExecF) (body : Code) (l : Nat) (T1 : Sl) (h1 : H) : Option Code → Option (Ex × Sl × H)
 | some rest => ih rest (some body) T1 h1
 | none => some (.goto l, T1, h1)
def scopeC (ih : ExecF) (body : Code) : Option (Ex × Sl × H) → Option (Ex × Sl × H)
 | some (.goto l, T1, h1) => restC ih body l T1 h1 (findLabel body l)
 | r => r
def normC : Option (Sl × H) → Option (Ex × Sl × H)
 | some (T1, h1) => some (.normal, T1, h1)
 | none => none
def condC (ih : ExecF) (a b : Code) (T0 : Sl) (h : H) : Option V → Option (Ex × Sl × H)
 | some (.one (.b t)) => ih (cond t a b) none T0 h
 | _ => none
noncomputable def stepC (P : Program) (call : CallF) (nt : Nat) (ih : ExecF) (T0 : Sl) (h : H) : Code → Option (Ex × Sl × H)
 | .skip => some (.normal, T0, h)
 | .label _ => some (.normal, T0, h)
 | .region _ ops draw => normC (cond draw (drawR P call nt ops T0 h) (runOps P call nt ops.toList ops.toList T0 h))
 | .seq a b => thenC (ih b none) (ih a none T0 h)
 | .cond x a b => condC ih a b T0 h (ev T0 x)
 | .block id body => inBlockC id (ih body none T0 h)
 | .loop body => thenC (ih (.loop body) none) (ih body none T0 h)
 | .scope body => ih body (some body) T0 h
 | .exit id => some (.exit id, T0, h)
 | .goto l => some (.goto l, T0, h)
 | .ret => some (.ret, T0, h)
 | _ => none
noncomputable def bothC (P : Program) (call : CallF) (nt : Nat) (ih : ExecF) (c : Code) (sc : Option Code) (T0 : Sl) (h : H) : Option (Ex × Sl × H) := match sc with
 | none => stepC P call nt ih T0 h c
 | some body => scopeC ih body (ih c none T0 h)
noncomputable def execC (P : Program) (call : CallF) (nt : Nat) (n : Nat) : ExecF :=
 Nat.rec (fun _ _ _ _ => none) (fun _ ih => bothC P call nt ih) n
noncomputable def resB (P : Program) (T0 : Sl) (h : H) : List ResultVar → Option (List V)
 | [] => some []
 | .tmp t :: r => match T0.get t, resB P T0 h r with
  | some v, some vs => some (v :: vs)
  | _, _ => none
 | .cell a t :: r => match doLoad P h t (T0.get a), resB P T0 h r with
  | some (.val v _), some vs => some (v :: vs)
  | _, _ => none
noncomputable def resultB (P : Program) (T0 : Sl) (h : H) (rs : List ResultVar) : Option V := match resB P T0 h rs with
 | some [v] => some v
 | some vs => match parts vs with
  | some ps => some (.tup ps)
  | none => none
 | none => none
noncomputable def endB (P : Program) (rs : List ResultVar) (T1 : Sl) (h1 : H) : Option (V × H) := match resultB P T1 h1 rs with
 | some v => some (v, h1)
 | none => none
noncomputable def exitB (P : Program) (rs : List ResultVar) : Option (Ex × Sl × H) → Option (V × H)
 | some (.normal, T1, h1) => endB P rs T1 h1
 | some (.ret, T1, h1) => endB P rs T1 h1
 | _ => none
noncomputable def bodyB (P : Program) (call : CallF) (n : Nat) (fn : Func) (args : List V) (h : H) : Option Code → Option (V × H)
 | some c => cond (Nat.ble args.length fn.ntmps && Nat.ble fn.ntmps 1024) (Sl.setManyK Sl.new 0 args fun T0 => exitB P fn.results.toList (execC P call fn.ntmps n c none T0 h)) none
 | none => none
noncomputable def funB (P : Program) (call : CallF) (n : Nat) (args : List V) (h : H) : Option Func → Option (V × H)
 | some fn => bodyB P call n fn args h fn.body
 | none => none
end Go.Ai
