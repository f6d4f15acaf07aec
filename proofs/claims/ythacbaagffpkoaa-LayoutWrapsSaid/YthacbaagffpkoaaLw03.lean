/-
LayoutWraps, part 3 of 48: AiRel.
-/
import Derived.Below
import Derived.Test.YthacbaagffpkoaaLw02
set_option linter.unusedVariables false
set_option linter.unusedSimpArgs false
namespace Go.Ai
section
variable {α : Type}
theorem TO.get_e (k : Nat) : (TO.e   : TO α).get k = none := rfl
theorem TO.get_succ (l r   : TO α) (v : Option α) (j : Nat) : (TO.n l v r).get (j + 1) = cond (Nat.beq (j % 2) 0) (l.get (j / 2)) (r.get (j / 2)) := rfl
theorem TO.get_left (t   : TO α) (j : Nat) (h : j % 2 = 0) : t.get (j + 1) = t.left.get (j / 2) := by
 cases t with
 | e => rfl
 | n l v r => rw [TO.get_succ, h]; rfl
theorem TO.get_right (t   : TO α) (j : Nat) (h : j % 2 ≠ 0) : t.get (j + 1) = t.right.get (j / 2) := by
 cases t with
 | e => rfl
 | n l v r =>
  rw [TO.get_succ]
  have : Nat.beq (j % 2) 0 = false := by
   cases hb : Nat.beq (j % 2) 0 with
   | false => rfl
   | true => exact absurd (Nat.eq_of_beq_eq_true hb) h
  rw [this]; rfl
theorem TO.get_here (t   : TO α) : t.get 0 = t.here := by cases t <;> rfl
theorem TO.updF_zero (f : Nat) (t   : TO α) (v : Option α) : TO.updF (f + 1) t 0 v = .n t.left v t.right := rfl
theorem TO.updF_succ (f : Nat) (t   : TO α) (j : Nat) (v : Option α) : TO.updF (f + 1) t (j + 1) v = cond (Nat.beq (j % 2) 0) (.n (TO.updF f t.left (j / 2) v) t.here t.right) (.n t.left t.here (TO.updF f t.right (j / 2) v)) := rfl
theorem beq_false {a b : Nat} (h : a ≠ b) : Nat.beq a b = false := by
 cases hb : Nat.beq a b with
 | false => rfl
 | true => exact absurd (Nat.eq_of_beq_eq_true hb) h
theorem beq_self (a : Nat) : Nat.beq a a = true := by simp
theorem TO.get_updF (f : Nat) : ∀ (t : TO α) (k i : Nat) (v : Option α), k < f → (TO.updF f t k v).get i = if i = k then v else t.get i := by
 induction f with
 | zero => intro t k i v h; omega
 | succ f ih =>
  intro t k i v h
  cases k with
  | zero =>
   rw [TO.updF_zero]
   cases i with
   | zero => rw [if_pos rfl]; rfl
   | succ i =>
    rw [if_neg (by omega)]
    by_cases hp : i % 2 = 0
    ·rw [TO.get_left _ _ hp, TO.get_left _ _ hp]; rfl
    ·rw [TO.get_right _ _ hp, TO.get_right _ _ hp]; rfl
  | succ j =>
   rw [TO.updF_succ]
   by_cases hj : j % 2 = 0
   ·rw [hj];show (TO.n _ _ _).get i = _
    cases i with
    | zero => rw [if_neg (by omega), TO.get_here]; exact (TO.get_here t).symm
    | succ i =>
     by_cases hp : i % 2 = 0
     ·rw [TO.get_left _ _ hp, TO.get_left t _ hp];show (TO.updF f t.left (j / 2) v).get (i / 2) = _;rw [ih _ _ _ _ (by omega)]
      by_cases e : i = j
      ·rw [if_pos (by omega), if_pos (by omega)]
      ·rw [if_neg (by omega), if_neg (by omega)]
     ·rw [TO.get_right _ _ hp, TO.get_right t _ hp, if_neg (by omega)]; rfl
   ·rw [beq_false hj];show (TO.n _ _ _).get i = _
    cases i with
    | zero => rw [if_neg (by omega), TO.get_here]; exact (TO.get_here t).symm
    | succ i =>
     by_cases hp : i % 2 = 0
     ·rw [TO.get_left _ _ hp, TO.get_left t _ hp, if_neg (by omega)]; rfl
     ·rw [TO.get_right _ _ hp, TO.get_right t _ hp];show (TO.updF f t.right (j / 2) v).get (i / 2) = _;rw [ih _ _ _ _ (by omega)]
      by_cases e : i = j
      ·rw [if_pos (by omega), if_pos (by omega)]
      ·rw [if_neg (by omega), if_neg (by omega)]
theorem TO.get_upd (t : TO α) (k i : Nat) (v : Option α) : (t.upd k v).get i = if i = k then v else t.get i := TO.get_updF _ _ _ _ _ (by omega)
theorem T.get_e (k : Nat) : (T.e : T α).get k = none := by
 unfold T.get;rw [Box.use_eq];unfold T.getB;cases Nat.blt k 8;rotate_left
 ·exact P8.get_new none 1 k
 cases Nat.blt k 64;rotate_left
 ·exact P8.get_new none 2 k
 cases Nat.blt k 512;rotate_left
 ·exact P8.get_new none 3 k
 cases Nat.blt k 4096;rotate_left
 ·exact P8.get_new none 4 k
 cases Nat.blt k 32768;rotate_left
 ·exact P8.get_new none 5 k
 exact TO.get_e k
theorem blt_true {a b : Nat} (h : a < b) : Nat.blt a b = true := by rw [Nat.blt_eq]; exact h
theorem blt_false {a b : Nat} (h : ¬ a < b) : Nat.blt a b = false := by
 cases hb : Nat.blt a b with
 | false => rfl
 | true => rw [Nat.blt_eq] at hb; exact absurd hb h
theorem T.get_upd (t : T α) (k i : Nat) (v : Option α) : (t.upd k v).get i = if i = k then v else t.get i := by
 obtain ⟨a, b, c, d, e, f⟩ := t;have lev : ∀ x : Nat, x < 8 ∨ (¬ x < 8 ∧ x < 64) ∨ (¬ x < 64 ∧ ¬ x < 8 ∧ x < 512) ∨ (¬ x < 512 ∧ ¬ x < 64 ∧ ¬ x < 8 ∧ x < 4096) ∨ (¬ x < 4096 ∧ ¬ x < 512 ∧ ¬ x < 64 ∧ ¬ x < 8 ∧ x < 32768) ∨ (¬ x < 32768 ∧ ¬ x < 4096 ∧ ¬ x < 512 ∧ ¬ x < 64 ∧ ¬ x < 8) := fun x => by omega
 unfold T.upd T.updK T.get;simp only [Box.use_eq];unfold T.updB T.getB;rcases lev k with hk | ⟨hk1, hk⟩ | ⟨hk2, hk1, hk⟩ | ⟨hk3, hk2, hk1, hk⟩ | ⟨hk4, hk3, hk2, hk1, hk⟩ | ⟨hk5, hk4, hk3, hk2, hk1⟩ <;> rcases lev i with hi | ⟨hi1, hi⟩ | ⟨hi2, hi1, hi⟩ | ⟨hi3, hi2, hi1, hi⟩ | ⟨hi4, hi3, hi2, hi1, hi⟩ | ⟨hi5, hi4, hi3, hi2, hi1⟩
 all_goals simp (disch := assumption) only [blt_true, blt_false, cond_true, cond_false, Box.use_eq]
 all_goals first
  | (rw [P8.updK_eq]; exact P8.get_upd _ _ _ _ _ (by omega) (by omega))
  | (rw [TO.updK_eq]; exact TO.get_upd _ _ _ _)
  | (rw [P8.updK_eq, if_neg (by omega)])
  | (rw [TO.updK_eq, if_neg (by omega)])
theorem T.get_set (t : T α) (k i : Nat) (v : α) : (t.set k v).get i = if i = k then some v else t.get i := T.get_upd ..
theorem T.setMany_nil (t : T α) (k : Nat) : t.setMany k [] = t := rfl
theorem T.setMany_cons (t : T α) (k : Nat) (x : α) (l : List α) : t.setMany k (x :: l) = (t.set k x).setMany (k + 1) l := rfl
theorem T.get_setMany (l : List α) : ∀ (t : T α) (k i : Nat), (t.setMany k l).get i = if k ≤ i ∧ i < k + l.length then l[i - k]? else t.get i := by
 induction l with
 | nil => intro t k i; rw [T.setMany_nil, if_neg (by simp)]
 | cons x l ih =>
  intro t k i;rw [T.setMany_cons, ih, T.get_set]
  by_cases h : i = k
  ·subst h;rw [if_neg (by omega), if_pos rfl, if_pos (by simp)]; simp
  ·by_cases h2 : k + 1 ≤ i ∧ i < k + 1 + l.length
   ·rw [if_pos h2, if_pos (by simp; omega), show i - k = (i - (k + 1)) + 1 by omega, List.getElem?_cons_succ]
   ·rw [if_neg h2, if_neg h, if_neg (by simp; omega)]
theorem T.get_row (l : List α) (i : Nat) : (T.setMany .e 0 l).get i = l[i]? := by
 rw [T.get_setMany]
 by_cases h : 0 ≤ i ∧ i < 0 + l.length
 ·rw [if_pos h]; simp
 ·rw [if_neg h, T.get_e, List.getElem?_eq_none (by omega)]
end
inductive All2 {α β : Type} (R : α → β → Prop) : List α → List β → Prop where
 | nil : All2 R [] []
 | cons {a : α} {b : β} {l : List α} {m : List β} (h : R a b) (t : All2 R l m) : All2 R (a :: l) (b :: m)
section
variable {α β : Type} {R : α → β → Prop}
theorem All2.length {l : List α} {m : List β} (h : All2 R l m) : l.length = m.length := by induction h <;> simp_all
theorem All2.mono {R' : α → β → Prop} (k : ∀ a b, R a b → R' a b) {l : List α} {m : List β} (h : All2 R l m) : All2 R' l m := by
 induction h with
 | nil => exact .nil
 | cons h _ ih => exact .cons (k _ _ h) ih
theorem All2.append {l l' : List α} {m m' : List β} (h : All2 R l m) (h' : All2 R l' m') : All2 R (l ++ l') (m ++ m') := by
 induction h with
 | nil => exact h'
 | cons h _ ih => exact .cons h ih
theorem All2.get {l : List α} {m : List β} (h : All2 R l m) : ∀ (i : Nat) (a : α), l[i]? = some a → ∃ b, m[i]? = some b ∧ R a b := by
 induction h with
 | nil => intro i a h; simp at h
 | cons h _ ih =>
  intro i a hi
  cases i with
  | zero => simp at hi; subst hi; exact ⟨_, rfl, h⟩
  | succ i => simp at hi; obtain ⟨b, hb, hr⟩ := ih i a hi; exact ⟨b, by simpa using hb, hr⟩
theorem All2.of_get {l : List α} {m : List β} (hl : l.length = m.length) (h : ∀ (i : Nat) (a : α), l[i]? = some a → ∃ b, m[i]? = some b ∧ R a b) : All2 R l m := by
 induction l generalizing m with
 | nil => cases m with
  | nil => exact .nil
  | cons => simp at hl
 | cons a l ih => cases m with
  | nil => simp at hl
  | cons b m =>
   refine .cons ?_ (ih (by simpa using hl) fun i x hx => ?_)
   ·obtain ⟨c, hc, hr⟩ := h 0 a rfl;simp at hc; subst hc; exact hr
   ·obtain ⟨c, hc, hr⟩ := h (i + 1) x (by simpa using hx);exact ⟨c, by simpa using hc, hr⟩
theorem All2.take {l : List α} {m : List β} (h : All2 R l m) (n : Nat) : All2 R (l.take n) (m.take n) := by
 induction h generalizing n with
 | nil => simp; exact .nil
 | cons h _ ih => cases n with
  | zero => exact .nil
  | succ n => exact .cons h (ih n)
theorem All2.drop {l : List α} {m : List β} (h : All2 R l m) (n : Nat) : All2 R (l.drop n) (m.drop n) := by
 induction h generalizing n with
 | nil => simp; exact .nil
 | cons h t ih => cases n with
  | zero => exact .cons h t
  | succ n => exact ih n
end
structure Inj where
 dom : Nat → Prop
 blk : Nat → Nat
 sh : Nat → Nat
 lim : Nat → Nat
 caps : Nat → Array Value
 rest : Nat → Nat → Option Value
 env : Nat → Int
structure Inj.At (ι ι' : Inj) (b : Nat) : Prop where
 blk : ι'.blk b = ι.blk b
 sh : ι'.sh b = ι.sh b
 lim : ι'.lim b = ι.lim b
 caps : ι'.caps b = ι.caps b
 rest : ι'.rest b = ι.rest b
structure Ext (ι ι' : Inj) : Prop where
 dom : ∀ b, ι.dom b → ι'.dom b
 at_ : ∀ b, ι.dom b → ι.At ι' b
 env : ι'.env = ι.env
theorem Ext.refl (ι : Inj) : Ext ι ι := ⟨fun _ h => h, fun _ _ => ⟨rfl, rfl, rfl, rfl, rfl⟩, rfl⟩
theorem Ext.trans {a b c : Inj} (h : Ext a b) (k : Ext b c) : Ext a c := ⟨fun x hx => k.dom x (h.dom x hx), fun x hx =>
 have p := h.at_ x hx;have q := k.at_ x (h.dom x hx)
 ⟨q.blk.trans p.blk, q.sh.trans p.sh, q.lim.trans p.lim, q.caps.trans p.caps, q.rest.trans p.rest⟩, k.env.trans h.env⟩
def fO (n : Int) : Nat := FloatKind.f64.nearest n
def FOk (n : Int) : Prop := -4503599627370496 ≤ n ∧ n ≤ 4503599627370496
def SR (ι : Inj) (x : S) (v : Value) : Prop := match x with
 | .b z => v = .bool z
 | .i k n => v = .int k n
 | .f k z => v = .float k z
 | .c k z y => v = .complex k z y
 | .s z => v = .string z
 | .p0 => v = .pointer none
 | .p b o => ι.dom b ∧ v = .pointer (some ⟨ι.blk b, ι.sh b + o, none⟩)
 | .sl0 => v = .slice none 0 0
 | .sl b o len cap sz ex => ι.dom b ∧ len ≤ cap ∧ ∃ a c, v = .slice (some a) len c ∧ a.block = ι.blk b ∧ a.spot = none ∧ (a.off = ι.sh b + o ∨ (len = 0 ∧ c = 0)) ∧ cap ≤ c ∧ (ex = true → c = cap) ∧ o + c * sz ≤ ι.lim b
 | .m0 => v = .map none
 | .m r => ι.dom r ∧ v = .map (some (ι.blk r))
 | .fn0 f => v = .func (.func f) #[] #[]
 | .fn f r => ι.dom r ∧ v = .func (.func f) #[] (ι.caps r)
 | .nilf => v = .nilFunc
 | .nili => v = .nilIface
 | .any => v.oneCell' = true
 | .anysl => ∃ a n c, v = .slice a n c
 | .nat => ∃ n : Nat, v = .int .i64 n
 | .yi k e => e.ok ι.env ∧ v = .int k (k.wrap (e.eval ι.env))
 | .fe e => e.ok ι.env ∧ FOk (e.eval ι.env) ∧ v = .float .f64 (fO (e.eval ι.env))
 | .ce x y => (x.ok ι.env ∧ y.ok ι.env) ∧ (FOk (x.eval ι.env) ∧ FOk (y.eval ι.env)) ∧ v = .complex .f64 (fO (x.eval ι.env)) (fO (y.eval ι.env))
 | .lsl e => e.ok ι.env ∧ ∃ a c, ∃ n : Nat, v = .slice a n c ∧ (n : Int) = e.eval ι.env
 | .slx b o m e => ι.dom b ∧ e.ok ι.env ∧ ∃ a c, ∃ n : Nat, v = .slice (some a) n c ∧ a.block = ι.blk b ∧ a.spot = none ∧ a.off = ι.sh b + o ∧ (n : Int) = e.eval ι.env ∧ m ≤ n
 | .slw b z e n => ι.dom b ∧ (e.ok ι.env ∧ n.ok ι.env) ∧ ∃ a c, ∃ m : Nat, v = .slice (some a) m c ∧ a.block = ι.blk b ∧ a.spot = none ∧ (m : Int) = n.eval ι.env ∧ 0 ≤ e.eval ι.env ∧ e.eval ι.env < (m : Int) ∧ (a.off : Int) + e.eval ι.env * (z : Int) = (ι.sh b : Int)
def PR (ι : Inj) (p : Bool × List S) (v : Value) : Prop := match p with
 | (true, xs) => ∃ cs, v = .agg cs ∧ All2 (SR ι) xs cs.toList
 | (false, xs) => ∃ x, xs = [x] ∧ SR ι x v
def VR (ι : Inj) (x : V) (v : Value) : Prop := match x with
 | .one x => SR ι x v
 | .agg xs => ∃ cs, v = .agg cs ∧ All2 (SR ι) xs cs.toList
 | .tup ps => ∃ vs, v = .tuple vs ∧ All2 (PR ι) ps vs.toList
theorem SR.ext {ι ι' : Inj} (h : Ext ι ι') {x : S} {v : Value} (k : SR ι x v) : SR ι' x v := by
 cases x <;> try exact k
 case p b o => obtain ⟨hd, rfl⟩ := k; have e := h.at_ b hd; exact ⟨h.dom b hd, by rw [e.blk, e.sh]⟩
 case sl b o len cap sz ex =>
  obtain ⟨hd, h0, a, c, h1, h2, h3, h4, h5, h6, h7⟩ := k;have e := h.at_ b hd;exact ⟨h.dom b hd, h0, a, c, h1, by rw [e.blk]; exact h2, h3, by rw [e.sh]; exact h4, h5, h6, by rw [e.lim]; exact h7⟩
 case m r => obtain ⟨hd, rfl⟩ := k; have e := h.at_ r hd; exact ⟨h.dom r hd, by rw [e.blk]⟩
 case fn f r => obtain ⟨hd, rfl⟩ := k; have e := h.at_ r hd; exact ⟨h.dom r hd, by rw [e.caps]⟩
 case slx b o m e =>
  obtain ⟨hd, h0, a, c, n, h1, h2, h3, h4, h5⟩ := k;have q := h.at_ b hd;exact ⟨h.dom b hd, by rw [h.env]; exact h0, a, c, n, h1, by rw [q.blk]; exact h2, h3, by rw [q.sh]; exact h4, by rw [h.env]; exact h5⟩
 case slw b z e n =>
  obtain ⟨hd, h0, a, c, m, h1, h2, h3, h4, h5, h6, h7⟩ := k;have q := h.at_ b hd;exact ⟨h.dom b hd, by rw [h.env]; exact h0, a, c, m, h1, by rw [q.blk]; exact h2, h3, by rw [h.env]; exact h4, by rw [h.env]; exact h5, by rw [h.env]; exact h6, by rw [q.sh, h.env]; exact h7⟩
 all_goals (simp only [SR] at k ⊢; rw [h.env]; exact k)
theorem SR.all {ι ι' : Inj} (h : Ext ι ι') {xs : List S} {vs : List Value} (k : All2 (SR ι) xs vs) : All2 (SR ι') xs vs := k.mono fun _ _ h' => h'.ext h
theorem PR.ext {ι ι' : Inj} (h : Ext ι ι') {x : Bool × List S} {v : Value} (k : PR ι x v) : PR ι' x v := by
 obtain ⟨t, xs⟩ := x
 cases t with
 | true => obtain ⟨cs, e, k⟩ := k; exact ⟨cs, e, SR.all h k⟩
 | false => obtain ⟨x, e, k⟩ := k; exact ⟨x, e, k.ext h⟩
theorem VR.ext {ι ι' : Inj} (h : Ext ι ι') {x : V} {v : Value} (k : VR ι x v) : VR ι' x v := by
 cases x with
 | one x => exact SR.ext h k
 | agg xs => obtain ⟨cs, e, k⟩ := k; exact ⟨cs, e, SR.all h k⟩
 | tup ps => obtain ⟨vs, e, k⟩ := k; exact ⟨vs, e, k.mono fun _ _ h' => h'.ext h⟩
theorem VR.all {ι ι' : Inj} (h : Ext ι ι') {xs : List V} {vs : List Value} (k : All2 (VR ι) xs vs) : All2 (VR ι') xs vs := k.mono fun _ _ h' => h'.ext h
theorem SR.cell {ι : Inj} {x : S} {v : Value} (k : SR ι x v) : v.oneCell' = true := by
 cases x <;> simp only [SR] at k
 all_goals first
  | (subst k; rfl)
  | exact k
  | (obtain ⟨_, rfl⟩ := k; rfl)
  | (obtain ⟨_, _, _, _, rfl, _⟩ := k; rfl)
  | (obtain ⟨_, _, _, _, _, rfl, _⟩ := k; rfl)
  | (obtain ⟨_, _, _, rfl⟩ := k; rfl)
theorem VR.cells {ι : Inj} {x : V} {v : Value} (k : VR ι x v) (h : x.isTup = false) : All2 (SR ι) x.cells v.cells.toList := by
 cases x with
 | one x =>
  have h1 := SR.cell k;have : v.cells = #[v] := by cases v <;> first | rfl | (simp [Value.oneCell'] at h1; done)
  rw [this]; exact .cons k .nil
 | agg xs => obtain ⟨cs, rfl, k⟩ := k; exact k
 | tup ps => simp [V.isTup] at h
theorem SR.all_cell {ι : Inj} {xs : List S} {vs : List Value} (k : All2 (SR ι) xs vs) : ∀ u ∈ vs, u.oneCell' = true := by
 induction k with
 | nil => intro u h; cases h
 | cons h _ ih => intro u hu; cases hu with
  | head => exact h.cell
  | tail _ hu => exact ih u hu
theorem SR.conc {ι : Inj} {x : S} {v u : Value} (k : SR ι x v) (h : x.conc = some u) : v = u := by
 cases x <;> simp only [S.conc, Option.some.injEq, reduceCtorEq] at h <;> simp only [SR] at k <;> rw [k, ← h]
theorem concs_all {ι : Inj} {xs : List S} {vs us : List Value} (k : All2 (SR ι) xs vs) (h : concs xs = some us) : vs = us := by
 induction k generalizing us with
 | nil => simp [concs] at h; exact h.symm
 | @cons a b l m ha _ ih =>
  simp only [concs] at h
  cases hc : a.conc with
  | none => simp [hc] at h
  | some u =>
   cases hr : concs l with
   | none => simp [hc, hr] at h
   | some r => simp [hc, hr] at h; subst h; rw [ha.conc hc, ih hr]
theorem VR.conc {ι : Inj} {x : V} {v u : Value} (k : VR ι x v) (h : x.conc = some u) : v = u := by
 cases x with
 | one x => exact SR.conc k h
 | agg xs =>
  obtain ⟨cs, rfl, k⟩ := k;simp only [V.conc] at h
  cases hc : concs xs with
  | none => simp [hc] at h
  | some us => simp [hc] at h; subst h; rw [← concs_all k hc]
 | tup ps =>
  obtain ⟨vs, rfl, k⟩ := k
  cases ps with
  | nil =>
   simp only [V.conc, Option.some.injEq] at h; subst h
   cases hv : vs.toList with
   | nil => have : vs = #[] := by simpa using hv
            rw [this]
   | cons a l => rw [hv] at k; cases k
  | cons a l => simp [V.conc] at h
theorem S.ofVal_rel {ι : Inj} {v : Value} {x : S} (h : S.ofVal v = some x) : SR ι x v := by
 unfold S.ofVal at h;split at h <;> simp only [Option.some.injEq, reduceCtorEq] at h <;> subst h <;> simp [SR]
theorem ofVals_rel {ι : Inj} {vs : List Value} {xs : List S} (h : ofVals vs = some xs) : All2 (SR ι) xs vs := by
 induction vs generalizing xs with
 | nil => simp [ofVals] at h; subst h; exact .nil
 | cons v vs ih =>
  simp only [ofVals] at h
  cases hc : S.ofVal v with
  | none => simp [hc] at h
  | some u =>
   cases hr : ofVals vs with
   | none => simp [hc, hr] at h
   | some r => simp [hc, hr] at h; subst h; exact .cons (S.ofVal_rel hc) (ih hr)
theorem V.ofVal_rel {ι : Inj} {v : Value} {x : V} (h : V.ofVal v = some x) : VR ι x v := by
 unfold V.ofVal at h;split at h
 ·rename_i cs;split at h
  ·rename_i xs hx; simp at h; subst h; exact ⟨cs, rfl, ofVals_rel hx⟩
  ·simp at h
 ·split at h
  ·rename_i x' hx; simp at h; subst h; exact S.ofVal_rel hx
  ·simp at h
theorem V.part_rel {ι : Inj} {x : V} {v : Value} {p : Bool × List S} (k : VR ι x v) (h : x.part = some p) : PR ι p v := by
 cases x with
 | one x => simp [V.part] at h; subst h; exact ⟨x, rfl, k⟩
 | agg xs => simp [V.part] at h; subst h; exact k
 | tup ps => simp [V.part] at h
theorem ofPart_rel {ι : Inj} {x : V} {v : Value} {p : Bool × List S} (k : PR ι p v) (h : ofPart p = some x) : VR ι x v := by
 obtain ⟨t, xs⟩ := p
 cases t with
 | true => simp [ofPart] at h; subst h; exact k
 | false =>
  obtain ⟨x', rfl, k⟩ := k;simp [ofPart] at h; subst h; exact k
theorem parts_rel {ι : Inj} {xs : List V} {vs : List Value} {ps : List (Bool × List S)} (k : All2 (VR ι) xs vs) (h : parts xs = some ps) : All2 (PR ι) ps vs := by
 induction k generalizing ps with
 | nil => simp [parts] at h; subst h; exact .nil
 | @cons a b l m ha _ ih =>
  simp only [parts] at h
  cases hc : a.part with
  | none => simp [hc] at h
  | some u =>
   cases hr : parts l with
   | none => simp [hc, hr] at h
   | some r => simp [hc, hr] at h; subst h; exact .cons (V.part_rel ha hc) (ih hr)
def O.real : O → Bool
 | .cells .. => true
 | .map _ => true
 | _ => false
def O.ghostly : O → Bool
 | .ghost _ => true
 | _ => false
def ORel (P : Program) (ι : Inj) (b : Nat) (w : World) : O → Prop
 | .cells e cs n => ∃ c, w.heap[ι.blk b]? = some (.cells c e (0, 0)) ∧ c.size = ι.sh b + ι.lim b ∧ n ≤ ι.lim b ∧ (∀ j, j < n → ∃ x v, cs.get j = some x ∧ c[ι.sh b + j]? = some v ∧ SR ι x v) ∧ ∀ j v, (j < ι.sh b ∨ ι.sh b + n ≤ j) → ι.rest b j = some v → c[j]? = some v
 | .ro cs n => (∀ j, j < n → ∃ x v, cs.get j = some x ∧ w.cell? ⟨ι.blk b, ι.sh b + j, none⟩ = some v ∧ SR ι x v) ∧ ∀ c s, roAt cs n = some (c, s) → ι.blk b = c ∧ ι.sh b = s ∧ ∃ q e, w.heap[c]? = some (.cells q e (0, 0))
 | .map es => ∃ en clock, w.heap[ι.blk b]? = some (.map en clock) ∧ All2 (fun kv e => VR ι kv.1 e.key ∧ VR ι kv.2 e.val) es en.toList
 | .ghost vs => All2 (VR ι) vs (ι.caps b).toList
theorem ORel.ext {P : Program} {ι ι' : Inj} (h : Ext ι ι') {b : Nat} (hd : ι.dom b) {w w' : World} (hw : w'.heap[ι.blk b]? = w.heap[ι.blk b]?) {o : O} (k : ORel P ι b w o) : ORel P ι' b w' o := by
 have e := h.at_ b hd
 cases o with
 | cells t cs n =>
  obtain ⟨c, h1, h2, h3, h5, h6⟩ := k;refine ⟨c, by rw [e.blk, hw]; exact h1, by rw [e.sh, e.lim]; exact h2, by rw [e.lim]; exact h3, fun j hj => ?_, fun j v hj hv => h6 j v (by rw [e.sh] at hj; exact hj) (by rw [e.rest] at hv; exact hv)⟩;obtain ⟨x, v, p, q, r⟩ := h5 j hj;exact ⟨x, v, p, by rw [e.sh]; exact q, r.ext h⟩
 | ro cs n =>
  refine ⟨fun j hj => ?_, fun c s hc => ?_⟩
  ·obtain ⟨x, v, p, q, r⟩ := k.1 j hj;exact ⟨x, v, p, by rw [e.blk, e.sh]; simpa [World.cell?, hw] using q, r.ext h⟩
  ·obtain ⟨h1, h2, q, t, h3⟩ := k.2 c s hc;exact ⟨e.blk.trans h1, e.sh.trans h2, q, t, by rw [← h1, hw, h1]; exact h3⟩
 | map es =>
  obtain ⟨en, cl, h1, h2⟩ := k;exact ⟨en, cl, by rw [e.blk, hw]; exact h1, h2.mono fun _ _ h' => ⟨h'.1.ext h, h'.2.ext h⟩⟩
 | ghost vs =>
  show All2 (VR ι') vs (ι'.caps b).toList;rw [e.caps]; exact VR.all h k
def HasBody (P : Program) (f : FuncId) : Prop := ∃ fn, P.funcs[f]? = some fn ∧ fn.body.isSome = true ∧ (fn.name == "runtime.NumGoroutine") = false
structure KnOk (P : Program) (env : Nat → Int) (kn : Kn) : Prop where
 call : ∀ f args v, kn.call f args = some v → HasBody P f ∧ ∀ (ι : Inj) (w : World) (cargs : List Value), ι.env = env → All2 (VR ι) args cargs → Calls P f cargs.toArray w fun e w' => ∃ cv, e = .returned cv ∧ VR ι v cv ∧ RowKit.Below w.heap.size w w'
 facts : ∀ f ∈ kn.facts, f.ok env ∧ 0 ≤ f.eval env
 mx : ∀ p ∈ kn.mx, p.2.2.ok env ∧ p.2.2.eval env = max (p.1.eval env) (p.2.1.eval env)
 pr : ∀ p ∈ kn.pr, p.2.2.ok env ∧ p.1.eval env * p.2.1.eval env = p.2.2.eval env
structure HR (P : Program) (ι : Inj) (h : H) (w : World) : Prop where
 dom : ∀ b, ι.dom b → b < h.next
 obj : ∀ b o, h.get b = some o → ι.dom b ∧ ORel P ι b w o
 inj : ∀ b b' o o', h.get b = some o → h.get b' = some o' → o.real = true → o'.ghostly = false → b ≠ b' → ι.blk b ≠ ι.blk b'
 hid : ∀ b, h.next ≤ b → hidden h.hid b = false
 lt : ∀ b o, h.get b = some o → o.ghostly = false → ι.blk b < w.heap.size
 frz : ∀ b, h.next ≤ b → hidden h.frz b = false
 kn : KnOk P ι.env h.kn
def Wr (ι : Inj) (h : H) (c : Nat) : Prop := ∃ b o, h.get b = some o ∧ o.real = true ∧ (h.floor ≤ b ∧ hidden h.frz b = false) ∧ ι.blk b = c
structure Step (P : Program) (ι : Inj) (h : H) (w : World) (ι' : Inj) (h' : H) (w' : World) : Prop where
 ext : Ext ι ι'
 hr : HR P ι' h' w'
 size : w.heap.size ≤ w'.heap.size
 os : w'.os = w.os
 tape : w'.tape = w.tape
 output : w'.output = w.output
 floor : h'.floor = h.floor
 hid : h'.hid = h.hid
 next : h.next ≤ h'.next
 new : ∀ b, ι'.dom b → ι.dom b ∨ h.next ≤ b
 old : ∀ b o', b < h.next → h'.get b = some o' → ∃ o, h.get b = some o ∧ o'.real = o.real ∧ o'.ghostly = o.ghostly
 fresh : ∀ b o', h.next ≤ b → h'.get b = some o' → o'.real = true ∨ o'.ghostly = true ∨ w.heap.size ≤ ι'.blk b
 wr : ∀ c, c < w.heap.size → Wr ι' h' c → Wr ι h c
 fr : ∀ c, c < w.heap.size → ¬ Wr ι h c → w'.heap[c]? = w.heap[c]?
 frz : h'.frz = h.frz
 kn : h'.kn = h.kn
theorem Step.refl {P : Program} {ι : Inj} {h : H} {w : World} (k : HR P ι h w) : Step P ι h w ι h w :=
 ⟨.refl ι, k, Nat.le_refl _, rfl, rfl, rfl, rfl, rfl, Nat.le_refl _, fun _ h => .inl h, fun _ o _ h => ⟨o, h, rfl, rfl⟩, fun b o hb hg => absurd (k.dom b (k.obj b o hg).1) (by omega), fun _ _ h => h, fun _ _ _ => rfl, rfl, rfl⟩
theorem Step.trans {P : Program} {a b c : Inj} {x y z : H} {u v w : World} (h : Step P a x u b y v) (k : Step P b y v c z w) : Step P a x u c z w :=
 ⟨h.ext.trans k.ext, k.hr, Nat.le_trans h.size k.size, k.os.trans h.os, k.tape.trans h.tape, k.output.trans h.output, k.floor.trans h.floor, k.hid.trans h.hid, Nat.le_trans h.next k.next, fun b hb => (k.new b hb).elim (fun q => h.new b q) (fun q => .inr (Nat.le_trans h.next q)),
  fun b o hb hg => by
   obtain ⟨o1, h1, h2, h3⟩ := k.old b o (Nat.lt_of_lt_of_le hb h.next) hg;obtain ⟨o2, h4, h5, h6⟩ := h.old b o1 hb h1
   exact ⟨o2, h4, h2.trans h5, h3.trans h6⟩,
  fun b o hb hg => by
   rcases Nat.lt_or_ge b y.next with hlt | hge
   ·obtain ⟨o1, h1, h2, h3⟩ := k.old b o hlt hg;rw [h2, h3, (k.ext.at_ b (h.hr.obj b o1 h1).1).blk]; exact h.fresh b o1 hb h1
   ·exact (k.fresh b o hge hg).imp id fun q => q.imp id fun q => Nat.le_trans h.size q,
  fun c hc hw => h.wr c hc (k.wr c (Nat.lt_of_lt_of_le hc h.size) hw),
  fun c hc hw => (k.fr c (Nat.lt_of_lt_of_le hc h.size) fun q => hw (h.wr c hc q)).trans (h.fr c hc hw), k.frz.trans h.frz, k.kn.trans h.kn⟩
theorem HR.drew {P : Program} {ι : Inj} {h : H} {w : World} (k : HR P ι h w) (n : Nat) : HR P ι h { w with drawn := n } :=
 ⟨k.dom, fun b o hb => ⟨(k.obj b o hb).1, ORel.ext (.refl ι) (k.obj b o hb).1 (w := w) rfl (k.obj b o hb).2⟩, k.inj, k.hid, k.lt, k.frz, k.kn⟩
theorem Step.drew0 {P : Program} {ι ι' : Inj} {h h' : H} {w w' : World} {n : Nat} (s : Step P ι h { w with drawn := n } ι' h' w') : Step P ι h w ι' h' w' :=
 ⟨s.ext, s.hr, s.size, s.os, s.tape, s.output, s.floor, s.hid, s.next, s.new, s.old, s.fresh, s.wr, s.fr, s.frz, s.kn⟩
theorem H.get_alloc (h : H) (o : O) (b : Nat) (hn : hidden h.hid h.next = false) : (h.alloc o).get b = if b = h.next then some o else h.get b := by
 show cond (hidden h.hid b) none ((h.tr.set h.next o).get b) = _;rw [T.get_set]
 by_cases e : b = h.next
 ·subst e; rw [hn, if_pos rfl, if_pos rfl]; rfl
 ·rw [if_neg e, if_neg e]; rfl
end Go.Ai
