/-
LayoutWraps, part 1 of 48: AiTries.
-/
import Derived.Calls
set_option linter.unusedVariables false
set_option linter.unusedSimpArgs false
namespace Go.Ai
structure Box (α : Type) where
 val : α
noncomputable def Box.use {α β : Type} (b : Box α) (K : α → β) : β := Box.rec K b
theorem Box.use_eq {α β : Type} (b : Box α) (K : α → β) : b.use K = K b.val := rfl
inductive TO (α : Type) where
 | e
 | n (l : TO α) (v : Option α) (r : TO α)
noncomputable def TO.get {α : Type} (t : TO α) : Nat → Option α :=
 TO.rec (fun _ => none) (fun _ v _ gl gr k => Nat.rec v (fun j _ => cond (Nat.beq (j % 2) 0) (gl (j / 2)) (gr (j / 2))) k) t
def TO.left {α : Type} : TO α → TO α
 | .e => .e
 | .n l _ _ => l
def TO.right {α : Type} : TO α → TO α
 | .e => .e
 | .n _ _ r => r
def TO.here {α : Type} : TO α → Option α
 | .e => none
 | .n _ x _ => x
noncomputable def TO.updF {α : Type} (f : Nat) : TO α → Nat → Option α → TO α :=
 Nat.rec (fun t _ _ => t) (fun _ up t k v => Nat.rec (.n t.left v t.right)
  (fun j _ => cond (Nat.beq (j % 2) 0) (.n (up t.left (j / 2) v) t.here t.right) (.n t.left t.here (up t.right (j / 2) v))) k) f
noncomputable def TO.updK {α β : Type} (f : Nat) : TO α → Nat → Option α → (TO α → β) → β :=
 Nat.rec (fun t _ _ K => K t) (fun _ up t k v K => TO.rec
  (Nat.rec (K (.n .e v .e)) (fun j _ => cond (Nat.beq (j % 2) 0) (up .e (j / 2) v (fun l' => K (.n l' none .e))) (up .e (j / 2) v (fun r' => K (.n .e none r')))) k)
  (fun l x r _ _ => Nat.rec (K (.n l v r)) (fun j _ => cond (Nat.beq (j % 2) 0) (up l (j / 2) v (fun l' => K (.n l' x r))) (up r (j / 2) v (fun r' => K (.n l x r')))) k) t) f
noncomputable def forceN {β : Type} (n : Nat) (K : Nat → β) : β := Nat.rec (K 0) (fun m _ => K (m + 1)) n
noncomputable def forceI {β : Type} (x : Int) (K : Int → β) : β := Int.rec (fun a => forceN a fun a => K (.ofNat a)) (fun a => forceN a fun a => K (.negSucc a)) x
theorem forceN_eq {β : Type} (n : Nat) (K : Nat → β) : forceN n K = K n := by cases n <;> rfl
theorem forceI_eq {β : Type} (x : Int) (K : Int → β) : forceI x K = K x := by
 cases x with
 | ofNat a => exact forceN_eq a (fun a => K (.ofNat a))
 | negSucc a => exact forceN_eq a (fun a => K (.negSucc a))
theorem TO.updK_eq {α β : Type} (f : Nat) : ∀ (t : TO α) (k : Nat) (v : Option α) (K : TO α → β), TO.updK f t k v K = K (TO.updF f t k v) := by
 induction f with
 | zero => intro t k v K; rfl
 | succ f ih =>
  intro t k v K
  cases t with
  | e =>
   cases k with
   | zero => rfl
   | succ j =>
    show cond (Nat.beq (j % 2) 0) (TO.updK f .e (j / 2) v _) (TO.updK f .e (j / 2) v _) = K (cond (Nat.beq (j % 2) 0) _ _);cases Nat.beq (j % 2) 0 <;> exact ih ..
  | n l x r =>
   cases k with
   | zero => rfl
   | succ j =>
    show cond (Nat.beq (j % 2) 0) (TO.updK f l (j / 2) v _) (TO.updK f r (j / 2) v _) = K (cond (Nat.beq (j % 2) 0) _ _);cases Nat.beq (j % 2) 0 <;> exact ih ..
noncomputable def TO.upd {α : Type} (t : TO α) (k : Nat) (v : Option α) : TO α := TO.updF (k + 1) t k v
structure N8 (α : Type) where
 x0 : α
 x1 : α
 x2 : α
 x3 : α
 x4 : α
 x5 : α
 x6 : α
 x7 : α
def P8 (α : Type) (d : Nat) : Type := Nat.rec (motive := fun _ => Type) α (fun _ X => N8 X) d
def pick8 {X : Type} (d : Nat) (x0 x1 x2 x3 x4 x5 x6 x7 : X) : X := cond (Nat.beq d 0) x0 (cond (Nat.beq d 1) x1 (cond (Nat.beq d 2) x2 (cond (Nat.beq d 3) x3 (cond (Nat.beq d 4) x4 (cond (Nat.beq d 5) x5 (cond (Nat.beq d 6) x6 (x7)))))))
noncomputable def P8.getB {α : Type} (d : Nat) : Nat → Box (P8 α d → α) :=
 Nat.rec (motive := fun d => Nat → Box (P8 α d → α)) (fun _ => ⟨fun t => t⟩) (fun d ih k => (ih (k / 8)).use fun F => pick8 (k % 8) ⟨fun (t : N8 (P8 α d)) => F t.x0⟩ ⟨fun (t : N8 (P8 α d)) => F t.x1⟩ ⟨fun (t : N8 (P8 α d)) => F t.x2⟩ ⟨fun (t : N8 (P8 α d)) => F t.x3⟩ ⟨fun (t : N8 (P8 α d)) => F t.x4⟩ ⟨fun (t : N8 (P8 α d)) => F t.x5⟩ ⟨fun (t : N8 (P8 α d)) => F t.x6⟩ ⟨fun (t : N8 (P8 α d)) => F t.x7⟩) d
noncomputable def P8.updB {α β : Type} (d : Nat) : Nat → Box (P8 α d → α → (P8 α d → β) → β) :=
 Nat.rec (motive := fun d => Nat → Box (P8 α d → α → (P8 α d → β) → β)) (fun _ => ⟨fun _ v K => K v⟩) (fun d ih k => (ih (k / 8)).use fun F => pick8 (k % 8) ⟨fun (t : N8 (P8 α d)) v (K : N8 (P8 α d) → β) => N8.rec (fun x0 x1 x2 x3 x4 x5 x6 x7 => F x0 v fun y => K ⟨y, x1, x2, x3, x4, x5, x6, x7⟩) t⟩ ⟨fun (t : N8 (P8 α d)) v (K : N8 (P8 α d) → β) => N8.rec (fun x0 x1 x2 x3 x4 x5 x6 x7 => F x1 v fun y => K ⟨x0, y, x2, x3, x4, x5, x6, x7⟩) t⟩ ⟨fun (t : N8 (P8 α d)) v (K : N8 (P8 α d) → β) => N8.rec (fun x0 x1 x2 x3 x4 x5 x6 x7 => F x2 v fun y => K ⟨x0, x1, y, x3, x4, x5, x6, x7⟩) t⟩ ⟨fun (t : N8 (P8 α d)) v (K : N8 (P8 α d) → β) => N8.rec (fun x0 x1 x2 x3 x4 x5 x6 x7 => F x3 v fun y => K ⟨x0, x1, x2, y, x4, x5, x6, x7⟩) t⟩ ⟨fun (t : N8 (P8 α d)) v (K : N8 (P8 α d) → β) => N8.rec (fun x0 x1 x2 x3 x4 x5 x6 x7 => F x4 v fun y => K ⟨x0, x1, x2, x3, y, x5, x6, x7⟩) t⟩ ⟨fun (t : N8 (P8 α d)) v (K : N8 (P8 α d) → β) => N8.rec (fun x0 x1 x2 x3 x4 x5 x6 x7 => F x5 v fun y => K ⟨x0, x1, x2, x3, x4, y, x6, x7⟩) t⟩ ⟨fun (t : N8 (P8 α d)) v (K : N8 (P8 α d) → β) => N8.rec (fun x0 x1 x2 x3 x4 x5 x6 x7 => F x6 v fun y => K ⟨x0, x1, x2, x3, x4, x5, y, x7⟩) t⟩ ⟨fun (t : N8 (P8 α d)) v (K : N8 (P8 α d) → β) => N8.rec (fun x0 x1 x2 x3 x4 x5 x6 x7 => F x7 v fun y => K ⟨x0, x1, x2, x3, x4, x5, x6, y⟩) t⟩) d
noncomputable def P8.new {α : Type} (x : α) (d : Nat) : P8 α d := Nat.rec (motive := fun d => P8 α d) x (fun d (t : P8 α d) => (⟨t, t, t, t, t, t, t, t⟩ : N8 (P8 α d))) d
noncomputable def P8.get {α : Type} (d : Nat) (t : P8 α d) (k : Nat) : α := (P8.getB d k).val t
noncomputable def P8.upd {α : Type} (d : Nat) (t : P8 α d) (k : Nat) (v : α) : P8 α d := (P8.updB d k).val t v fun t => t
def N8.sel {α : Type} (t : N8 α) (d : Nat) : α := pick8 d t.x0 t.x1 t.x2 t.x3 t.x4 t.x5 t.x6 t.x7
def N8.put {α : Type} (t : N8 α) (d : Nat) (y : α) : N8 α := pick8 d ⟨y, t.x1, t.x2, t.x3, t.x4, t.x5, t.x6, t.x7⟩ ⟨t.x0, y, t.x2, t.x3, t.x4, t.x5, t.x6, t.x7⟩ ⟨t.x0, t.x1, y, t.x3, t.x4, t.x5, t.x6, t.x7⟩ ⟨t.x0, t.x1, t.x2, y, t.x4, t.x5, t.x6, t.x7⟩ ⟨t.x0, t.x1, t.x2, t.x3, y, t.x5, t.x6, t.x7⟩ ⟨t.x0, t.x1, t.x2, t.x3, t.x4, y, t.x6, t.x7⟩ ⟨t.x0, t.x1, t.x2, t.x3, t.x4, t.x5, y, t.x7⟩ ⟨t.x0, t.x1, t.x2, t.x3, t.x4, t.x5, t.x6, y⟩
theorem N8.sel_put {α : Type} (t : N8 α) (y : α) {i k : Nat} (hi : i < 8) (hk : k < 8) : (t.put k y).sel i = if i = k then y else t.sel i := by
 have h1 : i = 0 ∨ i = 1 ∨ i = 2 ∨ i = 3 ∨ i = 4 ∨ i = 5 ∨ i = 6 ∨ i = 7 := by omega
 have h2 : k = 0 ∨ k = 1 ∨ k = 2 ∨ k = 3 ∨ k = 4 ∨ k = 5 ∨ k = 6 ∨ k = 7 := by omega
 rcases h1 with rfl | rfl | rfl | rfl | rfl | rfl | rfl | rfl <;> rcases h2 with rfl | rfl | rfl | rfl | rfl | rfl | rfl | rfl <;> first
  | (rw [if_pos rfl]; rfl)
  | (rw [if_neg (by decide)]; rfl)
theorem P8.getB_succ {α : Type} (d k : Nat) : (P8.getB (d + 1) k : Box (N8 (P8 α d) → α)) = pick8 (k % 8) ⟨fun (t : N8 (P8 α d)) => (P8.getB d (k / 8)).val t.x0⟩ ⟨fun (t : N8 (P8 α d)) => (P8.getB d (k / 8)).val t.x1⟩ ⟨fun (t : N8 (P8 α d)) => (P8.getB d (k / 8)).val t.x2⟩ ⟨fun (t : N8 (P8 α d)) => (P8.getB d (k / 8)).val t.x3⟩ ⟨fun (t : N8 (P8 α d)) => (P8.getB d (k / 8)).val t.x4⟩ ⟨fun (t : N8 (P8 α d)) => (P8.getB d (k / 8)).val t.x5⟩ ⟨fun (t : N8 (P8 α d)) => (P8.getB d (k / 8)).val t.x6⟩ ⟨fun (t : N8 (P8 α d)) => (P8.getB d (k / 8)).val t.x7⟩ := rfl
theorem P8.updB_succ {α β : Type} (d k : Nat) : (P8.updB (d + 1) k : Box (N8 (P8 α d) → α → (N8 (P8 α d) → β) → β)) = pick8 (k % 8) ⟨fun (t : N8 (P8 α d)) v (K : N8 (P8 α d) → β) => N8.rec (fun x0 x1 x2 x3 x4 x5 x6 x7 => (P8.updB d (k / 8)).val x0 v fun y => K ⟨y, x1, x2, x3, x4, x5, x6, x7⟩) t⟩ ⟨fun (t : N8 (P8 α d)) v (K : N8 (P8 α d) → β) => N8.rec (fun x0 x1 x2 x3 x4 x5 x6 x7 => (P8.updB d (k / 8)).val x1 v fun y => K ⟨x0, y, x2, x3, x4, x5, x6, x7⟩) t⟩ ⟨fun (t : N8 (P8 α d)) v (K : N8 (P8 α d) → β) => N8.rec (fun x0 x1 x2 x3 x4 x5 x6 x7 => (P8.updB d (k / 8)).val x2 v fun y => K ⟨x0, x1, y, x3, x4, x5, x6, x7⟩) t⟩ ⟨fun (t : N8 (P8 α d)) v (K : N8 (P8 α d) → β) => N8.rec (fun x0 x1 x2 x3 x4 x5 x6 x7 => (P8.updB d (k / 8)).val x3 v fun y => K ⟨x0, x1, x2, y, x4, x5, x6, x7⟩) t⟩ ⟨fun (t : N8 (P8 α d)) v (K : N8 (P8 α d) → β) => N8.rec (fun x0 x1 x2 x3 x4 x5 x6 x7 => (P8.updB d (k / 8)).val x4 v fun y => K ⟨x0, x1, x2, x3, y, x5, x6, x7⟩) t⟩ ⟨fun (t : N8 (P8 α d)) v (K : N8 (P8 α d) → β) => N8.rec (fun x0 x1 x2 x3 x4 x5 x6 x7 => (P8.updB d (k / 8)).val x5 v fun y => K ⟨x0, x1, x2, x3, x4, y, x6, x7⟩) t⟩ ⟨fun (t : N8 (P8 α d)) v (K : N8 (P8 α d) → β) => N8.rec (fun x0 x1 x2 x3 x4 x5 x6 x7 => (P8.updB d (k / 8)).val x6 v fun y => K ⟨x0, x1, x2, x3, x4, x5, y, x7⟩) t⟩ ⟨fun (t : N8 (P8 α d)) v (K : N8 (P8 α d) → β) => N8.rec (fun x0 x1 x2 x3 x4 x5 x6 x7 => (P8.updB d (k / 8)).val x7 v fun y => K ⟨x0, x1, x2, x3, x4, x5, x6, y⟩) t⟩ := rfl
theorem P8.get_succ {α : Type} (d : Nat) (t : N8 (P8 α d)) (k : Nat) : P8.get (d + 1) t k = P8.get d (t.sel (k % 8)) (k / 8) := by
 show (P8.getB (d + 1) k : Box (N8 (P8 α d) → α)).val t = _;rw [P8.getB_succ];unfold N8.sel pick8;cases Nat.beq (k % 8) 0;rotate_left
 ·rfl
 cases Nat.beq (k % 8) 1;rotate_left
 ·rfl
 cases Nat.beq (k % 8) 2;rotate_left
 ·rfl
 cases Nat.beq (k % 8) 3;rotate_left
 ·rfl
 cases Nat.beq (k % 8) 4;rotate_left
 ·rfl
 cases Nat.beq (k % 8) 5;rotate_left
 ·rfl
 cases Nat.beq (k % 8) 6;rotate_left
 ·rfl
 rfl
theorem P8.updK_eq {α : Type} (d : Nat) : ∀ {β : Type} (t : P8 α d) (k : Nat) (v : α) (K : P8 α d → β), (P8.updB d k).val t v K = K (P8.upd d t k v) := by
 induction d with
 | zero => intro β t k v K; rfl
 | succ d ih =>
  rintro β ⟨x0, x1, x2, x3, x4, x5, x6, x7⟩ k v K;show (P8.updB (d + 1) k : Box (N8 (P8 α d) → α → (N8 (P8 α d) → β) → β)).val _ v K = K ((P8.updB (d + 1) k : Box (N8 (P8 α d) → α → (N8 (P8 α d) → N8 (P8 α d)) → N8 (P8 α d))).val _ v fun t => t);rw [P8.updB_succ, P8.updB_succ];unfold pick8;cases Nat.beq (k % 8) 0;rotate_left
  ·exact (ih x0 _ _ (fun y => K ⟨y, x1, x2, x3, x4, x5, x6, x7⟩)).trans (congrArg K (ih x0 (k / 8) v (fun y => (⟨y, x1, x2, x3, x4, x5, x6, x7⟩ : N8 (P8 α d)))).symm)
  cases Nat.beq (k % 8) 1;rotate_left
  ·exact (ih x1 _ _ (fun y => K ⟨x0, y, x2, x3, x4, x5, x6, x7⟩)).trans (congrArg K (ih x1 (k / 8) v (fun y => (⟨x0, y, x2, x3, x4, x5, x6, x7⟩ : N8 (P8 α d)))).symm)
  cases Nat.beq (k % 8) 2;rotate_left
  ·exact (ih x2 _ _ (fun y => K ⟨x0, x1, y, x3, x4, x5, x6, x7⟩)).trans (congrArg K (ih x2 (k / 8) v (fun y => (⟨x0, x1, y, x3, x4, x5, x6, x7⟩ : N8 (P8 α d)))).symm)
  cases Nat.beq (k % 8) 3;rotate_left
  ·exact (ih x3 _ _ (fun y => K ⟨x0, x1, x2, y, x4, x5, x6, x7⟩)).trans (congrArg K (ih x3 (k / 8) v (fun y => (⟨x0, x1, x2, y, x4, x5, x6, x7⟩ : N8 (P8 α d)))).symm)
  cases Nat.beq (k % 8) 4;rotate_left
  ·exact (ih x4 _ _ (fun y => K ⟨x0, x1, x2, x3, y, x5, x6, x7⟩)).trans (congrArg K (ih x4 (k / 8) v (fun y => (⟨x0, x1, x2, x3, y, x5, x6, x7⟩ : N8 (P8 α d)))).symm)
  cases Nat.beq (k % 8) 5;rotate_left
  ·exact (ih x5 _ _ (fun y => K ⟨x0, x1, x2, x3, x4, y, x6, x7⟩)).trans (congrArg K (ih x5 (k / 8) v (fun y => (⟨x0, x1, x2, x3, x4, y, x6, x7⟩ : N8 (P8 α d)))).symm)
  cases Nat.beq (k % 8) 6;rotate_left
  ·exact (ih x6 _ _ (fun y => K ⟨x0, x1, x2, x3, x4, x5, y, x7⟩)).trans (congrArg K (ih x6 (k / 8) v (fun y => (⟨x0, x1, x2, x3, x4, x5, y, x7⟩ : N8 (P8 α d)))).symm)
  exact (ih x7 _ _ (fun y => K ⟨x0, x1, x2, x3, x4, x5, x6, y⟩)).trans (congrArg K (ih x7 (k / 8) v (fun y => (⟨x0, x1, x2, x3, x4, x5, x6, y⟩ : N8 (P8 α d)))).symm)
theorem P8.upd_succ {α : Type} (d : Nat) (t : N8 (P8 α d)) (k : Nat) (v : α) : P8.upd (d + 1) t k v = t.put (k % 8) (P8.upd d (t.sel (k % 8)) (k / 8) v) := by
 obtain ⟨x0, x1, x2, x3, x4, x5, x6, x7⟩ := t;show (P8.updB (d + 1) k : Box (N8 (P8 α d) → α → (N8 (P8 α d) → N8 (P8 α d)) → N8 (P8 α d))).val _ v (fun t => t) = _;rw [P8.updB_succ];unfold N8.put N8.sel pick8;cases Nat.beq (k % 8) 0;rotate_left
 ·exact P8.updK_eq ..
 cases Nat.beq (k % 8) 1;rotate_left
 ·exact P8.updK_eq ..
 cases Nat.beq (k % 8) 2;rotate_left
 ·exact P8.updK_eq ..
 cases Nat.beq (k % 8) 3;rotate_left
 ·exact P8.updK_eq ..
 cases Nat.beq (k % 8) 4;rotate_left
 ·exact P8.updK_eq ..
 cases Nat.beq (k % 8) 5;rotate_left
 ·exact P8.updK_eq ..
 cases Nat.beq (k % 8) 6;rotate_left
 ·exact P8.updK_eq ..
 exact P8.updK_eq ..
theorem P8.get_upd {α : Type} (d : Nat) : ∀ (t : P8 α d) (k i : Nat) (v : α), k < 8 ^ d → i < 8 ^ d → P8.get d (P8.upd d t k v) i = if i = k then v else P8.get d t i := by
 induction d with
 | zero =>
  intro t k i v hk hi;have e : i = k := by simp at hk hi; omega
  rw [if_pos e]; rfl
 | succ d ih =>
  intro (t : N8 (P8 α d)) k i v hk hi;have hk2 : k / 8 < 8 ^ d := by rw [Nat.pow_succ] at hk; omega
  have hi2 : i / 8 < 8 ^ d := by rw [Nat.pow_succ] at hi; omega
  refine (P8.get_succ d (P8.upd (d + 1) t k v) i).trans ?_;refine (congrArg (fun z : N8 (P8 α d) => P8.get d (z.sel (i % 8)) (i / 8)) (P8.upd_succ d t k v)).trans ?_;have e0 : P8.get (d + 1) t i = P8.get d (N8.sel t (i % 8)) (i / 8) := P8.get_succ d t i;show P8.get d (N8.sel (N8.put t (k % 8) _) (i % 8)) (i / 8) = _;rw [e0, N8.sel_put _ _ (Nat.mod_lt _ (by omega)) (Nat.mod_lt _ (by omega))]
  by_cases h : i % 8 = k % 8
  ·rw [if_pos h, ih _ _ _ _ hk2 hi2]
   by_cases e : i = k
   ·rw [if_pos (by omega), if_pos e]
   ·rw [if_neg (by omega), if_neg e, h]
  ·rw [if_neg h, if_neg (by intro e; exact h (by rw [e]))]
theorem P8.get_new {α : Type} (x : α) (d : Nat) : ∀ i, P8.get d (P8.new x d) i = x := by
 induction d with
 | zero => intro i; rfl
 | succ d ih =>
  intro i;refine (P8.get_succ d (⟨P8.new x d, P8.new x d, P8.new x d, P8.new x d, P8.new x d, P8.new x d, P8.new x d, P8.new x d⟩ : N8 (P8 α d)) i).trans ?_
  have : N8.sel (⟨P8.new x d, P8.new x d, P8.new x d, P8.new x d, P8.new x d, P8.new x d, P8.new x d, P8.new x d⟩ : N8 (P8 α d)) (i % 8) = P8.new x d := by
   unfold N8.sel pick8;cases Nat.beq (i % 8) 0;rotate_left
   ·rfl
   cases Nat.beq (i % 8) 1;rotate_left
   ·rfl
   cases Nat.beq (i % 8) 2;rotate_left
   ·rfl
   cases Nat.beq (i % 8) 3;rotate_left
   ·rfl
   cases Nat.beq (i % 8) 4;rotate_left
   ·rfl
   cases Nat.beq (i % 8) 5;rotate_left
   ·rfl
   cases Nat.beq (i % 8) 6;rotate_left
   ·rfl
   rfl
  rw [this]; exact ih _
structure T (α : Type) where
 t1 : P8 (Option α) 1
 t2 : P8 (Option α) 2
 t3 : P8 (Option α) 3
 t4 : P8 (Option α) 4
 t5 : P8 (Option α) 5
 old : TO α
noncomputable def T.e {α : Type} : T α := ⟨P8.new none 1, P8.new none 2, P8.new none 3, P8.new none 4, P8.new none 5, .e⟩
noncomputable def T.getB {α : Type} (k : Nat) : Box (T α → Option α) :=
 cond (Nat.blt k 8) ((P8.getB 1 k).use fun F => ⟨fun t => F t.t1⟩) (cond (Nat.blt k 64) ((P8.getB 2 k).use fun F => ⟨fun t => F t.t2⟩) (cond (Nat.blt k 512) ((P8.getB 3 k).use fun F => ⟨fun t => F t.t3⟩)
  (cond (Nat.blt k 4096) ((P8.getB 4 k).use fun F => ⟨fun t => F t.t4⟩) (cond (Nat.blt k 32768) ((P8.getB 5 k).use fun F => ⟨fun t => F t.t5⟩) ⟨fun t => t.old.get k⟩))))
noncomputable def T.updB {α β : Type} (k : Nat) : Box (T α → Option α → (T α → β) → β) :=
 cond (Nat.blt k 8) ((P8.updB 1 k).use fun F => ⟨fun t v K => T.rec (fun a b c d e f => F a v fun y => K ⟨y, b, c, d, e, f⟩) t⟩) (cond (Nat.blt k 64) ((P8.updB 2 k).use fun F => ⟨fun t v K => T.rec (fun a b c d e f => F b v fun y => K ⟨a, y, c, d, e, f⟩) t⟩)
  (cond (Nat.blt k 512) ((P8.updB 3 k).use fun F => ⟨fun t v K => T.rec (fun a b c d e f => F c v fun y => K ⟨a, b, y, d, e, f⟩) t⟩) (cond (Nat.blt k 4096) ((P8.updB 4 k).use fun F => ⟨fun t v K => T.rec (fun a b c d e f => F d v fun y => K ⟨a, b, c, y, e, f⟩) t⟩)
  (cond (Nat.blt k 32768) ((P8.updB 5 k).use fun F => ⟨fun t v K => T.rec (fun a b c d e f => F e v fun y => K ⟨a, b, c, d, y, f⟩) t⟩) ⟨fun t v K => T.rec (fun a b c d e f => TO.updK (k + 1) f k v fun y => K ⟨a, b, c, d, e, y⟩) t⟩))))
noncomputable def T.get {α : Type} (t : T α) (k : Nat) : Option α := (T.getB k).use fun F => F t
noncomputable def T.updK {α β : Type} (t : T α) (k : Nat) (v : Option α) (K : T α → β) : β := (T.updB k).use fun F => F t v K
noncomputable def T.upd {α : Type} (t : T α) (k : Nat) (v : Option α) : T α := T.updK t k v fun t => t
theorem T.updK_eq {α β : Type} (t : T α) (k : Nat) (v : Option α) (K : T α → β) : T.updK t k v K = K (t.upd k v) := by
 obtain ⟨a, b, c, d, e, f⟩ := t;unfold T.upd T.updK;rw [Box.use_eq, Box.use_eq];unfold T.updB;cases Nat.blt k 8;rotate_left
 ·exact (P8.updK_eq 1 a k v (fun y => K ⟨y, b, c, d, e, f⟩)).trans (congrArg K (P8.updK_eq 1 a k v (fun y => (⟨y, b, c, d, e, f⟩ : T α))).symm)
 cases Nat.blt k 64;rotate_left
 ·exact (P8.updK_eq 2 b k v (fun y => K ⟨a, y, c, d, e, f⟩)).trans (congrArg K (P8.updK_eq 2 b k v (fun y => (⟨a, y, c, d, e, f⟩ : T α))).symm)
 cases Nat.blt k 512;rotate_left
 ·exact (P8.updK_eq 3 c k v (fun y => K ⟨a, b, y, d, e, f⟩)).trans (congrArg K (P8.updK_eq 3 c k v (fun y => (⟨a, b, y, d, e, f⟩ : T α))).symm)
 cases Nat.blt k 4096;rotate_left
 ·exact (P8.updK_eq 4 d k v (fun y => K ⟨a, b, c, y, e, f⟩)).trans (congrArg K (P8.updK_eq 4 d k v (fun y => (⟨a, b, c, y, e, f⟩ : T α))).symm)
 cases Nat.blt k 32768;rotate_left
 ·exact (P8.updK_eq 5 e k v (fun y => K ⟨a, b, c, d, y, f⟩)).trans (congrArg K (P8.updK_eq 5 e k v (fun y => (⟨a, b, c, d, y, f⟩ : T α))).symm)
 exact (TO.updK_eq (k + 1) f k v (fun y => K ⟨a, b, c, d, e, y⟩)).trans (congrArg K (TO.updK_eq (k + 1) f k v (fun y => (⟨a, b, c, d, e, y⟩ : T α))).symm)
noncomputable def T.set {α : Type} (t : T α) (k : Nat) (v : α) : T α := t.upd k (some v)
noncomputable def T.setMany {α : Type} (t : T α) (k : Nat) (l : List α) : T α :=
 List.rec (fun _ t => t) (fun x _ f k t => f (k + 1) (t.set k x)) l k t
noncomputable def T.setK {α β : Type} (t : T α) (k : Nat) (v : α) (K : T α → β) : β := T.updK t k (some v) K
theorem T.setK_eq {α β : Type} (t : T α) (k : Nat) (v : α) (K : T α → β) : t.setK k v K = K (t.set k v) := T.updK_eq ..
noncomputable def T.setManyK {α β : Type} (t : T α) (k : Nat) (l : List α) (K : T α → β) : β :=
 List.rec (fun _ t => K t) (fun x _ f k t => t.setK k x fun t => forceN (k + 1) fun k => f k t) l k t
theorem T.setManyK_eq {α β : Type} (l : List α) (K : T α → β) : ∀ (t : T α) (k : Nat), t.setManyK k l K = K (t.setMany k l) := by
 induction l with
 | nil => intro t k; rfl
 | cons x l ih =>
  intro t k;show t.setK k x (fun t => forceN (k + 1) fun k => T.setManyK t k l K) = K (T.setMany (t.set k x) (k + 1) l);rw [T.setK_eq, forceN_eq, ih]
end Go.Ai
