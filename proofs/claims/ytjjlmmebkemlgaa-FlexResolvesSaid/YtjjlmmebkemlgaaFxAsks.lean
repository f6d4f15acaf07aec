/-
What is asked: items, a gap, a room.
-/
import Derived.Test.YtjjlmmebkemlgaaFxWake
set_option linter.unusedVariables false
set_option linter.unusedSimpArgs false
namespace Go.Ai
open Go.Proofs

structure Ask where
  L : List Itm
  gap : Int
  room : Int
/-- Asks in a slice. -/
def AsksAt (h : H) (v : S) (A : List Ask) : Prop := (A = [] ∧ v = .sl0) ∨ ∃ b c, v = .sl b 0 A.length c 3 false ∧ b < h.next ∧ ∀ k a, A[k]? = some a → ∃ s, h.row b (k * 3) 3 = some [s, .i .i64 a.gap, .i .i64 a.room] ∧ ItemsAt h s a.L
theorem AsksAt.len {h h1 : H} {v : S} {A : List Ask} (hi : AsksAt h v A) {T : Sl} {x : Operand} (hx : ev T x = some (.one v)) {d : Option Tmp} {ty : TypeId} {ps : String} {af : Array Edge} {g : Option (Nat × Bool)} : execO Try.prog T h1 ⟨d, .call ⟨.builtin .len, #[x], #[38]⟩, ty, ps, af, g⟩ = some (.val (.one (.i .i64 (A.length : Int))) h1) := by
  rcases hi with ⟨rfl, rfl⟩ | ⟨b, c, rfl, _⟩
  · exact ex_len0 el38 hx
  · exact ex_len el38 hx
/-- Items without growth. -/
def Itm.still (x : Itm) : Itm := { x with gr := 0, sh := 0 }
def citems (l : List Itm) : List S := l.flatMap Itm.cells
theorem citems_length (l : List Itm) : (citems l).length = l.length * 5 := by
  induction l with
  | nil => rfl
  | cons x l ih => show (x.cells ++ citems l).length = _; rw [List.length_append, ih]; simp [Itm.cells]; omega
theorem citems_append (l m : List Itm) : citems (l ++ m) = citems l ++ citems m := by simp [citems]
theorem citems_drop (l : List Itm) : ∀ i : Nat, (citems l).drop (i * 5) = citems (l.drop i) := by
  induction l with
  | nil => intro i; simp [citems]
  | cons x l ih => intro i; cases i with
    | zero => simp
    | succ i => rw [show (i + 1) * 5 = i * 5 + 5 by omega]; exact ih i
theorem citems_row {h : H} {q : Nat} {l : List Itm} (hc : Cells h q 46 (citems l)) {i : Nat} {y : Itm} (hy : l[i]? = some y) : h.row q (i * 5) 5 = some y.cells := by
  obtain ⟨hi, rfl⟩ := List.getElem?_eq_some_iff.1 hy
  rw [hc.row (by rw [citems_length]; omega), citems_drop, List.drop_eq_getElem_cons hi]
  rfl
theorem Grown.items {h : H} {v : S} {n0 : Nat} {l : List Itm} (k : Grown h v n0 46 5 (citems l)) : ItemsAt h v l := by
  rcases k with ⟨h1, h2⟩ | ⟨q, n, rfl, h1, h2, h3, h4, h5, h6⟩
  · have := congrArg List.length h1
    rw [citems_length] at this
    exact .inl ⟨List.eq_nil_of_length_eq_zero (by simp at this; omega), .inl h2⟩
  · rw [citems_length] at h2
    obtain rfl : n = l.length := by omega
    exact .inr ⟨q, 0, l.length, false, rfl, h6, fun i y hy => by rw [Nat.zero_add]; exact citems_row h3 hy⟩
theorem Grown.pair {h : H} {v w : S} {n0 e s : Nat} {l : List S} (k : Grown h v n0 e s l) : ∀ x y, [V.one v, .one w] ≠ [.one (.s x), .one (.s y)] := fun x y he => by
  have h1 : v = .s x := by injection he with e1 _; injection e1
  rcases k with ⟨_, rfl⟩ | ⟨q, n, rfl, _⟩
  · cases h1
  · cases h1
/-! What Solve keeps. -/
theorem loop_length {prt : Int → List Int → List Int} {L : List Itm} {gap room : Int} {G : Bool} : ∀ (n : Nat) (ss : List Int) (fx : List Bool), (solveLoop prt L gap room G n ss fx).length = ss.length
  | 0, ss, fx => rfl
  | n + 1, ss, fx => by
    unfold solveLoop
    split
    · rfl
    · rw [loop_length n]; exact sets_length _ _
theorem solve_length {prt : Int → List Int → List Int} {L : List Itm} {gap room : Int} : (solveI prt L gap room).length = L.length := by
  unfold solveI
  rw [loop_length]; simp [plains]
/-- Each size is one within bounds. -/
def Bent (L : List Itm) (ss : List Int) : Prop := ∀ i s, ss[i]? = some s → ∃ z, s = clampAt L i z
theorem Bent.set {L : List Itm} {ss : List Int} (k : Bent L ss) {i : Nat} {z : Int} : Bent L (ss.set i (clampAt L i z)) := fun j s hs => by
  by_cases hj : i = j
  · subst hj
    rw [List.getElem?_set] at hs
    simp only [if_true] at hs
    split at hs
    · cases hs; exact ⟨z, rfl⟩
    · cases hs
  · rw [List.getElem?_set_ne hj] at hs; exact k j s hs
theorem bent_sets {L : List Itm} : ∀ (ps : List (Nat × Int)) (ss : List Int), (∀ p ∈ ps, ∃ z, p.2 = clampAt L p.1 z) → Bent L ss → Bent L (sets ss ps)
  | [], ss, _, k => k
  | p :: ps, ss, h, k => by
    obtain ⟨z, hz⟩ := h p (by simp)
    show Bent L (sets (ss.set p.1 p.2) ps)
    rw [hz]
    exact bent_sets ps _ (fun q hq => h q (by simp [hq])) k.set
theorem bent_loop {prt : Int → List Int → List Int} {L : List Itm} {gap room : Int} {G : Bool} : ∀ (n : Nat) (ss : List Int) (fx : List Bool), Bent L ss → Bent L (solveLoop prt L gap room G n ss fx)
  | 0, ss, fx, k => k
  | n + 1, ss, fx, k => by
    unfold solveLoop
    split
    · exact k
    · refine bent_loop n _ _ (bent_sets _ _ (fun p hp => ?_) k)
      obtain ⟨i, _, x, _, rfl⟩ := zip_mem hp
      exact ⟨x, rfl⟩
theorem bent_solve {prt : Int → List Int → List Int} {L : List Itm} {gap room : Int} : Bent L (solveI prt L gap room) := by
  refine bent_loop _ _ _ fun i s hs => ?_
  unfold plains at hs
  rw [List.getElem?_map] at hs
  cases hy : L[i]? with
  | none => rw [hy] at hs; cases hs
  | some y =>
    rw [hy] at hs
    cases hs
    refine ⟨y.base, ?_⟩
    unfold clampAt
    rw [List.getD_eq_getElem?_getD, hy]; rfl
theorem clamp_lo {z lo hi : Int} : lo ≤ clampI z lo hi := by unfold clampI; split <;> omega
theorem clamp_hi {z lo hi : Int} (h0 : 0 ≤ lo) (h : lo ≤ hi) : clampI z lo hi ≤ hi := by
  unfold clampI
  rw [if_neg (by omega)]; omega
/-- None grows or shrinks: plain sizes. -/
theorem opens_true : ∀ (l : List Bool) (k : Nat), (∀ b ∈ l, b = true) → opens k l = []
  | [], _, _ => rfl
  | b :: l, k, h => by
    have hb := h b (by simp)
    subst hb
    show opens (k + 1) l = []
    exact opens_true l _ fun b hb => h b (by simp [hb])
theorem solve_still {prt : Int → List Int → List Int} {L : List Itm} {gap room : Int} (h : ∀ x ∈ L, x.gr = 0 ∧ x.sh = 0) : solveI prt L gap room = plains L := by
  unfold solveI solveLoop
  rw [if_pos]
  refine opens_true _ _ fun b hb => ?_
  obtain ⟨y, hy, rfl⟩ := List.mem_map.1 hb
  obtain ⟨h1, h2⟩ := h y hy
  have : y.weight (grows0 L gap room) = 0 := by
    unfold Itm.weight
    rw [h1, h2]
    split
    · rfl
    · rw [Int.zero_mul]; decide
  simp [Itm.fixed0, this]
theorem still_ok {L : List Itm} {gap room : Int} (k : LineOk L gap room) : LineOk (L.map Itm.still) gap room := by
  refine ⟨fun x hx => ?_, by simpa using k.len, k.gap, k.room⟩
  obtain ⟨y, hy, rfl⟩ := List.mem_map.1 hx
  have := k.ok y hy
  exact ⟨this.base, this.mn, this.mx, ⟨by show (0 : Int) ≤ 0; omega, by show (0 : Int) ≤ 1048576; omega⟩, ⟨by show (0 : Int) ≤ 0; omega, by show (0 : Int) ≤ 1048576; omega⟩⟩
theorem still_solve {prt : Int → List Int → List Int} {L : List Itm} {gap room : Int} : solveI prt (L.map Itm.still) gap room = plains (L.map Itm.still) := solve_still fun x hx => by
  obtain ⟨y, _, rfl⟩ := List.mem_map.1 hx
  exact ⟨rfl, rfl⟩
end Go.Ai
