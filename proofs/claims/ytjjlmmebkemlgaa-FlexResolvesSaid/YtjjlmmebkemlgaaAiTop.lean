/-
What the machine runs to, from no blocks at all: the program's call, whatever the world.
-/
import Derived.Test.YtjjlmmebkemlgaaAiDraw5
set_option linter.unusedVariables false
set_option linter.unusedSimpArgs false
namespace Go.Ai
open Go.RowKit
def Kn.none : Kn := { call := fun _ _ => Option.none, facts := [], mx := [] }
theorem Kn.none_ok (P : Program) (env : Nat → Int) : KnOk P env Kn.none := ⟨fun _ _ _ h => (by cases h), fun _ h => (by cases h), fun _ h => (by cases h), fun _ h => (by cases h)⟩
noncomputable def H.of (kn : Kn) : H := { tr := .e, next := 0, floor := 0, hid := [], frz := [], kn := kn }
noncomputable def H.none : H := H.of Kn.none
def Inj.none (env : Nat → Int) : Inj := { dom := fun _ => False, blk := fun _ => 0, sh := fun _ => 0, lim := fun _ => 0, caps := fun _ => #[], rest := fun _ _ => Option.none, env := env }
theorem H.none_get (b : Nat) : H.none.get b = Option.none := T.get_e b
theorem H.of_get (kn : Kn) (b : Nat) : (H.of kn).get b = Option.none := T.get_e b
theorem HR.of (P : Program) (w : World) (env : Nat → Int) {kn : Kn} (hk : KnOk P env kn) : HR P (Inj.none env) (H.of kn) w :=
  ⟨fun _ h => h.elim, fun b o h => absurd h (by rw [H.of_get]; simp), fun b b' o o' h => absurd h (by rw [H.of_get]; simp), fun _ _ => rfl, fun b o h => absurd h (by rw [H.of_get]; simp), fun _ _ => rfl, hk⟩
theorem Wr.of (c : Nat) (env : Nat → Int) (kn : Kn) : ¬ Wr (Inj.none env) (H.of kn) c := fun ⟨b, o, h, _⟩ => absurd h (by rw [H.of_get]; simp)
/-- Is no function with a body the one that tells how many routines there are? -/
def namesB (P : Program) : Bool := P.funcs.toList.all fun fn => !(fn.body.isSome && fn.name == "runtime.NumGoroutine")
theorem namesB_spec {P : Program} (h : namesB P = true) (f : FuncId) (fn : Func) (hf : P.funcs[f]? = some fn) (hb : fn.body.isSome = true) : (fn.name == "runtime.NumGoroutine") = false := by
  unfold namesB at h
  rw [List.all_eq_true] at h
  have := h fn (by rw [← Array.getElem?_toList] at hf; exact List.mem_of_getElem? hf)
  rw [hb] at this
  simpa using this
theorem run_calls {P : Program} (hm : P.follows .mixedOrders = true) (hN : namesB P = true) {n : Nat} {f : FuncId} {args : List V} {cargs : List Value} {v : V} {h' : H} {env : Nat → Int} {kn : Kn} (hk : KnOk P env kn) (ha : All2 (VR (Inj.none env)) args cargs) (hx : runF P n f args (H.of kn) = some (v, h')) (w : World) :
    Calls P f cargs.toArray w fun e w' => ∃ ι cv, ι.env = env ∧ e = .returned cv ∧ VR ι v cv ∧ Below w.heap.size w w' :=
  ((runF_sound hm (namesB_spec hN) n).sim f args (H.of kn) v h' hx (Inj.none env) w cargs (HR.of P w env hk) ha).mono fun e w' ⟨ι, cv, he, hv, s⟩ =>
    ⟨ι, cv, s.ext.env, he, hv, ⟨s.os, s.tape, s.output, s.size, fun c hc => s.fr c hc (Wr.of c env kn)⟩⟩
def isTrue : Option (V × H) → Bool
  | some (.one (.b true), _) => true
  | _ => false
theorem isTrue_spec {r : Option (V × H)} (h : isTrue r = true) : ∃ h', r = some (.one (.b true), h') := by
  unfold isTrue at h
  split at h
  · exact ⟨_, rfl⟩
  · cases h
theorem run_true' {P : Program} (hm : P.follows .mixedOrders = true) (hN : namesB P = true) (n : Nat) {f : FuncId} {args : List V} {cargs : List Value} {env : Nat → Int} {kn : Kn} (hk : KnOk P env kn) (ha : All2 (VR (Inj.none env)) args cargs) (hx : isTrue (runF P n f args (H.of kn)) = true) (w : World) :
    Calls P f cargs.toArray w fun e w' => e = .returned (.bool true) ∧ Below w.heap.size w w' := by
  obtain ⟨h', hx⟩ := isTrue_spec hx
  exact (run_calls hm hN hk ha hx w).mono fun e w' ⟨ι, cv, _, he, hv, hb⟩ => by
    have hv : cv = .bool true := hv
    subst hv
    exact ⟨he, hb⟩
theorem run_true {P : Program} (hm : P.follows .mixedOrders = true) (hN : namesB P = true) (n : Nat) {f : FuncId} {args : List V} {cargs : List Value} {env : Nat → Int} (ha : All2 (VR (Inj.none env)) args cargs) (hx : isTrue (runF P n f args H.none) = true) (w : World) :
    Calls P f cargs.toArray w fun e w' => e = .returned (.bool true) ∧ Below w.heap.size w w' := run_true' hm hN n (Kn.none_ok P env) ha hx w

/-! ### Rows that are there, to be read -/
noncomputable def H.rows (kn : Kn) (rows : List (List S)) : H := { tr := T.setMany .e 0 (rows.map fun xs => O.ro (T.setMany .e 0 xs) xs.length), next := rows.length, floor := 0, hid := [], frz := [], kn := kn }
def Inj.rows (env : Nat → Int) (n : Nat) (blk sh : Nat → Nat) : Inj := { dom := fun b => b < n, blk := blk, sh := sh, lim := fun _ => 0, caps := fun _ => #[], rest := fun _ _ => Option.none, env := env }
theorem H.rows_get {kn : Kn} {rows : List (List S)} {b : Nat} {o : O} (h : (H.rows kn rows).get b = some o) : ∃ xs, rows[b]? = some xs ∧ o = .ro (T.setMany .e 0 xs) xs.length := by
  have h : (T.setMany .e 0 (rows.map fun xs => O.ro (T.setMany .e 0 xs) xs.length)).get b = some o := h
  rw [T.get_row, List.getElem?_map] at h
  cases hr : rows[b]? with
  | none => rw [hr] at h; cases h
  | some xs => rw [hr] at h; simp only [Option.map_some, Option.some.injEq] at h; exact ⟨xs, rfl, h.symm⟩
/-- What is asked of rows that are there. -/
def RowsOk (ι : Inj) (w : World) (rows : List (List S)) : Prop := ∀ b xs, rows[b]? = some xs → ι.blk b < w.heap.size ∧ ∀ j x, xs[j]? = some x → ∃ v, w.cell? ⟨ι.blk b, ι.sh b + j, none⟩ = some v ∧ SR ι x v
theorem HR.rows {P : Program} {w : World} {env : Nat → Int} {kn : Kn} {rows : List (List S)} {blk sh : Nat → Nat} (hk : KnOk P env kn) (hr : RowsOk (Inj.rows env rows.length blk sh) w rows) : HR P (Inj.rows env rows.length blk sh) (H.rows kn rows) w := by
  refine ⟨fun _ h => h, fun b o h => ?_, fun b b' o o' h h' hre => ?_, fun _ _ => rfl, fun b o h _ => ?_, fun _ _ => rfl, hk⟩
  · obtain ⟨xs, hx, rfl⟩ := H.rows_get h
    refine ⟨(List.getElem?_eq_some_iff.1 hx).1, fun j hj => ?_⟩
    have hj' : xs[j]? = some xs[j] := List.getElem?_eq_getElem hj
    obtain ⟨v, h1, h2⟩ := (hr b xs hx).2 j _ hj'
    exact ⟨xs[j], v, by rw [T.get_row, hj'], h1, h2⟩
  · obtain ⟨xs, hx, rfl⟩ := H.rows_get h
    simp [O.real] at hre
  · obtain ⟨xs, hx, rfl⟩ := H.rows_get h
    exact (hr b xs hx).1
theorem Wr.rows {env : Nat → Int} {kn : Kn} {rows : List (List S)} {blk sh : Nat → Nat} (c : Nat) : ¬ Wr (Inj.rows env rows.length blk sh) (H.rows kn rows) c := fun ⟨b, o, h, hre, _⟩ => by
  obtain ⟨xs, hx, rfl⟩ := H.rows_get h
  simp [O.real] at hre
theorem run_rows {P : Program} (hm : P.follows .mixedOrders = true) (hN : namesB P = true) (n : Nat) {f : FuncId} {args : List V} {cargs : List Value} {env : Nat → Int} {kn : Kn} (hk : KnOk P env kn) {rows : List (List S)} {blk sh : Nat → Nat} (w : World) (hr : RowsOk (Inj.rows env rows.length blk sh) w rows)
    (ha : All2 (VR (Inj.rows env rows.length blk sh)) args cargs) (hx : isTrue (runF P n f args (H.rows kn rows)) = true) :
    Calls P f cargs.toArray w fun e w' => e = .returned (.bool true) ∧ Below w.heap.size w w' := by
  obtain ⟨h', hx⟩ := isTrue_spec hx
  exact ((runF_sound hm (namesB_spec hN) n).sim f args _ _ h' hx _ w cargs (HR.rows hk hr) ha).mono fun e w' ⟨ι, cv, he, hv, s⟩ => by
    have hv : cv = .bool true := hv
    subst hv
    exact ⟨he, ⟨s.os, s.tape, s.output, s.size, fun c hc => s.fr c hc (Wr.rows c)⟩⟩

/-! ### What is known ahead: numbers brought within bounds -/
def lookW (v n : Nat) : List (Nat × Nat × Lin) → Option V
  | [] => none
  | (v', n', e) :: r => cond (Nat.beq v v' && Nat.beq n n') (some (mkY .i64 e)) (lookW v n r)
def withinK (fw : Nat) (tab : List (Nat × Nat × Lin)) (f : Nat) : List V → Option V
  | [.one (.yi .i64 e), .one (.i .i64 (.ofNat n))] => match e.ts with
    | [t] => cond (Nat.beq f fw && eqI t.k 1 && eqI e.c 0) (lookW t.v n tab) none
    | _ => none
  | _ => none
/-- A raw number: unknown v. -/
def raw (v : Nat) : S := .yi .i64 { c := 0, ts := [{ k := 1, v := v, lo := -9223372036854775808, hi := 9223372036854775807 }] }
theorem raw_rel {ι : Inj} {v : Nat} {x : Int} (hx : -9223372036854775808 ≤ x ∧ x ≤ 9223372036854775807) (he : ι.env v = x) : SR ι (raw v) (.int .i64 x) := by
  refine ⟨fun t ht => ?_, ?_⟩
  · simp only [List.mem_cons, List.not_mem_nil, or_false] at ht
    subst ht; rw [he]; exact hx
  · show _ = Value.int .i64 (IntKind.i64.wrap (0 + (1 * ι.env v + 0)))
    rw [he, show (0 : Int) + (1 * x + 0) = x by omega, wrap_id hx.1 (by omega)]
/-- Within, as the program tells it: what is left of the number as unsigned. -/
def WithinOk (P : Program) (fw : Nat) (n : Nat) : Prop := HasBody P fw ∧ ∀ (x : Int), -9223372036854775808 ≤ x ∧ x ≤ 9223372036854775807 → ∃ m : Int, 0 ≤ m ∧ m < n ∧ ∀ w, Calls P fw #[.int .i64 x, .int .i64 n] w fun e w' => e = .returned (.int .i64 m) ∧ Below w.heap.size w w'
/-- The number that Within tells. -/
def IsWithin (P : Program) (fw : Nat) (x : Int) (n : Nat) (m : Int) : Prop := ∀ w, Calls P fw #[.int .i64 x, .int .i64 n] w fun e w' => e = .returned (.int .i64 m) ∧ Below w.heap.size w w'
theorem lookW_mem {v n : Nat} {y : V} : ∀ {tab : List (Nat × Nat × Lin)}, lookW v n tab = some y → ∃ e, (v, n, e) ∈ tab ∧ y = mkY .i64 e
  | [], h => by cases h
  | (v', n', e) :: r, h => by
    unfold lookW at h
    simp only [Bool.cond_eq_ite] at h
    split at h
    · rename_i hg
      simp only [Bool.and_eq_true] at hg
      cases h
      have h1 := Nat.eq_of_beq_eq_true hg.1
      have h2 := Nat.eq_of_beq_eq_true hg.2
      subst h1 h2
      exact ⟨e, by simp, rfl⟩
    · obtain ⟨e', h1, h2⟩ := lookW_mem h
      exact ⟨e', by simp [h1], h2⟩
theorem within_ok {P : Program} {env : Nat → Int} {fw : Nat} (hb : HasBody P fw) {tab : List (Nat × Nat × Lin)} (hr : ∀ v n e, (v, n, e) ∈ tab → e.ok env ∧ (0 ≤ e.eval env ∧ e.eval env ≤ 9223372036854775807) ∧ IsWithin P fw (IntKind.i64.wrap (env v)) n (e.eval env))
    {facts : List Lin} (hf : ∀ f ∈ facts, f.ok env ∧ 0 ≤ f.eval env) {mx : List (Lin × Lin × Lin)} (hm : ∀ p ∈ mx, p.2.2.ok env ∧ p.2.2.eval env = max (p.1.eval env) (p.2.1.eval env)) : KnOk P env { call := withinK fw tab, facts := facts, mx := mx } := by
  refine ⟨fun f args v h => ?_, hf, hm, fun _ h => (by cases h)⟩
  replace h : withinK fw tab f args = some v := h
  unfold withinK at h
  split at h
  · rename_i e n
    split at h
    · rename_i t ht
      simp only [Bool.cond_eq_ite] at h
      split at h
      · rename_i hg
        simp only [Bool.and_eq_true, eqI_eq] at hg
        have hfw : f = fw := Nat.eq_of_beq_eq_true hg.1.1
        have hk : t.k = 1 := by simpa using hg.1.2
        have hc : e.c = 0 := by simpa using hg.2
        subst hfw
        obtain ⟨r, hmem, rfl⟩ := lookW_mem h
        obtain ⟨h1, h2, h3⟩ := hr _ _ _ hmem
        refine ⟨hb, fun ι w cargs he hall => ?_⟩
        cases hall with
        | cons ha hall => cases hall with
          | cons hb' hall =>
            cases hall
            obtain ⟨_, ha⟩ := ha
            have hb' : _ = Value.int .i64 n := hb'
            subst ha hb'
            have he' : e.eval ι.env = env t.v := by
              unfold Lin.eval
              rw [ht, hc, he]
              simp [evalTs, hk]
            rw [he']
            refine (h3 w).mono fun e' w' ⟨q1, q2⟩ => ⟨_, q1, ?_, q2⟩
            have := mkY_rel (ι := ι) (k := .i64) (e := r) (by rw [he]; exact h1)
            rw [he, wrap_id (by omega) (by omega)] at this
            exact this
      · cases h
    · cases h
  · cases h

/-! ### A number that came in, as a sum of unknowns -/
/-- n times an unknown (number v), an unknown s-fold (number v + 1), and r. -/
def parm (n : Int) (v : Nat) (lo hi s uhi r : Int) : V := .one (.yi .i64 { c := r, ts := [{ k := n, v := v, lo := lo, hi := hi }, { k := s, v := v + 1, lo := 0, hi := uhi }] })
theorem parm_rel {env : Nat → Int} {n : Int} {v : Nat} {lo hi s uhi r x : Int} (h1 : lo ≤ env v ∧ env v ≤ hi) (h2 : 0 ≤ env (v + 1) ∧ env (v + 1) ≤ uhi) (hx : x = IntKind.i64.wrap (n * env v + s * env (v + 1) + r)) : VR (Inj.none env) (parm n v lo hi s uhi r) (.int .i64 x) := by
  refine ⟨?_, ?_⟩
  · intro t ht
    simp only [List.mem_cons, List.not_mem_nil, or_false] at ht
    rcases ht with rfl | rfl
    · exact h1
    · exact h2
  · rw [hx]
    show _ = Value.int .i64 (IntKind.i64.wrap (r + (n * env v + (s * env (v + 1) + 0))))
    rw [show r + (n * env v + (s * env (v + 1) + 0)) = n * env v + s * env (v + 1) + r by omega]
/-- By n: what is left of it, as unsigned, and how often n goes. -/
theorem parts_of {x : Int} (h : -9223372036854775808 ≤ x ∧ x ≤ 9223372036854775807) {n : Int} (hn : 0 < n) : ∃ a m : Int, 0 ≤ a ∧ 0 ≤ m ∧ m < n ∧ (a ≤ 18446744073709551615 / n - 1 ∨ (a = 18446744073709551615 / n ∧ m ≤ 18446744073709551615 % n)) ∧ x = IntKind.i64.wrap (n * a + m) := by
  have hu : ∃ u : Int, 0 ≤ u ∧ u ≤ 18446744073709551615 ∧ x = IntKind.i64.wrap u := by
    rcases Int.lt_or_le x 0 with hx | hx
    · refine ⟨x + 18446744073709551616, by omega, by omega, ?_⟩
      rw [show x + 18446744073709551616 = x + 1 * 18446744073709551616 by omega, wrap_shift rfl, wrap_id (by omega) (by omega)]
    · exact ⟨x, hx, by omega, (wrap_id (by omega) (by omega)).symm⟩
  obtain ⟨u, h0, h1, h2⟩ := hu
  have e := Int.mul_ediv_add_emod u n
  have e' := Int.mul_ediv_add_emod 18446744073709551615 n
  refine ⟨u / n, u % n, Int.ediv_nonneg h0 (by omega), Int.emod_nonneg _ (by omega), Int.emod_lt_of_pos _ hn, ?_, by rw [e]; exact h2⟩
  have hle : u / n ≤ 18446744073709551615 / n := Int.ediv_le_ediv hn h1
  rcases Int.lt_or_le (u / n) (18446744073709551615 / n) with q | q
  · exact .inl (by omega)
  · have q : u / n = 18446744073709551615 / n := by omega
    refine .inr ⟨q, ?_⟩
    rw [q] at e
    omega
end Go.Ai
