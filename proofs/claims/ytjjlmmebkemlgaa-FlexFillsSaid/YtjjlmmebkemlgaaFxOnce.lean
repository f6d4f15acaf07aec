/-
Where no bound bends any: one round.
-/
import Derived.Test.YtjjlmmebkemlgaaFxAsks
set_option linter.unusedVariables false
set_option linter.unusedSimpArgs false
namespace Go.Ai
open Go.Proofs
theorem opens_false (n : Nat) : ∀ k, opens k (List.replicate n false) = (List.range n).map (k + ·) := by
  induction n with
  | zero => intro k; rfl
  | succ n ih =>
    intro k
    rw [List.replicate_succ, List.range_succ_eq_map, List.map_cons, List.map_map]
    show k :: opens (k + 1) (List.replicate n false) = _
    rw [ih]
    refine congrArg (k :: ·) (List.map_congr_left fun i _ => ?_)
    simp only [Function.comp]
    omega
theorem opens_range (n : Nat) : opens 0 (List.replicate n false) = List.range n := by
  rw [opens_false]; simp
theorem zipWith_range {α β : Type} {f : Nat → α → β} {xs : List α} {k : Nat} : (List.zipWith f (List.range xs.length) xs)[k]? = (xs[k]?).map (f k) := by
  rw [List.getElem?_zipWith]
  by_cases hk : k < xs.length
  · rw [List.getElem?_range hk, List.getElem?_eq_getElem hk]; rfl
  · rw [List.getElem?_eq_none (by simp; omega), List.getElem?_eq_none (by omega)]; rfl
theorem sets_range {α β : Type} {f : Nat → β → Nat × α} (hf : ∀ i x, (f i x).1 = i) {ss : List α} {xs : List β} (hl : ss.length = xs.length) {ys : List α} (hy : ys.length = xs.length) (he : ∀ i x, xs[i]? = some x → ys[i]? = some (f i x).2) : sets ss (List.zipWith f (List.range xs.length) xs) = ys := by
  have hm : (List.zipWith f (List.range xs.length) xs).map (·.1) = List.range xs.length := by
    refine List.ext_getElem? fun k => ?_
    rw [List.getElem?_map, zipWith_range]
    by_cases hk : k < xs.length
    · rw [List.getElem?_range hk, List.getElem?_eq_getElem hk]; simp [hf]
    · rw [List.getElem?_eq_none (by omega), List.getElem?_eq_none (by simp; omega)]; rfl
  refine List.ext_getElem? fun i => ?_
  by_cases hi : i < xs.length
  · have hx := List.getElem?_eq_getElem hi
    have h1 : (List.zipWith f (List.range xs.length) xs)[i]? = some (i, (f i xs[i]).2) := by
      rw [zipWith_range, hx]
      show some (f i xs[i]) = _
      exact congrArg some (Prod.ext (hf _ _) rfl)
    rw [sets_at _ ss i i _ h1 (by rw [hm]; exact List.nodup_range) (by omega), he i _ hx]
  · rw [List.getElem?_eq_none (by rw [sets_length]; omega), List.getElem?_eq_none (by omega)]
theorem sumL_zero : ∀ (l : List Int), (∀ x ∈ l, x = 0) → sumL l = 0
  | [], _ => rfl
  | x :: l, h => by
    show x + sumL l = 0
    rw [h x (by simp), sumL_zero l fun y hy => h y (by simp [hy])]; rfl
/-- One round, and all is fixed. -/
theorem once {prt : Int → List Int → List Int} {L : List Itm} {gap room : Int} {X : List Int} (hf : L.map (Itm.fixed0 (grows0 L gap room)) = List.replicate L.length false)
    (hX : sharedI prt L gap room (grows0 L gap room) (plains L) (List.replicate L.length false) (List.range L.length) = X) (hl : X.length = L.length) (hne : L ≠ []) (hb : ∀ i x, X[i]? = some x → clampAt L i x = x) : solveI prt L gap room = X := by
  have hpl : (plains L).length = X.length := by simp [plains, hl]
  have h1 : roundS L (List.range L.length) X (plains L) = X := by
    unfold roundS
    rw [← hl]
    exact sets_range (fun _ _ => rfl) hpl rfl fun i x hx => by show _ = some (clampAt L i x); rw [hb i x hx]; exact hx
  have h2 : bentI L (List.range L.length) X = 0 := by
    unfold bentI
    refine sumL_zero _ fun z hz => ?_
    obtain ⟨k, hk⟩ := List.mem_iff_getElem?.1 hz
    rw [← hl, zipWith_range] at hk
    cases hx : X[k]? with
    | none => rw [hx] at hk; cases hk
    | some x =>
      rw [hx] at hk
      cases hk
      unfold byI
      rw [hb k x hx]; omega
  have h3 : roundF L (List.range L.length) X (List.replicate L.length false) = List.replicate L.length true := by
    unfold roundF
    rw [h2, ← hl]
    refine sets_range (fun _ _ => rfl) (by simp) (by simp) fun i x hx => ?_
    have hi := (List.getElem?_eq_some_iff.1 hx).1
    rw [List.getElem?_replicate, if_pos hi]
    rfl
  have hpos : 0 < L.length := List.length_pos_iff.2 hne
  unfold solveI
  rw [hf]
  unfold solveLoop
  rw [opens_range, if_neg (by intro e; have := congrArg List.length e; rw [List.length_range, List.length_nil] at this; omega), hX, h1, h3]
  obtain ⟨n, hn⟩ : ∃ n, L.length = n + 1 := ⟨L.length - 1, by omega⟩
  rw [hn]
  unfold solveLoop
  rw [if_pos (opens_true _ _ fun b hb => List.eq_of_mem_replicate hb)]
end Go.Ai
