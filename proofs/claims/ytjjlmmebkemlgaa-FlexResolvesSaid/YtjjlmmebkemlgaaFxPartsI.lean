/-
The parts, as a function of the total and the weights; share.Parts comes to it.
-/
import Derived.Test.YtjjlmmebkemlgaaFxParts
import Derived.Test.YtjjlmmebkemlgaaFxShared
import Derived.Test.YtjjlmmebkemlgaaFxPure
set_option linter.unusedVariables false
set_option linter.unusedSimpArgs false
namespace Go.Ai
open Go.Proofs
open Classical in
noncomputable def prtI (t : Int) (ws : List Int) : List Int := if h : Lf.May t ws then Lf.partsL t ws (Classical.choose (Lf.parts_eq h)) else ws.map fun _ => 0
theorem prtI_of {t : Int} {ws : List Int} (h : Lf.May t ws) : ∃ Q, Lf.IsQ t ws Q ∧ prtI t ws = Lf.partsL t ws Q ∧ ∃ K, ∀ k, K ≤ k → Lf.share_Parts.f k t ws = some (prtI t ws) := by
  have hs := Classical.choose_spec (Lf.parts_eq h)
  refine ⟨_, hs.1, by unfold prtI; rw [dif_pos h], ?_⟩
  unfold prtI
  rw [dif_pos h]
  exact hs.2
theorem prtI_len (t : Int) (ws : List Int) : (prtI t ws).length = ws.length := by
  unfold prtI
  split
  · exact Lf.partsL_len _ _ _
  · simp
theorem prtI_sum {t : Int} {ws : List Int} (h : Lf.May t ws) : Lf.sumI (prtI t ws) = t := by
  obtain ⟨Q, q1, q2, _⟩ := prtI_of h
  rw [q2]; exact Lf.partsL_sum h q1
theorem le_sumI : ∀ (l : List Int), (∀ x ∈ l, 0 ≤ x) → 0 ≤ Lf.sumI l ∧ ∀ y ∈ l, y ≤ Lf.sumI l
  | [], _ => ⟨by simp [Lf.sumI], fun y hy => by cases hy⟩
  | x :: l, h => by
    have h1 := h x (by simp)
    obtain ⟨h2, h3⟩ := le_sumI l fun y hy => h y (by simp [hy])
    refine ⟨by simp only [Lf.sumI]; omega, fun y hy => ?_⟩
    simp only [Lf.sumI]
    rcases List.mem_cons.1 hy with rfl | hy
    · omega
    · have := h3 y hy; omega
theorem prtI_nn {t : Int} {ws : List Int} : ∀ y ∈ prtI t ws, 0 ≤ y := by
  by_cases h : Lf.May t ws
  · obtain ⟨Q, q1, q2, _⟩ := prtI_of h
    intro y hy
    rw [q2] at hy
    obtain ⟨i, hi⟩ := List.mem_iff_getElem?.1 hy
    obtain ⟨hi1, rfl⟩ := List.getElem?_eq_some_iff.1 hi
    have hl := Lf.partsL_len t ws Q
    have hr := Lf.partsL_rd h q1 (i := i) (by omega)
    have h0 := (h.q_bd (w := ws[i]'(by omega)) (List.getElem_mem _)).1
    have e : Lf.rd (Lf.partsL t ws Q) (i : Int) = (Lf.partsL t ws Q)[i] := by
      unfold Lf.rd
      rw [Int.toNat_natCast, List.getD_eq_getElem?_getD, List.getElem?_eq_getElem hi1]; rfl
    rw [← e, hr]
    rcases Lf.got_01 (Q.take (Lf.left t ws).toNat) i with g | g <;> rw [g] <;> omega
  · intro y hy
    unfold prtI at hy
    rw [dif_neg h] at hy
    obtain ⟨_, _, rfl⟩ := List.mem_map.1 hy
    omega
theorem may_of {t : Int} {ws : List Int} (h0 : 0 ≤ t) (h1 : t ≤ 1099511627776) (hne : ws ≠ []) (hlen : ws.length ≤ 256) (hw : ∀ x ∈ ws, 0 < x ∧ x ≤ 1048576) : Lf.May t ws := by
  refine ⟨h0, h1, hlen, fun x hx => by have := hw x hx; omega, ?_⟩
  cases ws with
  | nil => exact absurd rfl hne
  | cons w ws =>
    have := (le_sumI (w :: ws) fun x hx => by have := hw x hx; omega).2 w (by simp)
    have := hw w (by simp)
    omega
theorem parts_ok {spec : CallF} (hs : SpecSort spec) : PartsOk spec prtI where
  len := prtI_len
  bd := fun t ws h0 h1 hne hw y hy => by
    refine ⟨prtI_nn y hy, ?_⟩
    by_cases h : Lf.May t ws
    · have := (le_sumI _ (fun x hx => prtI_nn x hx)).2 y hy
      rw [prtI_sum h] at this
      omega
    · unfold prtI at hy
      rw [dif_neg h] at hy
      obtain ⟨_, _, rfl⟩ := List.mem_map.1 hy
      omega
  fn := fun h v t ws ok hi hne hlen h0 h1 hw => by
    obtain ⟨_, _, _, K, hK⟩ := prtI_of (may_of h0 h1 hne (by omega) hw)
    exact parts_fn hs ok hi hne hlen (hK K (Nat.le_refl _))
end Go.Ai
