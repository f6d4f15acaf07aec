/- The pure statement of FixedClamps: any number between any two, or above one alone, is the page's, or refused. -/
import Derived.Test.YtdilliddflnbnaaTellFixedClamps
import Derived.Test.YtdilliddflnbnaaFixedA
namespace Go.Proofs.Ytdilliddflnbnaa.TFixedClamps
open Go.RowKit Go.Proofs.YtdilliddflnbnaaW.PrintWords Go.Proofs.YtdilliddflnbnaaW.PrintMore Go.Proofs.Ytdilliddflnbnaa.PA

theorem may_eq (a b c : Int) : arrasref1_MayClamp.f a b c = some (co a && co b && co c) := by
  unfold arrasref1_MayClamp.f
  simp only [coord_eq, Option.bind_some]
  cases co a <;> cases co b <;> simp
  cases h : co c with
  | true => simp
  | false =>
    simp
    intro e
    rw [e] at h
    simp [co] at h
theorem within_eq2 (a b c : Int) : fixed_Within.f a b c = arrasref1_Clamp.f a b c := by
  unfold fixed_Within.f arrasref1_Clamp.f mx mn
  by_cases h : c = -1
  · rw [if_pos h, if_pos h]
    congr 1
    split <;> split <;> omega
  · rw [if_neg h, if_neg h]
    congr 1
    split <;> split <;> split <;> omega
theorem clamp_some (a b c : Int) : ∃ r, arrasref1_Clamp.f a b c = some r := by
  unfold arrasref1_Clamp.f
  split <;> exact ⟨_, rfl⟩

section
variable (x : List Int) (hx : x.length ≤ 22)
include hx
theorem l2 (i j : Nat) (hi : i < x.length) (hj : j < x.length) (K : Nat) (hn : ∀ k, K ≤ k → arraslaw1_FixedClamps.l1 k x (i : Int) ((j : Int) + 1) = some true) : ∀ (d q k : Nat), x.length - q = d → q ≤ x.length → K + d + 5 ≤ k → arraslaw1_FixedClamps.l2 k x (i : Int) (j : Int) (q : Int) = some true := by
  intro d
  induction d with
  | zero =>
    intro q k hd hq hk
    obtain ⟨k, rfl⟩ : ∃ m, k = m + 1 := ⟨k - 1, by omega⟩
    simp only [arraslaw1_FixedClamps.l2]
    rw [if_neg (by omega), w64 (by omega) (by omega)]
    exact hn k (by omega)
  | succ d ih =>
    intro q k hd hq hk
    obtain ⟨k, rfl⟩ : ∃ m, k = m + 1 := ⟨k - 1, by omega⟩
    have hlt : q < x.length := by omega
    have hnext := ih (q + 1) k (by omega) (by omega) (by omega)
    simp only [arraslaw1_FixedClamps.l2]
    rw [if_pos (by omega), if_pos (by omega), if_pos (by omega), if_pos (by omega), if_pos (by omega), if_pos (by omega), may_eq]
    simp only [Option.bind_some, fixed_Clamp.f, is_eq]
    rw [w_nat1 (by omega)]
    obtain ⟨r, hr⟩ := clamp_some (rd x i) (rd x j) (rd x q)
    cases h1 : co (rd x i) with
    | false =>
      simp only [Bool.false_and, Bool.false_eq_true, if_false, Option.bind_some, told_no, if_true]
      exact hnext
    | true =>
      cases h2 : co (rd x j) with
      | false =>
        simp only [Bool.false_and, Bool.and_false, Bool.false_eq_true, if_false, Option.bind_some, told_no, if_true]
        exact hnext
      | true =>
        cases h3 : co (rd x q) with
        | false =>
          simp only [Bool.and_false, Bool.and_self, Bool.false_eq_true, if_false, Option.bind_some, told_no, if_true]
          exact hnext
        | true =>
          simp only [Bool.and_self, if_true, Option.bind_some, within_eq2, hr, told_ok]
          exact hnext
theorem l1 (i : Nat) (hi : i < x.length) (K : Nat) (hn : ∀ k, K ≤ k → arraslaw1_FixedClamps.l0 k x ((i : Int) + 1) = some true) : ∀ (d j : Nat), x.length - j = d → j ≤ x.length → ∃ K', ∀ k, K' ≤ k → arraslaw1_FixedClamps.l1 k x (i : Int) (j : Int) = some true := by
  intro d
  induction d with
  | zero =>
    refine fun q hd hq => ⟨K + 1, fun k hk => ?_⟩
    obtain ⟨k, rfl⟩ : ∃ m, k = m + 1 := ⟨k - 1, by omega⟩
    simp only [arraslaw1_FixedClamps.l1]
    rw [if_neg (by omega), w64 (by omega) (by omega)]
    exact hn k (by omega)
  | succ d ih =>
    intro j hd hq
    obtain ⟨K', hK'⟩ := ih (j + 1) (by omega) (by omega)
    rw [Int.natCast_add, Int.natCast_one] at hK'
    refine ⟨K' + x.length + 10, fun k hk => ?_⟩
    obtain ⟨k, rfl⟩ : ∃ m, k = m + 1 := ⟨k - 1, by omega⟩
    simp only [arraslaw1_FixedClamps.l1]
    rw [if_pos (by omega)]
    exact l2 x hx i j hi (by omega) K' hK' x.length 0 k (by omega) (by omega) (by omega)
theorem l0 : ∀ (d i : Nat), x.length - i = d → i ≤ x.length → ∃ K', ∀ k, K' ≤ k → arraslaw1_FixedClamps.l0 k x (i : Int) = some true := by
  intro d
  induction d with
  | zero =>
    refine fun q hd hq => ⟨61, fun k hk => ?_⟩
    obtain ⟨k, rfl⟩ : ∃ m, k = m + 1 := ⟨k - 1, by omega⟩
    simp only [arraslaw1_FixedClamps.l0]
    rw [if_neg (by omega), fwakes k (by omega)]
    rfl
  | succ d ih =>
    intro j hd hq
    obtain ⟨K, hK⟩ := ih (j + 1) (by omega) (by omega)
    rw [Int.natCast_add, Int.natCast_one] at hK
    obtain ⟨K', hK'⟩ := l1 x hx j (by omega) K hK x.length 0 (by omega) (by omega)
    refine ⟨K' + 1, fun k hk => ?_⟩
    obtain ⟨k, rfl⟩ : ∃ m, k = m + 1 := ⟨k - 1, by omega⟩
    simp only [arraslaw1_FixedClamps.l0]
    rw [if_pos (by omega)]
    exact hK' k (by omega)
end

/-- The law, over numbers and lists. -/
theorem pure : Pure := fun l _ => by
  have hl := allS_len l
  have ha : ∀ k, 13 ≤ k → arraslaw1_all.f k l = some (allS l) := fun k hk => all_eq l hk
  generalize allS l = x at hl ha
  obtain ⟨K, hK⟩ := l0 x hl x.length 0 (by omega) (by omega)
  refine ⟨K + 13, ?_⟩
  simp only [arraslaw1_FixedClamps.f]
  rw [ha _ (by omega)]
  exact hK _ (by omega)
end Go.Proofs.Ytdilliddflnbnaa.TFixedClamps
