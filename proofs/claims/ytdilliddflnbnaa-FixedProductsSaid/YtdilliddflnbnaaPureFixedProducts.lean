/- The pure statement of FixedProducts: products over any number, and by units, are the page's, or refused. -/
import Derived.Test.YtdilliddflnbnaaTellFixedProducts
import Derived.Test.YtdilliddflnbnaaRefMulA
namespace Go.Proofs.Ytdilliddflnbnaa.TFixedProducts
open Go.RowKit Go.Proofs.YtdilliddflnbnaaW.PrintWords Go.Proofs.YtdilliddflnbnaaW.PrintMore Go.Proofs.Ytdilliddflnbnaa.PA

section
variable (l x : List Int) (hx : x.length ≤ 22)
theorem j3 (i j q : Nat) (hi : i < x.length) (hj : j < x.length) (hq : q < x.length) (K : Nat) (hn : ∀ k, K ≤ k → arraslaw1_FixedProducts.l2 k l x (i : Int) (j : Int) (wrap64 (wrap64 ((q : Int) + 1) + (l.length : Int) % 3)) = some true) (may : Bool)
    (hm : may = (co (rd x i) && co (rd x j) && co (rd x q) && decide (rd x q > 0))) {k : Nat} (hk : K + 80 ≤ k) : arraslaw1_FixedProducts.j3 k l x (i : Int) (j : Int) (q : Int) may = some true := by
  obtain ⟨k, rfl⟩ : ∃ m, k = m + 1 := ⟨k - 1, by omega⟩
  simp only [arraslaw1_FixedProducts.j3]
  rw [if_pos (by omega), if_pos (by omega), if_pos (by omega), if_pos (by omega), if_pos (by omega), if_pos (by omega)]
  have hnext := hn k (by omega)
  cases may with
  | true =>
    have h := hm.symm
    simp only [Bool.and_eq_true, decide_eq_true_eq] at h
    obtain ⟨⟨⟨h1, h2⟩, h3⟩, h4⟩ := h
    rw [mulDiv_eq h1 h2 h3 (by omega) (by omega)]
    simp only [Option.bind_some, if_true]
    rw [refMul_eq h1 h2 h3 (by omega) (by omega)]
    simp only [Option.bind_some, told_ok, if_true]
    exact hnext
  | false =>
    have h : ¬ (co (rd x i) = true ∧ co (rd x j) = true ∧ co (rd x q) = true ∧ 1 ≤ rd x q) := by
      rintro ⟨h1, h2, h3, h4⟩
      rw [h1, h2, h3] at hm
      have : decide (rd x q > 0) = true := decide_eq_true (by omega)
      rw [this] at hm
      cases hm
    rw [mulDiv_no h (by omega)]
    simp only [Option.bind_some, Bool.false_eq_true, if_false, told_no, if_true]
    exact hnext
include hx
theorem j4 (i j : Nat) (hi : i < x.length) (hj : j < x.length) (K : Nat) (hn : ∀ k, K ≤ k → arraslaw1_FixedProducts.l1 k l x (i : Int) ((j : Int) + 1) = some true) (may : Bool) (hm : may = (co (rd x i) && co (rd x j))) {k : Nat} (hk : K + 80 ≤ k) : arraslaw1_FixedProducts.j4 k l x (i : Int) (j : Int) may = some true := by
  obtain ⟨k, rfl⟩ : ∃ m, k = m + 1 := ⟨k - 1, by omega⟩
  have hw : wrap64 ((j : Int) + 1) = (j : Int) + 1 := w64 (by omega) (by omega)
  have c64 : co 64 = true := by decide
  simp only [arraslaw1_FixedProducts.j4, fixed_Mul.f]
  rw [if_pos (by omega), if_pos (by omega), if_pos (by omega), if_pos (by omega), hw]
  have hnext := hn k (by omega)
  cases may with
  | true =>
    have h := hm.symm
    simp only [Bool.and_eq_true] at h
    obtain ⟨h1, h2⟩ := h
    rw [mulDiv_eq h1 h2 c64 (by omega) (by omega)]
    simp only [Option.bind_some, if_true]
    rw [refMul_eq h1 h2 c64 (by omega) (by omega)]
    simp only [Option.bind_some, told_ok, if_true]
    exact hnext
  | false =>
    have h : ¬ (co (rd x i) = true ∧ co (rd x j) = true ∧ co 64 = true ∧ (1 : Int) ≤ 64) := by
      rintro ⟨h1, h2, _⟩
      rw [h1, h2] at hm
      cases hm
    rw [mulDiv_no h (by omega)]
    simp only [Option.bind_some, Bool.false_eq_true, if_false, told_no, if_true]
    exact hnext
theorem l2 (i j : Nat) (hi : i < x.length) (hj : j < x.length) (K : Nat) (hn : ∀ k, K ≤ k → arraslaw1_FixedProducts.l1 k l x (i : Int) ((j : Int) + 1) = some true) : ∀ (d q : Nat), x.length - q ≤ d → ∃ K', ∀ k, K' ≤ k → arraslaw1_FixedProducts.l2 k l x (i : Int) (j : Int) (q : Int) = some true := by
  have fin : ∀ q : Nat, x.length ≤ q → ∃ K', ∀ k, K' ≤ k → arraslaw1_FixedProducts.l2 k l x (i : Int) (j : Int) (q : Int) = some true := by
    refine fun q hq => ⟨K + 100, fun k hk => ?_⟩
    obtain ⟨k, rfl⟩ : ∃ m, k = m + 1 := ⟨k - 1, by omega⟩
    simp only [arraslaw1_FixedProducts.l2, coord_eq, Option.bind_some]
    rw [if_neg (by omega), if_pos (by omega), if_pos (by omega)]
    by_cases h1 : co (rd x i) = true
    · rw [if_pos h1, if_pos (by omega), if_pos (by omega)]
      exact j4 l x hx i j hi hj K hn _ (by rw [h1]; simp) (by omega)
    · rw [if_neg h1]
      exact j4 l x hx i j hi hj K hn _ (by simp [h1]) (by omega)
  intro d
  induction d with
  | zero => exact fun q hd => fin q (by omega)
  | succ d ih =>
    intro q hd
    by_cases hq : q < x.length
    · have hw : ∃ q' : Nat, q < q' ∧ wrap64 (wrap64 ((q : Int) + 1) + (l.length : Int) % 3) = (q' : Int) := by
        refine ⟨q + 1 + l.length % 3, by omega, ?_⟩
        rw [w64 (n := (q : Int) + 1) (by omega) (by omega), w64 (by omega) (by omega)]
        omega
      obtain ⟨q', hlt, hq'⟩ := hw
      obtain ⟨K', hK'⟩ := ih q' (by omega)
      rw [← hq'] at hK'
      refine ⟨K' + 100, fun k hk => ?_⟩
      obtain ⟨k, rfl⟩ : ∃ m, k = m + 1 := ⟨k - 1, by omega⟩
      replace hq' := Aside0.mk hq'
      simp only [arraslaw1_FixedProducts.l2, coord_eq, Option.bind_some]
      rw [if_pos (by omega), if_pos (by omega), if_pos (by omega)]
      by_cases h1 : co (rd x i) = true
      · rw [if_pos h1, if_pos (by omega), if_pos (by omega)]
        by_cases h2 : co (rd x j) = true
        · rw [if_pos h2, if_pos (by omega)]
          by_cases h3 : co (rd x q) = true
          · rw [if_pos h3]
            exact j3 l x i j q hi hj hq K' hK' _ (by rw [h1, h2, h3]; simp) (by omega)
          · rw [if_neg h3]
            exact j3 l x i j q hi hj hq K' hK' _ (by simp [h3]) (by omega)
        · rw [if_neg h2]
          exact j3 l x i j q hi hj hq K' hK' _ (by simp [h2]) (by omega)
      · rw [if_neg h1]
        exact j3 l x i j q hi hj hq K' hK' _ (by simp [h1]) (by omega)
    · exact fin q (by omega)
theorem l1 (i : Nat) (hi : i < x.length) (K : Nat) (hn : ∀ k, K ≤ k → arraslaw1_FixedProducts.l0 k l x ((i : Int) + 1) = some true) : ∀ (d j : Nat), x.length - j = d → j ≤ x.length → ∃ K', ∀ k, K' ≤ k → arraslaw1_FixedProducts.l1 k l x (i : Int) (j : Int) = some true := by
  intro d
  induction d with
  | zero =>
    refine fun q hd hq => ⟨K + 1, fun k hk => ?_⟩
    obtain ⟨k, rfl⟩ : ∃ m, k = m + 1 := ⟨k - 1, by omega⟩
    simp only [arraslaw1_FixedProducts.l1]
    rw [if_neg (by omega), w64 (by omega) (by omega)]
    exact hn k (by omega)
  | succ d ih =>
    intro j hd hq
    obtain ⟨K', hK'⟩ := ih (j + 1) (by omega) (by omega)
    rw [Int.natCast_add, Int.natCast_one] at hK'
    obtain ⟨K2, hK2⟩ := l2 l x hx i j hi (by omega) K' hK' x.length 0 (by omega)
    refine ⟨K2 + 1, fun k hk => ?_⟩
    obtain ⟨k, rfl⟩ : ∃ m, k = m + 1 := ⟨k - 1, by omega⟩
    simp only [arraslaw1_FixedProducts.l1]
    rw [if_pos (by omega)]
    exact hK2 k (by omega)
theorem l0 : ∀ (d i : Nat), x.length - i = d → i ≤ x.length → ∃ K', ∀ k, K' ≤ k → arraslaw1_FixedProducts.l0 k l x (i : Int) = some true := by
  intro d
  induction d with
  | zero =>
    refine fun q hd hq => ⟨61, fun k hk => ?_⟩
    obtain ⟨k, rfl⟩ : ∃ m, k = m + 1 := ⟨k - 1, by omega⟩
    simp only [arraslaw1_FixedProducts.l0]
    rw [if_neg (by omega), fwakes k (by omega)]
    rfl
  | succ d ih =>
    intro j hd hq
    obtain ⟨K, hK⟩ := ih (j + 1) (by omega) (by omega)
    rw [Int.natCast_add, Int.natCast_one] at hK
    obtain ⟨K', hK'⟩ := l1 l x hx j (by omega) K hK x.length 0 (by omega) (by omega)
    refine ⟨K' + 1, fun k hk => ?_⟩
    obtain ⟨k, rfl⟩ : ∃ m, k = m + 1 := ⟨k - 1, by omega⟩
    simp only [arraslaw1_FixedProducts.l0]
    rw [if_pos (by omega)]
    exact hK' k (by omega)
end

/-- The law, over numbers and lists. -/
theorem pure : Pure := fun l _ => by
  have hl := allS_len l
  have ha : ∀ k, 13 ≤ k → arraslaw1_all.f k l = some (allS l) := fun k hk => all_eq l hk
  generalize allS l = x at hl ha
  obtain ⟨K, hK⟩ := l0 l x hl x.length 0 (by omega) (by omega)
  refine ⟨K + 13, ?_⟩
  simp only [arraslaw1_FixedProducts.f]
  rw [ha _ (by omega)]
  exact hK _ (by omega)
end Go.Proofs.Ytdilliddflnbnaa.TFixedProducts
