/- The pure statement of FixedLaws: where nothing is brought within, sums go both ways and back; a product over one of its own is the number; a product is not above the exact one, and less than one unit below it. -/
import Derived.Test.YtdilliddflnbnaaTellFixedLaws
import Derived.Test.YtdilliddflnbnaaMulDivA
import Derived.Test.YtdilliddflnbnaaWithinA
namespace Go.Proofs.Ytdilliddflnbnaa.TFixedLaws
open Go.RowKit Go.Proofs.YtdilliddflnbnaaW.PrintWords Go.Proofs.YtdilliddflnbnaaW.PrintMore Go.Proofs.Ytdilliddflnbnaa.PA

theorem add_eq {a b : Int} (ha : co a = true) (hb : co b = true) {k : Nat} (hk : 5 ≤ k) : fixed_Add.f k a b = some (sat (a + b), 0) := by
  have := co_iff.1 ha
  have := co_iff.1 hb
  simp only [fixed_Add.f, is_eq, Option.bind_some, ha, hb, if_true]
  rw [plus1 _ _ (by omega), w64 (by omega) (by omega)]
  rfl
theorem sub_eq {a b : Int} (ha : co a = true) (hb : co b = true) : fixed_Sub.f a b = some (sat (a - b), 0) := by
  have := co_iff.1 ha
  have := co_iff.1 hb
  simp only [fixed_Sub.f, fixed_Minus.f, is_eq, Option.bind_some, ha, hb, if_true, fixed_Sat_eq]
  rw [w64 (by omega) (by omega)]

section
variable (l : List Int) (i : Nat) (hi2 : i + 2 < l.length) (h40 : i < 40) (K : Nat) (hn : ∀ k, K ≤ k → arraslaw1_FixedLaws.l0 k l ((i : Int) + 1) = some true)
include hn h40
theorem body (a b c : Int) (ha : -536870912 ≤ a ∧ a < 536870912) (hb : -536870912 ≤ b ∧ b < 536870912) (hc : 1 ≤ c ∧ c ≤ 1073741824) {k : Nat} (hk : K + 100 ≤ k) : arraslaw1_FixedLaws.j2 k l (i : Int) a b c false = some true := by
  obtain ⟨k, rfl⟩ : ∃ m, k = m + 2 := ⟨k - 2, by omega⟩
  have ca : co a = true := co_iff.2 (by omega)
  have cb : co b = true := co_iff.2 (by omega)
  have cc : co c = true := co_iff.2 (by omega)
  have hw : Aside0 (wrap64 ((i : Int) + 1) = (i : Int) + 1) := ⟨w64 (by omega) (by omega)⟩
  simp only [arraslaw1_FixedLaws.j2, Bool.false_eq_true, if_false]
  rw [mulDiv_eq ca cc cc hc.1 (by omega)]
  simp only [Option.bind_some]
  rw [mulDiv_eq ca cb cc hc.1 (by omega)]
  simp only [Option.bind_some]
  rw [mulDiv_eq cb ca cc hc.1 (by omega)]
  simp only [Option.bind_some, arraslaw1_num.f, if_true]
  have e1 : mdS a c c = a := by
    unfold mdS
    rw [Int.mul_ediv_cancel _ (by omega), sat_in (by omega) (by omega)]
  have e2 : mdS b a c = mdS a b c := by unfold mdS; rw [Int.mul_comm]
  rw [if_pos e1, e2, show (mdS a b c != mdS a b c) = false by simp]
  have hlast := hn k (by omega)
  simp only [arraslaw1_FixedLaws.j3, Bool.false_eq_true, if_false]
  rw [hw.out]
  by_cases g1 : mdS a b c > -1099511627776
  · rw [if_pos g1]
    by_cases g2 : mdS a b c < 1099511627776
    · rw [if_pos g2]
      have e : mdS a b c = a * b / c := by
        unfold mdS at g1 g2 ⊢
        generalize a * b / c = z at g1 g2
        unfold sat at g1 g2 ⊢
        repeat' split
        all_goals (repeat' split at g1) <;> (repeat' split at g2) <;> omega
      have hp1 : -288230376151711744 ≤ a * b ∧ a * b ≤ 288230376151711744 := by
        have h := mul_bd (a := (a.natAbs : Int)) (b := (b.natAbs : Int)) (A := 536870912) (B := 536870912) (by omega) (by omega)
        rw [prod_abs a b]
        split <;> omega
      have h1 := Int.emod_add_mul_ediv (a * b) c
      have h2 := Int.emod_nonneg (a * b) (show c ≠ 0 by omega)
      have h3 := Int.emod_lt_of_pos (a * b) (show 0 < c by omega)
      rw [e, Int.mul_comm (a * b / c) c]
      generalize a * b = p at hp1 h1 h2 h3
      generalize c * (p / c) = z at h1
      rw [w64 (n := p) (by omega) (by omega), w64 (n := z) (by omega) (by omega), w64 (by omega) (by omega), if_neg (by omega), if_neg (by omega)]
      exact hlast
    · rw [if_neg g2]
      exact hlast
  · rw [if_neg g1]
    exact hlast
include hi2
theorem step {k : Nat} (hk : K + 200 ≤ k) : arraslaw1_FixedLaws.l0 k l (i : Int) = some true := by
  obtain ⟨k, rfl⟩ : ∃ m, k = m + 2 := ⟨k - 2, by omega⟩
  have w2 : wrap64 ((i : Int) + 2) = (i : Int) + 2 := w64 (by omega) (by omega)
  have w1 : wrap64 ((i : Int) + 1) = (i : Int) + 1 := w64 (by omega) (by omega)
  simp only [arraslaw1_FixedLaws.l0]
  rw [w2, if_pos (by omega), decide_eq_true (by omega)]
  simp only [arraslaw1_FixedLaws.j1, if_true]
  rw [w2, w1]
  rw [if_pos (by omega), if_pos (by omega), within_eq _ _ (by omega) (by omega)]
  simp only [Option.bind_some]
  rw [if_pos (by omega), if_pos (by omega), within_eq _ _ (by omega) (by omega)]
  simp only [Option.bind_some]
  rw [if_pos (by omega), if_pos (by omega), within_eq _ _ (by omega) (by omega)]
  simp only [Option.bind_some]
  have b1 := wthn_bd (rd l (i : Int)) 1073741824 (by omega) (by omega)
  have b2 := wthn_bd (rd l ((i : Int) + 1)) 1073741824 (by omega) (by omega)
  have b3 := wthn_bd (rd l ((i : Int) + 2)) 1073741824 (by omega) (by omega)
  clear w1 w2
  generalize wthn (rd l (i : Int)) 1073741824 = x at b1
  generalize wthn (rd l ((i : Int) + 1)) 1073741824 = y at b2
  generalize wthn (rd l ((i : Int) + 2)) 1073741824 = z at b3
  rw [w64 (n := x - 536870912) (by omega) (by omega), w64 (n := y - 536870912) (by omega) (by omega), w64 (n := 1 + z) (by omega) (by omega)]
  have hb := body l i h40 K hn (x - 536870912) (y - 536870912) (1 + z) (by omega) (by omega) (by omega) (k := k) (by omega)
  have ha : -536870912 ≤ x - 536870912 ∧ x - 536870912 < 536870912 := by omega
  have hb' : -536870912 ≤ y - 536870912 ∧ y - 536870912 < 536870912 := by omega
  generalize x - 536870912 = a at hb ha
  generalize y - 536870912 = b at hb hb'
  have ca : co a = true := co_iff.2 (by omega)
  have cb : co b = true := co_iff.2 (by omega)
  have cs : co (a + b) = true := co_iff.2 (by omega)
  rw [add_eq ca cb (by omega), sat_in (n := a + b) (by omega) (by omega)]
  simp only [Option.bind_some]
  rw [add_eq cb ca (by omega), sat_in (n := b + a) (by omega) (by omega)]
  simp only [Option.bind_some]
  rw [sub_eq cs cb, sat_in (n := a + b - b) (by omega) (by omega)]
  simp only [Option.bind_some, arraslaw1_num.f, if_true]
  rw [if_pos (by omega), if_pos (by omega), w64 (n := a + b) (by omega) (by omega), show (a + b != a + b) = false by simp]
  exact hb
end
theorem loop (l : List Int) : ∀ (d i : Nat), 40 - i = d → i ≤ l.length → i ≤ 40 → ∃ K, ∀ k, K ≤ k → arraslaw1_FixedLaws.l0 k l (i : Int) = some true := by
  intro d
  have fin : ∀ (i : Nat), ¬ (i + 2 < l.length ∧ i < 40) → i ≤ 40 → ∃ K, ∀ k, K ≤ k → arraslaw1_FixedLaws.l0 k l (i : Int) = some true := by
    refine fun i hi h40 => ⟨100, fun k hk => ?_⟩
    obtain ⟨k, rfl⟩ : ∃ m, k = m + 2 := ⟨k - 2, by omega⟩
    have w2 : wrap64 ((i : Int) + 2) = (i : Int) + 2 := w64 (by omega) (by omega)
    simp only [arraslaw1_FixedLaws.l0]
    rw [w2]
    clear w2
    by_cases c : (i : Int) + 2 < (l.length : Int)
    · rw [if_pos c]
      simp only [arraslaw1_FixedLaws.j1]
      rw [if_neg (by simp; omega), fwakes k (by omega)]
      rfl
    · rw [if_neg c]
      simp only [arraslaw1_FixedLaws.j1]
      rw [if_neg (by simp), fwakes k (by omega)]
      rfl
  induction d with
  | zero => exact fun i hd hi h12 => fin i (by omega) h12
  | succ d ih =>
    intro i hd hi h12
    by_cases c : i + 2 < l.length
    · obtain ⟨K, hn⟩ := ih (i + 1) (by omega) (by omega) (by omega)
      rw [Int.natCast_add, Int.natCast_one] at hn
      exact ⟨K + 200, fun k hk => step l i c (by omega) K hn hk⟩
    · exact fin i (by omega) h12
/-- The law, over numbers and lists. -/
theorem pure : Pure := fun l _ => by
  obtain ⟨K, hK⟩ := loop l 40 0 (by omega) (by omega) (by omega)
  exact ⟨K, hK K (Nat.le_refl _)⟩
end Go.Proofs.Ytdilliddflnbnaa.TFixedLaws
