/- The pure statement of FlexPlains: whether any item may be, and its plain size, is the page's. -/
import Derived.Test.YtjjlmmebkemlgaaTellFlexPlains
namespace Go.Proofs.Ytjjlmmebkemlgaa.TFlexPlains
open Go.RowKit Go.Proofs.YtjjlmmebkemlgaaW.PrintWords Go.Proofs.Ytjjlmmebkemlgaa.PG

theorem line_eq (a : Int) : line_Plain.f a = some (decide (0 ≤ a ∧ a ≤ 1099511627776)) := by
  unfold line_Plain.f
  split <;> simp <;> omega
theorem size_eq (a : Int) : arrasref1_Size.f a = some (decide (0 ≤ a ∧ a ≤ 1099511627776)) := by
  unfold arrasref1_Size.f arrasref0_Num.f
  split <;> simp <;> omega
theorem num_eq (a b : Int) : arrasref0_Num.f a b = some (decide (0 ≤ a ∧ a ≤ b)) := by
  unfold arrasref0_Num.f
  split <;> simp <;> omega
def okI (a b c d e : Int) : Bool := decide (0 ≤ a ∧ a ≤ 1099511627776) && decide (0 ≤ b ∧ b ≤ 1099511627776) && (decide (0 ≤ c ∧ c ≤ 1099511627776) || decide (c = -1)) && decide (0 ≤ d ∧ d ≤ 1048576) && decide (0 ≤ e ∧ e ≤ 1048576)
theorem item_eq (a b c d e : Int) : arrasref19_Item.f a b c d e = some (okI a b c d e) := by
  unfold arrasref19_Item.f okI
  simp only [size_eq, num_eq, Option.bind_some]
  repeat' split
  all_goals simp_all
  all_goals omega
theorem may_eq (a b c d e : Int) : flex_May.f a b c d e = some (okI a b c d e) := by
  unfold flex_May.f okI
  simp only [line_eq, Option.bind_some]
  repeat' split
  all_goals simp_all
  all_goals omega
theorem plain_eq (a b c d e : Int) : ∃ n, arrasref19_Plain.f a b c d e = some n ∧ flex_Plain.f a b c d e = some (if okI a b c d e = true then (n, 0) else (0, 1)) := by
  unfold arrasref19_Plain.f arrasref1_Clamp.f flex_Plain.f flex_Size.f fixed_Within.f
  rw [may_eq]
  by_cases hc : c = -1
  · refine ⟨mx a b, by simp [hc], ?_⟩
    have : mx b a = mx a b := by unfold mx; split <;> split <;> omega
    simp only [Option.bind_some, hc, if_true, this]
    split <;> rfl
  · refine ⟨mx (mn a c) b, by simp [hc], ?_⟩
    have : mx b (mn a c) = mx (mn a c) b := by unfold mx; split <;> split <;> omega
    simp only [Option.bind_some, hc, if_false, this]
    split <;> rfl
theorem check_eq (a b c d e : Int) : flex_Check.f a b c d e = some (if okI a b c d e = true then 0 else 1) := by
  unfold flex_Check.f
  rw [may_eq]
  simp only [Option.bind_some]
  split <;> rfl
theorem w1 (n : Nat) (h : n < 100) : wrap64 ((n : Int) + 1) = ((n + 1 : Nat) : Int) := by
  unfold wrap64; omega
theorem j4_step {k : Nat} {x0 : List S41} {i : Int} {x4 : Nat} (h4 : x4 < 100) {a b c d e : Int} {n0 : Int} (hn : arrasref19_Plain.f a b c d e = some n0) (K : arraslaw20_FlexPlains.l1 k x0 i ((x4 + 1 : Nat) : Int) = some true) (bad n : Int)
    (hb : bad = if okI a b c d e = true then 0 else 1) (hw : n = if okI a b c d e = true then n0 else 0) : arraslaw20_FlexPlains.j4 (k + 1) x0 i (x4 : Int) bad n a b c d e = some true := by
  obtain ⟨n1, h1, h2⟩ := plain_eq a b c d e
  rw [hn] at h1; cases h1
  simp only [arraslaw20_FlexPlains.j4]
  rw [h2, check_eq, w1 x4 h4]
  subst hb hw
  simp only [Option.bind_some, arraslaw20_num.f, if_true]
  cases okI a b c d e <;> simpa using K
theorem l1_true {x0 : List S41} {i : Nat} (hi : i < x0.length) (h10 : i < 10) {F : Nat} (H : ∀ k, F ≤ k → arraslaw20_FlexPlains.l0 k x0 ((i + 1 : Nat) : Int) = some true) :
    ∀ (n x4 k : Nat), x4 + n = 30 → 3 * n + F + 2 ≤ k → arraslaw20_FlexPlains.l1 k x0 (i : Int) (x4 : Int) = some true := by
  have out : ∀ k x4, F + 1 ≤ k → arraslaw20_FlexPlains.j3 k x0 (i : Int) (x4 : Int) false = some true := fun k x4 hk => by
    obtain ⟨k, rfl⟩ : ∃ q, k = q + 1 := ⟨k - 1, by omega⟩
    simp only [arraslaw20_FlexPlains.j3]
    rw [if_neg (by simp), w1 i (by omega)]
    exact H k (by omega)
  intro n
  induction n with
  | zero =>
    intro x4 k hx hk
    obtain ⟨k, rfl⟩ : ∃ q, k = q + 1 := ⟨k - 1, by omega⟩
    simp only [arraslaw20_FlexPlains.l1]
    rw [if_pos (by omega), if_pos (by omega), show decide ((x4 : Int) < 30) = false from by simp; omega, ite_self]
    exact out k x4 (by omega)
  | succ n ih =>
    intro x4 k hx hk
    obtain ⟨k, rfl⟩ : ∃ q, k = q + 3 := ⟨k - 3, by omega⟩
    simp only [arraslaw20_FlexPlains.l1]
    rw [if_pos (by omega), if_pos (by omega)]
    split
    · rename_i hlt
      rw [show decide ((x4 : Int) < 30) = true from by simp; omega]
      simp only [arraslaw20_FlexPlains.j3, if_true]
      rw [if_pos (by omega), if_pos (by omega), if_pos (by omega), if_pos hlt, item_eq]
      generalize rd_T46 (rd_T41 x0 ↑i).f0 ↑x4 = it
      simp only [Option.bind_some]
      have K := ih (x4 + 1) k (by omega) (by omega)
      obtain ⟨n0, h1, _⟩ := plain_eq it.f0 it.f1 it.f2 it.f3 it.f4
      split
      · rename_i hok
        rw [h1]
        exact j4_step (by omega) h1 K _ _ (by rw [if_pos hok]) (by rw [if_pos hok])
      · rename_i hok
        exact j4_step (by omega) h1 K _ _ (by rw [if_neg hok]) (by rw [if_neg hok])
    · exact out _ x4 (by omega)
theorem l0_true (x0 : List S41) : ∀ (n i k : Nat), i + n = 10 → 94 * n + 3 ≤ k → arraslaw20_FlexPlains.l0 k x0 (i : Int) = some true := by
  have out : ∀ k i, 2 ≤ k → arraslaw20_FlexPlains.j1 k x0 i false = some true := fun k i hk => by
    obtain ⟨k, rfl⟩ : ∃ q, k = q + 1 := ⟨k - 1, by omega⟩
    simp only [arraslaw20_FlexPlains.j1]
    rw [if_neg (by simp)]
    rfl
  intro n
  induction n with
  | zero =>
    intro i k hi hk
    obtain ⟨k, rfl⟩ : ∃ q, k = q + 1 := ⟨k - 1, by omega⟩
    simp only [arraslaw20_FlexPlains.l0]
    rw [show decide ((i : Int) < 10) = false from by simp; omega, ite_self]
    exact out k _ (by omega)
  | succ n ih =>
    intro i k hi hk
    obtain ⟨k, rfl⟩ : ∃ q, k = q + 2 := ⟨k - 2, by omega⟩
    simp only [arraslaw20_FlexPlains.l0]
    split
    · rename_i hlt
      rw [show decide ((i : Int) < 10) = true from by simp; omega]
      simp only [arraslaw20_FlexPlains.j1, if_true]
      exact l1_true (F := 94 * n + 3) (by omega) (by omega) (fun k hk => ih (i + 1) k (by omega) hk) 30 0 k (by omega) (by omega)
    · exact out _ _ (by omega)
theorem pure : Pure := fun l0 _ => ⟨1000, l0_true l0 10 0 1000 (by omega) (by omega)⟩
end Go.Proofs.Ytjjlmmebkemlgaa.TFlexPlains
