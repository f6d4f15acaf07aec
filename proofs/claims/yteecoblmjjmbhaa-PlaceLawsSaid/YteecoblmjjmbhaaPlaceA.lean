/- Where each one begins: what package place's functions and the reference's come to. -/
import Derived.Test.YteecoblmjjmbhaaLensA
import Derived.Test.YteecoblmjjmbhaaPAx0
import Derived.Test.YteecoblmjjmbhaaPAx2
import Derived.Test.YteecoblmjjmbhaaPAx3
import Derived.Test.YteecoblmjjmbhaaPAx4
namespace Go.Proofs.Yteecoblmjjmbhaa.PA
open Go.RowKit Go.Proofs.YteecoblmjjmbhaaW.PrintWords Go.Proofs.YteecoblmjjmbhaaW.PrintLast Go.Proofs.YteecoblmjjmbhaaW.PrintMore

/-- What is left of a room. -/
def restS (room n : Int) : Int := if room < n then 0 else room - n
theorem restS_bd {room n : Int} (hr : 0 ≤ room ∧ room ≤ 1099511627776) (hn : 0 ≤ n ∧ n ≤ 1099511627776) : 0 ≤ restS room n ∧ restS room n ≤ 1099511627776 := by
  unfold restS
  split <;> omega
theorem rest_eq {room n : Int} (hr : 0 ≤ room ∧ room ≤ 1099511627776) (hn : 0 ≤ n ∧ n ≤ 1099511627776) : fixed_Rest.f room n = some (restS room n) := by
  unfold fixed_Rest.f fixed_Minus.f
  rw [fixed_Sat_eq, w64 (by omega) (by omega), sat_in (by omega) (by omega)]
  simp only [Option.bind_some]
  unfold restS mx
  congr 1
  split <;> split <;> omega
/-- What is ahead of the first one, and what is more between each two. -/
def spS (n rest how : Int) : Int × Int :=
  if how = 1 then (rest, 0) else if how = 2 then (rest / 2, 0) else if how = 3 then (if n > 1 then (0, rest / (n - 1)) else (0, 0)) else if how = 4 then (if n > 0 then (rest / n / 2, rest / n) else (0, 0)) else (0, 0)
theorem div_bd {a n : Int} (ha : 0 ≤ a ∧ a ≤ 1099511627776) (hn : 0 < n) : 0 ≤ a / n ∧ a / n ≤ 1099511627776 :=
  ⟨Int.ediv_nonneg ha.1 (by omega), Int.le_trans (Int.ediv_le_self n ha.1) ha.2⟩
theorem spread_eq {n rest : Int} (how : Int) (hn : 0 ≤ n ∧ n ≤ 1048576) (hr : 0 ≤ rest ∧ rest ≤ 1099511627776) : place_spread.f n rest how = some (spS n rest how) := by
  unfold place_spread.f spS
  by_cases h1 : how = 1
  · rw [if_pos h1, if_pos h1]
  · rw [if_neg h1, if_neg h1]
    by_cases h2 : how = 2
    · have := div_bd hr (show (0 : Int) < 2 by omega)
      rw [if_pos h2, if_pos h2, Int.tdiv_eq_ediv_of_nonneg hr.1, w64 (by omega) (by omega)]
    · rw [if_neg h2, if_neg h2]
      by_cases h3 : how = 3
      · rw [if_pos h3, if_pos h3]
        by_cases c : n > 1
        · have := div_bd hr (show (0 : Int) < n - 1 by omega)
          rw [if_pos c, if_pos c, w64 (n := n - 1) (by omega) (by omega), if_neg (by omega), Int.tdiv_eq_ediv_of_nonneg hr.1, w64 (by omega) (by omega)]
        · rw [if_neg c, if_neg c]
      · rw [if_neg h3, if_neg h3]
        by_cases h4 : how = 4
        · rw [if_pos h4, if_pos h4]
          by_cases c : n > 0
          · have h5 := div_bd hr (show (0 : Int) < n by omega)
            have h6 := div_bd h5 (show (0 : Int) < 2 by omega)
            rw [if_pos c, if_pos c, if_neg (by omega), Int.tdiv_eq_ediv_of_nonneg hr.1, w64 (n := rest / n) (by omega) (by omega), Int.tdiv_eq_ediv_of_nonneg h5.1, w64 (by omega) (by omega)]
          · rw [if_neg c, if_neg c]
        · rw [if_neg h4, if_neg h4]

/-- Where each one begins, the next one told by f. -/
def rowS (f : Int → Int → Int) : Int → List Int → List Int
  | _, [] => []
  | a, s :: r => a :: rowS f (f a s) r
theorem rowS_len (f : Int → Int → Int) : ∀ (l : List Int) (a : Int), (rowS f a l).length = l.length
  | [], _ => rfl
  | s :: r, a => by simp only [rowS, List.length_cons, rowS_len f r]
/-- The next one begins behind a size and two gaps; behind a size and one. -/
def nx2 (gap mo a s : Int) : Int := sat (wrap64 (sat (wrap64 (sat (wrap64 (a + s)) + gap)) + mo))
def nx1 (gap a s : Int) : Int := sat (wrap64 (sat (wrap64 (a + s)) + gap))

theorem row_l0 (l bt : List Int) (f : Int → Int → Int) (hf : ∀ k a s, 4 ≤ k → (fixed_Plus.f k a [s]).bind (fun t => fixed_Plus.f k t bt) = some (f a s)) (hl : l.length ≤ 1048576) : ∀ (d i k : Nat) (a : Int) (acc : List Int), l.length - i = d → i ≤ l.length → d + 5 ≤ k → acc.length = i →
    place_Row.l0 k l a bt acc (i : Int) = some (acc ++ rowS f a (l.drop i)) := by
  intro d
  induction d with
  | zero =>
    intro i k a acc hd hi hk ha
    obtain ⟨k, rfl⟩ : ∃ m, k = m + 1 := ⟨k - 1, by omega⟩
    simp only [place_Row.l0]
    rw [if_pos (by omega), List.drop_of_length_le (by omega)]
    simp [rowS]
  | succ d ih =>
    intro i k a acc hd hi hk ha
    obtain ⟨k, rfl⟩ : ∃ m, k = m + 1 := ⟨k - 1, by omega⟩
    have hlt : i < l.length := by omega
    obtain ⟨t, h1, h2⟩ := Option.bind_eq_some_iff.1 (hf k a l[i] (by omega))
    simp only [place_Row.l0]
    rw [if_neg (by omega), if_pos (by omega), if_pos (by omega), if_pos (by omega), rd_nat hlt, h1]
    simp only [Option.bind_some]
    rw [h2]
    simp only [Option.bind_some]
    rw [len_next hlt (by omega), ih (i + 1) k _ _ (by omega) (by omega) (by omega) (by simp; omega), drop_nat hlt]
    simp [rowS]
theorem row2_eq (l : List Int) (a gap mo : Int) (hl : l.length ≤ 1048576) {k : Nat} (hk : l.length + 5 ≤ k) : place_Row.f k l a [gap, mo] = some (rowS (nx2 gap mo) a l) := by
  have := row_l0 l [gap, mo] (nx2 gap mo) (fun k a s hk => by rw [plus1 _ _ (by omega)]; simp only [Option.bind_some]; rw [plus2 _ _ _ (by omega)]; rfl) hl l.length 0 k a [] (by omega) (by omega) (by omega) rfl
  simp only [List.nil_append, List.drop_zero, Int.natCast_zero] at this
  exact this
theorem row1_eq (l : List Int) (a gap : Int) (hl : l.length ≤ 1048576) {k : Nat} (hk : l.length + 5 ≤ k) : place_Row.f k l a [gap] = some (rowS (nx1 gap) a l) := by
  have := row_l0 l [gap] (nx1 gap) (fun k a s hk => by rw [plus1 _ _ (by omega)]; simp only [Option.bind_some]; rw [plus1 _ _ (by omega)]; rfl) hl l.length 0 k a [] (by omega) (by omega) (by omega) rfl
  simp only [List.nil_append, List.drop_zero, Int.natCast_zero] at this
  exact this

/-- Where each one of a line begins. -/
def justS (l : List Int) (gap room how : Int) : List Int :=
  let p := spS l.length (restS room (lenS gap l)) how
  rowS (nx2 gap p.2) p.1 l
theorem lenS_bd {gap : Int} (hg : 0 ≤ gap ∧ gap ≤ 1099511627776) {l : List Int} (h : AllPl l) : 0 ≤ lenS gap l ∧ lenS gap l ≤ 1099511627776 := by
  rw [lenS_eq hg h]
  have := tot_pos hg.1 h
  omega
/-- May it be? -/
def mayJ (l : List Int) (gap room how : Int) : Bool := okS l [gap, room] 64 && decide (0 ≤ how ∧ how ≤ 4)
theorem justify_eq (l : List Int) (gap room how : Int) (hl : l.length ≤ 9223372036854775807) {k : Nat} (hk : l.length + 10 ≤ k) : place_Justify.f k l gap room how = some (if mayJ l gap room how = true then (justS l gap room how, 0) else ([], 1)) := by
  simp only [place_Justify.f]
  rw [sizes_eq l [gap, room] 64 hl (by simp) (by simp; omega)]
  simp only [Option.bind_some]
  unfold mayJ
  cases c : okS l [gap, room] 64 with
  | false => simp
  | true =>
    obtain ⟨h1, h2, h3⟩ := okS_iff.1 c
    have hg : 0 ≤ gap ∧ gap ≤ 1099511627776 := h2 gap List.mem_cons_self
    have hr : 0 ≤ room ∧ room ≤ 1099511627776 := h2 room (by simp)
    have hb := lenS_bd hg h1
    rw [if_pos rfl]
    by_cases a1 : how < 0
    · rw [if_pos a1, if_neg (by simp; omega)]
    · by_cases a2 : how > 4
      · rw [if_neg a1, if_pos a2, if_neg (by simp; omega)]
      · rw [if_neg a1, if_neg a2, if_pos (by simp; omega)]
        simp only [place_Spread.f]
        rw [sum_eq l gap hl (by omega)]
        simp only [Option.bind_some]
        rw [rest_eq hr hb]
        simp only [Option.bind_some]
        rw [spread_eq how (by omega) (restS_bd hr hb)]
        simp only [Option.bind_some]
        rw [row2_eq l _ gap _ (by omega) (by omega)]
        rfl
theorem pwakes : ∀ k, 20 ≤ k → arraslaw21_wakes.f k = some true := by
  intro k hk
  have o : mayJ [2, 2] 0 10 3 = true := by decide
  have e : justS [2, 2] 0 10 3 = [0, 8] := by
    have e1 : lenS 0 [2, 2] = 4 := by rw [lenS_eq (by omega) (by intro x hx; simp at hx; omega)]; decide
    unfold justS
    rw [e1]
    have e2 : spS (([2, 2] : List Int).length : Int) (restS 10 4) 3 = (0, 6) := by decide
    rw [e2]
    simp only [rowS, nx2]
    rw [w64 (n := 0 + 2) (by omega) (by omega), sat_in (n := 0 + 2) (by omega) (by omega), w64 (n := 0 + 2 + 0) (by omega) (by omega), sat_in (n := 0 + 2 + 0) (by omega) (by omega), w64 (by omega) (by omega), sat_in (by omega) (by omega)]
    rfl
  simp only [arraslaw21_wakes.f]
  rw [justify_eq _ _ _ _ (by simp) (by simp; omega), if_pos o, e]
  simp only [Option.bind_some, arraslaw21_num.f]
  rw [if_pos trivial, eqNums_eq _ _ (by simp) (by simp; omega)]
  rfl
end Go.Proofs.Yteecoblmjjmbhaa.PA
