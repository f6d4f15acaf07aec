/- What a justified line keeps: it begins at 0 or behind, each next one lies behind the one ahead and a gap, all lies within the room; what is left behind the last one. -/
import Derived.Test.YteecoblmjjmbhaaPlaceA
import Derived.Test.YteecoblmjjmbhaaAlignFA
namespace Go.Proofs.Yteecoblmjjmbhaa.PA
open Go.RowKit Go.Proofs.YteecoblmjjmbhaaW.PrintWords Go.Proofs.YteecoblmjjmbhaaW.PrintLast Go.Proofs.YteecoblmjjmbhaaW.PrintMore

theorem ext_mo (gap mo : Int) : ∀ l : List Int, ext (gap + mo) l = ext gap l + l.length * mo
  | [] => by simp [ext]
  | s :: r => by
    simp only [ext, List.length_cons, ext_mo gap mo r]
    rw [Int.natCast_add, Int.add_mul]
    omega
theorem ext_zero (gap : Int) (l : List Int) : ext gap l = ext 0 l + l.length * gap := by
  have := ext_mo 0 gap l
  rwa [Int.zero_add] at this
theorem tot_ext {gap : Int} {l : List Int} (h : l ≠ []) : tot gap l = ext gap l - gap := by
  cases l with
  | nil => exact absurd rfl h
  | cons s r => simp only [tot, ext]; omega
/-- Each one's begin, where nothing is brought within. -/
theorem rows_at {gap mo : Int} (hg : 0 ≤ gap ∧ gap ≤ 1000000000) (hm : 0 ≤ mo ∧ mo ≤ 1000000000) : ∀ (l : List Int) (a : Int), AllPl l → 0 ≤ a → a + ext (gap + mo) l ≤ 1000000000000 → ∀ (i : Nat) (hi : i < l.length), (rowS (nx2 gap mo) a l)[i]'(by rw [rowS_len]; exact hi) = a + ext (gap + mo) (l.take i)
  | [], _, _, _, _, _, hi => by simp at hi
  | s :: r, a, h, ha, hb, 0, _ => by simp [rowS, ext]
  | s :: r, a, h, ha, hb, i + 1, hi => by
    have h1 := h.head
    have h2 := ext_pos (gap := gap + mo) (by omega) h.tail
    simp only [ext] at hb
    have e : nx2 gap mo a s = a + s + gap + mo := by
      unfold nx2
      rw [w64 (n := a + s) (by omega) (by omega), sat_in (n := a + s) (by omega) (by omega), w64 (n := a + s + gap) (by omega) (by omega), sat_in (n := a + s + gap) (by omega) (by omega), w64 (by omega) (by omega), sat_in (by omega) (by omega)]
    simp only [rowS, List.getElem_cons_succ, List.take_succ_cons, ext]
    rw [rows_at hg hm r _ h.tail (by omega) (by omega) i (by simpa using hi), e]
    omega
/-- What is ahead and what is more, in a room with R left. -/
theorem spS_facts {n R how : Int} (hn : 1 ≤ n ∧ n ≤ 20) (hR : 0 ≤ R ∧ R ≤ 10000) (hh : 0 ≤ how ∧ how ≤ 4) :
    (0 ≤ (spS n R how).1 ∧ (spS n R how).1 ≤ 10000) ∧ (0 ≤ (spS n R how).2 ∧ (spS n R how).2 ≤ 10000) ∧ 0 ≤ R - (spS n R how).1 - (n - 1) * (spS n R how).2
    ∧ (how = 0 → (spS n R how).1 = 0) ∧ (how = 1 → R - (spS n R how).1 - (n - 1) * (spS n R how).2 = 0)
    ∧ (how = 2 → (spS n R how).1 ≤ R - (spS n R how).1 - (n - 1) * (spS n R how).2 ∧ R - (spS n R how).1 - (n - 1) * (spS n R how).2 ≤ (spS n R how).1 + 1)
    ∧ (how = 3 → (spS n R how).1 = 0 ∧ (1 < n → R - (spS n R how).1 - (n - 1) * (spS n R how).2 < n - 1)) := by
  have hc : how = 0 ∨ how = 1 ∨ how = 2 ∨ how = 3 ∨ how = 4 := by omega
  rcases hc with rfl | rfl | rfl | rfl | rfl
  · have e : spS n R 0 = (0, 0) := by simp [spS]
    rw [e]
    simp only [Int.mul_zero]
    refine ⟨⟨?_, ?_⟩, ⟨?_, ?_⟩, ?_, fun _ => ?_, fun _ => ?_, fun _ => ⟨?_, ?_⟩, fun _ => ⟨?_, fun _ => ?_⟩⟩ <;> omega
  · have e : spS n R 1 = (R, 0) := by simp [spS]
    rw [e]
    simp only [Int.mul_zero]
    refine ⟨⟨?_, ?_⟩, ⟨?_, ?_⟩, ?_, fun _ => ?_, fun _ => ?_, fun _ => ⟨?_, ?_⟩, fun _ => ⟨?_, fun _ => ?_⟩⟩ <;> omega
  · have e : spS n R 2 = (R / 2, 0) := by simp [spS]
    rw [e]
    simp only [Int.mul_zero]
    refine ⟨⟨?_, ?_⟩, ⟨?_, ?_⟩, ?_, fun _ => ?_, fun _ => ?_, fun _ => ⟨?_, ?_⟩, fun _ => ⟨?_, fun _ => ?_⟩⟩ <;> omega
  · by_cases c : n > 1
    · have e : spS n R 3 = (0, R / (n - 1)) := by simp [spS, c]
      rw [e]
      have h1 := Int.emod_add_mul_ediv R (n - 1)
      have h2 := Int.emod_nonneg R (show n - 1 ≠ 0 by omega)
      have h3 := Int.emod_lt_of_pos R (show 0 < n - 1 by omega)
      have h4 := div_bd (a := R) (n := n - 1) (by omega) (by omega)
      have h5 := Int.ediv_le_self (n - 1) hR.1
      simp only []
      generalize (n - 1) * (R / (n - 1)) = z at h1
      generalize R % (n - 1) = y at h1 h2 h3
      generalize R / (n - 1) = q at h4 h5
      refine ⟨⟨?_, ?_⟩, ⟨?_, ?_⟩, ?_, fun _ => ?_, fun _ => ?_, fun _ => ⟨?_, ?_⟩, fun _ => ⟨?_, fun _ => ?_⟩⟩ <;> omega
    · have e : spS n R 3 = (0, 0) := by simp [spS, c]
      rw [e]
      simp only [Int.mul_zero]
      refine ⟨⟨?_, ?_⟩, ⟨?_, ?_⟩, ?_, fun _ => ?_, fun _ => ?_, fun _ => ⟨?_, ?_⟩, fun _ => ⟨?_, fun _ => ?_⟩⟩ <;> omega
  · have e : spS n R 4 = (R / n / 2, R / n) := by simp [spS]; omega
    rw [e]
    have h1 := Int.emod_add_mul_ediv R n
    have h2 := Int.emod_nonneg R (show n ≠ 0 by omega)
    have h4 := div_bd (a := R) (n := n) (by omega) (by omega)
    have h5 := Int.ediv_le_self n hR.1
    simp only [Int.sub_mul, Int.one_mul]
    generalize n * (R / n) = z at h1
    generalize R % n = y at h1 h2
    generalize R / n = q at h4 h5
    refine ⟨⟨?_, ?_⟩, ⟨?_, ?_⟩, ?_, fun _ => ?_, fun _ => ?_, fun _ => ⟨?_, ?_⟩, fun _ => ⟨?_, fun _ => ?_⟩⟩ <;> omega
/-- What is left behind the last one. -/
def tailS (l : List Int) (gap room how : Int) : Int := room - rd (justS l gap room how) ((l.length - 1 : Nat) : Int) - rd l ((l.length - 1 : Nat) : Int)
structure Facts (l : List Int) (gap room how : Int) : Prop where
  may : mayJ l gap room how = true
  bd : ∀ i : Nat, i < l.length → 0 ≤ rd (justS l gap room how) (i : Int) ∧ rd (justS l gap room how) (i : Int) ≤ 1000000000000
  next : ∀ i : Nat, i + 1 < l.length → rd (justS l gap room how) (i : Int) + rd l (i : Int) + gap ≤ rd (justS l gap room how) ((i + 1 : Nat) : Int)
  tail : 0 ≤ tailS l gap room how
  h0 : how = 0 → rd (justS l gap room how) 0 = 0
  h1 : how = 1 → tailS l gap room how = 0
  h2 : how = 2 → rd (justS l gap room how) 0 ≤ tailS l gap room how ∧ tailS l gap room how ≤ rd (justS l gap room how) 0 + 1
  h3 : how = 3 → rd (justS l gap room how) 0 = 0 ∧ (1 < l.length → tailS l gap room how < (l.length : Int) - 1)
theorem ext_le {g : Int} : ∀ {l : List Int}, (∀ x ∈ l, 0 ≤ x ∧ x < 10000) → ext g l ≤ l.length * (g + 10000)
  | [], _ => by simp [ext]
  | s :: r, h => by
    have h1 := h s List.mem_cons_self
    have h2 := ext_le (g := g) (l := r) fun x hx => h x (List.mem_cons_of_mem _ hx)
    simp only [ext, List.length_cons]
    rw [Int.natCast_add, Int.add_mul]
    omega
theorem facts {l : List Int} {gap R how : Int} (hl : ∀ x ∈ l, 0 ≤ x ∧ x < 10000) (hne : l ≠ []) (h20 : l.length ≤ 20) (hg : 0 ≤ gap ∧ gap < 100) (hR : 0 ≤ R ∧ R < 10000) (hh : 0 ≤ how ∧ how ≤ 4) : Facts l gap (tot gap l + R) how := by
  have hA : AllPl l := fun x hx => by have := hl x hx; omega
  have hn : 0 < l.length := List.length_pos_iff.2 hne
  have ht : 0 ≤ tot gap l := tot_pos hg.1 hA
  have hte : tot gap l = ext gap l - gap := tot_ext hne
  have hx1 := ext_le (g := gap) hl
  have hx2 : (l.length : Int) * (gap + 10000) ≤ 20 * (gap + 10000) := Int.mul_le_mul_of_nonneg_right (by omega) (by omega)
  have hlen : lenS gap l = tot gap l := by rw [lenS_eq (by omega) hA]; omega
  have hrest : restS (tot gap l + R) (lenS gap l) = R := by rw [hlen]; unfold restS; split <;> omega
  obtain ⟨f1, f2, f3, f4, f5, f6, f7⟩ := spS_facts (n := l.length) (R := R) (how := how) (by omega) (by omega) hh
  have ej : justS l gap (tot gap l + R) how = rowS (nx2 gap (spS l.length R how).2) (spS l.length R how).1 l := by simp only [justS, hrest]
  generalize hp : (spS l.length R how).1 = p at f1 f3 f4 f5 f6 f7 ej
  generalize hm : (spS l.length R how).2 = mo at f2 f3 f5 f6 f7 ej
  have hx3 := ext_mo gap mo l
  have hx4 : 0 ≤ (l.length : Int) * mo := Int.mul_nonneg (by omega) (by omega)
  have hx5 : (l.length : Int) * mo ≤ 20 * mo := Int.mul_le_mul_of_nonneg_right (by omega) (by omega)
  have hsum : p + ext (gap + mo) l ≤ 1000000000000 := by omega
  have hpos : 0 ≤ ext (gap + mo) l := ext_pos (by omega) hA
  have hat : ∀ i : Nat, (hi : i < l.length) → rd (justS l gap (tot gap l + R) how) (i : Int) = p + ext (gap + mo) (l.take i) := fun i hi => by
    rw [ej, rd_nat (by rw [rowS_len]; exact hi)]
    exact rows_at (by omega) (by omega) l p hA f1.1 hsum i hi
  have hsp : ∀ i : Nat, ext (gap + mo) l = ext (gap + mo) (l.take i) + ext (gap + mo) (l.drop i) := fun i => by rw [← ext_append, List.take_append_drop]
  have h00 : rd (justS l gap (tot gap l + R) how) 0 = p := by
    have := hat 0 hn
    simpa [ext] using this
  have htail : tailS l gap (tot gap l + R) how = R - p - ((l.length : Int) - 1) * mo := by
    unfold tailS
    have h1 := hat (l.length - 1) (by omega)
    rw [h1, rd_nat (by omega)]
    have h2 := hsp (l.length - 1)
    rw [drop_nat (show l.length - 1 < l.length by omega), List.drop_of_length_le (by omega)] at h2
    simp only [ext] at h2
    rw [Int.sub_mul, Int.one_mul]
    omega
  refine ⟨?_, ?_, ?_, ?_, ?_, ?_, ?_, ?_⟩
  · unfold mayJ
    rw [okS_iff.2 ⟨hA, fun x hx => ?_, by omega⟩]
    · simp; omega
    · simp only [List.mem_cons, List.not_mem_nil, or_false] at hx
      rcases hx with rfl | rfl <;> omega
  · intro i hi
    rw [hat i hi]
    have h1 := hsp i
    have h2 : 0 ≤ ext (gap + mo) (l.take i) := ext_pos (by omega) (hA.take i)
    have h3 : 0 ≤ ext (gap + mo) (l.drop i) := ext_pos (by omega) (hA.drop i)
    omega
  · intro i hi
    rw [hat i (by omega), hat (i + 1) hi, rd_nat (show i < l.length by omega)]
    have h1 : l.take (i + 1) = l.take i ++ [l[i]] := List.take_succ_eq_append_getElem (by omega)
    rw [h1, ext_append]
    simp only [ext]
    omega
  · rw [htail]; exact f3
  · intro h; rw [h00]; exact f4 h
  · intro h; rw [htail]; exact f5 h
  · intro h; rw [htail, h00]; exact f6 h
  · intro h; rw [htail, h00]; exact ⟨(f7 h).1, fun h' => (f7 h).2 (by omega)⟩
end Go.Proofs.Yteecoblmjjmbhaa.PA
