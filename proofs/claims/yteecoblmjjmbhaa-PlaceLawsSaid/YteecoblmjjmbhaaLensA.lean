/- Sizes together, with gaps between: sums that are brought within once at the end. -/
import Derived.Test.YteecoblmjjmbhaaBasicsA
namespace Go.Proofs.Yteecoblmjjmbhaa.PA
open Go.RowKit Go.Proofs.YteecoblmjjmbhaaW.PrintWords Go.Proofs.YteecoblmjjmbhaaW.PrintLast Go.Proofs.YteecoblmjjmbhaaW.PrintMore

/-- Sizes behind others, a gap ahead of each. -/
def ext (gap : Int) : List Int → Int
  | [] => 0
  | s :: r => gap + s + ext gap r
/-- All in one line. -/
def tot (gap : Int) : List Int → Int
  | [] => 0
  | s :: r => s + ext gap r
def AllPl (l : List Int) : Prop := ∀ x ∈ l, 0 ≤ x ∧ x ≤ 1099511627776
theorem allPl_of {l : List Int} (h : l.all pl = true) : AllPl l := fun x hx => pl_iff.1 (List.all_eq_true.1 h x hx)
theorem AllPl.to {l : List Int} (h : AllPl l) : l.all pl = true := List.all_eq_true.2 fun x hx => pl_iff.2 (h x hx)
theorem okS_iff {l more : List Int} {most : Int} : okS l more most = true ↔ AllPl l ∧ AllPl more ∧ (l.length : Int) ≤ most := by
  unfold okS
  simp only [Bool.and_eq_true, decide_eq_true_eq]
  exact ⟨fun ⟨a, b, c⟩ => ⟨allPl_of a, allPl_of b, c⟩, fun ⟨a, b, c⟩ => ⟨a.to, b.to, c⟩⟩
theorem AllPl.tail {s : Int} {r : List Int} (h : AllPl (s :: r)) : AllPl r := fun x hx => h x (List.mem_cons_of_mem _ hx)
theorem AllPl.head {s : Int} {r : List Int} (h : AllPl (s :: r)) : 0 ≤ s ∧ s ≤ 1099511627776 := h s List.mem_cons_self
theorem AllPl.drop {l : List Int} (h : AllPl l) (n : Nat) : AllPl (l.drop n) := fun x hx => h x (List.mem_of_mem_drop hx)
theorem AllPl.take {l : List Int} (h : AllPl l) (n : Nat) : AllPl (l.take n) := fun x hx => h x (List.mem_of_mem_take hx)
theorem AllPl.one {x : Int} (h : 0 ≤ x ∧ x ≤ 1099511627776) : AllPl [x] := fun y hy => by rw [List.mem_singleton.1 hy]; exact h
theorem AllPl.of_one {x : Int} (h : AllPl [x]) : 0 ≤ x ∧ x ≤ 1099511627776 := h x List.mem_cons_self

theorem ext_pos {gap : Int} (hg : 0 ≤ gap) : ∀ {l : List Int}, AllPl l → 0 ≤ ext gap l
  | [], _ => by simp [ext]
  | s :: r, h => by
    have := ext_pos hg h.tail
    have := h.head
    simp only [ext]
    omega
theorem step_eq {n gap s : Int} (hn : 0 ≤ n ∧ n ≤ 1099511627776) (hg : 0 ≤ gap ∧ gap ≤ 1099511627776) (hs : 0 ≤ s ∧ s ≤ 1099511627776) : sat (wrap64 (sat (wrap64 (n + gap)) + s)) = min 1099511627776 (n + gap + s) := by
  rw [w64 (n := n + gap) (by omega) (by omega), sat_pos (n := n + gap) (by omega), w64 (by omega) (by omega), sat_pos (by omega)]
  omega
theorem more_eq {gap : Int} (hg : 0 ≤ gap ∧ gap ≤ 1099511627776) : ∀ {l : List Int} {n : Int}, AllPl l → (0 ≤ n ∧ n ≤ 1099511627776) → more gap n l = min 1099511627776 (n + ext gap l)
  | [], n, _, hn => by simp only [more, ext]; omega
  | s :: r, n, h, hn => by
    have hs := h.head
    have he := ext_pos hg.1 h.tail
    simp only [more, ext]
    rw [step_eq hn hg hs, more_eq hg h.tail (by omega)]
    omega
theorem lenS_eq {gap : Int} (hg : 0 ≤ gap ∧ gap ≤ 1099511627776) {l : List Int} (h : AllPl l) : lenS gap l = min 1099511627776 (tot gap l) := by
  cases l with
  | nil => rfl
  | cons s r =>
    have hs := h.head
    simp only [lenS, tot]
    rw [w64 (by omega) (by omega), sat_pos (by omega), more_eq hg h.tail (by omega)]
    have he := ext_pos hg.1 h.tail
    omega
theorem ext_append (gap : Int) : ∀ (a b : List Int), ext gap (a ++ b) = ext gap a + ext gap b
  | [], b => by simp [ext]
  | s :: r, b => by simp only [List.cons_append, ext, ext_append gap r b]; omega
theorem tot_append {gap : Int} {a : List Int} (ha : a ≠ []) (b : List Int) : tot gap (a ++ b) = tot gap a + ext gap b := by
  cases a with
  | nil => exact absurd rfl ha
  | cons s r => simp only [List.cons_append, tot, ext_append]; omega
theorem tot_pos {gap : Int} (hg : 0 ≤ gap) {l : List Int} (h : AllPl l) : 0 ≤ tot gap l := by
  cases l with
  | nil => simp [tot]
  | cons s r => have := ext_pos hg h.tail; have := h.head; simp only [tot]; omega

end Go.Proofs.Yteecoblmjjmbhaa.PA
