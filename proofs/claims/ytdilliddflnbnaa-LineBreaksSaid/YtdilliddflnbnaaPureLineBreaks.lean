/- The pure statement of LineBreaks: the lines and the lengths are the page's, or refused. -/
import Derived.Test.YtdilliddflnbnaaTellLineBreaks
import Derived.Test.YtdilliddflnbnaaLinesA
namespace Go.Proofs.Ytdilliddflnbnaa.TLineBreaks
open Go.RowKit Go.Proofs.YtdilliddflnbnaaW.PrintWords Go.Proofs.Ytdilliddflnbnaa.PA

theorem rd_T (l : List S25) (i : Nat) (h : i < l.length) : rd_T25 l (i : Int) = l[i] := by simp [rd_T25, List.getD_eq_getElem?_getD, h]

theorem wakes : ∀ k, 20 ≤ k → arraslaw19_wakes.f k = some true := by
  intro k hk
  have e : cutS 1 11 [5, 5, 5] = [2, 1] := by decide
  have o : okS [5, 5, 5] [1, 11] 64 = true := by decide
  simp only [arraslaw19_wakes.f]
  rw [lineBreak_eq _ _ _ (by simp) (by simp; omega), if_pos o, e]
  simp only [Option.bind_some, arraslaw19_num.f]
  rw [if_pos trivial, eqNums_eq _ _ (by simp) (by simp; omega)]
  rfl

theorem body (l : List S25) (i : Nat) (hi : i < l.length) (h12 : i < 12) (hp : phi25 l[i]) (_hlen : l.length ≤ maxLen) {k : Nat} (hk : 5000 ≤ k) (hn : arraslaw19_LineBreaks.l0 (k - 4) l ((i : Int) + 1) = some true) : arraslaw19_LineBreaks.l0 k l (i : Int) = some true := by
  obtain ⟨k, rfl⟩ : ∃ m, k = m + 4 := ⟨k - 4, by omega⟩
  simp only [arraslaw19_LineBreaks.l0]
  have hw : wrap64 ((i : Int) + 1) = (i : Int) + 1 := w64 (by omega) (by omega)
  rw [if_pos (by omega)]
  simp only [arraslaw19_LineBreaks.j1]
  rw [if_pos (by simp; omega), if_pos (by omega), if_pos (by omega), rd_T l i hi]
  generalize l[i] = p at hp
  obtain ⟨L, g, r⟩ := p
  simp only
  by_cases hL : (L.length : Int) > 1000
  · rw [if_pos hL]
  · rw [if_neg hL, copy_eq L (by omega) (by omega)]
    simp only [Option.bind_some]
    rw [lineBreak_eq L g r (by omega) (by omega)]
    simp only [Option.bind_some]
    rw [lineLength_eq L g (by omega) (by omega)]
    simp only [Option.bind_some]
    rw [refSizes_eq L g 64 (by omega) (by omega)]
    simp only [Option.bind_some, arraslaw19_num.f]
    have hn' : arraslaw19_LineBreaks.l0 k l ((i : Int) + 1) = some true := by simpa using hn
    cases hm : okS L [g] 64 with
    | false =>
      have hm2 : okS L [g, r] 64 = false := by
        cases c : okS L [g, r] 64 with
        | false => rfl
        | true =>
          obtain ⟨h1, h2, h3⟩ := okS_iff.1 c
          have := okS_iff.2 ⟨h1, AllPl.one (h2 g List.mem_cons_self), h3⟩
          rw [hm] at this
          cases this
      rw [hm2]
      simp only [Bool.false_eq_true, if_false, if_true]
      rw [show ((0 : Int) != 0) = false from rfl]
      simp only [arraslaw19_LineBreaks.j2, Bool.false_eq_true, if_false]
      simp only [arraslaw19_LineBreaks.j3, arraslaw19_num.f, Option.bind_some, if_true]
      rw [if_neg (by simp), hw]
      exact hn'
    | true =>
      obtain ⟨h1, h2, h3⟩ := okS_iff.1 hm
      simp only [if_true]
      rw [refLen_eq L g (by omega) (by omega)]
      simp only [Option.bind_some, if_true]
      simp only [arraslaw19_LineBreaks.j2, Bool.false_eq_true, if_false, if_true]
      rw [size_eq]
      simp only [Option.bind_some]
      cases hr : pl r with
      | false =>
        have hm2 : okS L [g, r] 64 = false := by
          cases c : okS L [g, r] 64 with
          | false => rfl
          | true =>
            obtain ⟨_, h2, _⟩ := okS_iff.1 c
            have := pl_iff.2 (h2 r (by simp))
            rw [hr] at this
            cases this
        rw [hm2]
        simp only [Bool.false_eq_true, if_false, arraslaw19_LineBreaks.j3, Bool.not_false, if_true, arraslaw19_num.f, Option.bind_some]
        rw [if_neg (by simp), hw]
        exact hn'
      | true =>
        have hg := h2.of_one
        have hm2 : okS L [g, r] 64 = true := okS_iff.2 ⟨h1, by
          intro x hx
          simp only [List.mem_cons, List.not_mem_nil, or_false] at hx
          rcases hx with rfl | rfl
          · exact hg
          · exact pl_iff.1 hr, h3⟩
        have hcl := cutS_len g r L
        rw [hm2]
        simp only [if_true, arraslaw19_LineBreaks.j3, Bool.not_true, Bool.false_eq_true, if_false, arraslaw19_num.f, Option.bind_some]
        rw [refBreak_eq L g r (by omega) h1 hg (by omega)]
        simp only [Option.bind_some]
        rw [eqNums_eq _ _ (by omega) (by omega)]
        simp only [Option.bind_some, decide_true, if_true]
        rw [eqNums_eq _ _ (by omega) (by omega)]
        simp only [Option.bind_some, decide_true, if_true]
        rw [numbers_eq _ (by omega) (by omega)]
        simp only [Option.bind_some]
        rw [hw]
        exact hn'

theorem loop (l : List S25) (hlen : l.length ≤ maxLen) (hp : ∀ y ∈ l, phi25 y) : ∀ (d i k : Nat), 12 - i = d → i ≤ l.length → i ≤ 12 → 5000 + 4 * d ≤ k → arraslaw19_LineBreaks.l0 k l (i : Int) = some true := by
  intro d
  have fin : ∀ (i k : Nat), ¬ (i < l.length ∧ i < 12) → i ≤ l.length → 5000 ≤ k → arraslaw19_LineBreaks.l0 k l (i : Int) = some true := by
    intro i k hi hil hk
    obtain ⟨k, rfl⟩ : ∃ m, k = m + 2 := ⟨k - 2, by omega⟩
    simp only [arraslaw19_LineBreaks.l0]
    by_cases c : (i : Int) < (l.length : Int)
    · rw [if_pos c]
      simp only [arraslaw19_LineBreaks.j1]
      rw [if_neg (by simp; omega), wakes k (by omega)]
      rfl
    · rw [if_neg c]
      simp only [arraslaw19_LineBreaks.j1]
      rw [if_neg (by simp), wakes k (by omega)]
      rfl
  induction d with
  | zero => exact fun i k hd hi h12 hk => fin i k (by omega) hi (by omega)
  | succ d ih =>
    intro i k hd hi h12 hk
    by_cases c : i < l.length
    · have hn := ih (i + 1) (k - 4) (by omega) (by omega) (by omega) (by omega)
      rw [Int.natCast_add, Int.natCast_one] at hn
      exact body l i c (by omega) (hp _ (List.getElem_mem c)) hlen (by omega) hn
    · exact fin i k (by omega) hi (by omega)

/-- The law, over numbers and lists. -/
theorem pure : Pure := fun l h => ⟨5100, loop l h.1 h.2 12 0 5100 (by omega) (by omega) (by omega) (by omega)⟩
end Go.Proofs.Ytdilliddflnbnaa.TLineBreaks
