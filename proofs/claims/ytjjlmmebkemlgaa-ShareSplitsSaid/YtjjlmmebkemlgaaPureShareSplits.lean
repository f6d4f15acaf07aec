/- The pure statement of ShareSplits: what each one gets of any total, by any weights, is the page's, or it is refused. -/
import Derived.Test.YtjjlmmebkemlgaaTellShareSplits
import Derived.Test.YtjjlmmebkemlgaaRefSplitS
import Derived.Test.YtjjlmmebkemlgaaCopyS
namespace Go.Proofs.Ytjjlmmebkemlgaa.TShareSplits
open Go.RowKit Go.Proofs.YtjjlmmebkemlgaaW.PrintWords Go.Proofs.Ytjjlmmebkemlgaa.PS

theorem rd_T (l : List S25) (i : Nat) (h : i < l.length) : rd_T25 l (i : Int) = l[i] := by simp [rd_T25, List.getD_eq_getElem?_getD, h]
theorem fin (l : List S25) (i : Nat) (h : ¬ (i < l.length ∧ i < 12)) : ∀ k, 80 ≤ k → arraslaw2_ShareSplits.l0 k l (i : Int) = some true := by
  intro k hk
  obtain ⟨k, rfl⟩ : ∃ m, k = m + 2 := ⟨k - 2, by omega⟩
  simp only [arraslaw2_ShareSplits.l0]
  by_cases c : (i : Int) < (l.length : Int)
  · rw [if_pos c]
    simp only [arraslaw2_ShareSplits.j1]
    rw [if_neg (by simp; omega), swakes k (by omega)]
    rfl
  · rw [if_neg c]
    simp only [arraslaw2_ShareSplits.j1]
    rw [if_neg (by simp), swakes k (by omega)]
    rfl
theorem body (l : List S25) (i : Nat) (hi : i < l.length) (h12 : i < 12) (K : Nat) (hn : ∀ k, K ≤ k → arraslaw2_ShareSplits.l0 k l ((i : Int) + 1) = some true) : ∃ K', ∀ k, K' ≤ k → arraslaw2_ShareSplits.l0 k l (i : Int) = some true := by
  obtain ⟨t, ht⟩ : ∃ t, t = l[i].f0 := ⟨_, rfl⟩
  obtain ⟨W, hW⟩ : ∃ W, W = l[i].f1 := ⟨_, rfl⟩
  have hw : wrap64 ((i : Int) + 1) = (i : Int) + 1 := w64' (by omega) (by omega)
  have go : ∀ (k : Nat) (r : Option Bool), 80 ≤ k → (if (W.length : Int) > 2000 then (some true) else ((arrasref0_CopyNumbers.f k W).bind fun t220 => ((share_Split.f k t t220).bind fun bt224 => ((arrasref1_MaySplit.f k t W).bind fun t230 => (if t230 = true then ((arraslaw2_num.f bt224.2).bind fun t232 => (if t232 = 0 then ((arrasref1_Split.f k t W).bind fun t235 => ((arrasref0_EqNumbers.f k bt224.1 t235).bind fun t238 => (if t238 = true then ((arrasref0_EqNumbers.f k t220 W).bind fun t240 => (arraslaw2_ShareSplits.j2 k l (i : Int) t220 bt224.1 (!t240))) else (arraslaw2_ShareSplits.j2 k l (i : Int) t220 bt224.1 true)))) else (arraslaw2_ShareSplits.j2 k l (i : Int) t220 bt224.1 true))) else ((arraslaw2_num.f bt224.2).bind fun t231 => (if t231 = 1 then (if (bt224.1.length : Int) = 0 then (arraslaw2_ShareSplits.l0 k l ((i : Int) + 1)) else (some false)) else (some false)))))))) = r → arraslaw2_ShareSplits.l0 (k + 2) l (i : Int) = r := by
    intro k r hk h
    simp only [arraslaw2_ShareSplits.l0]
    rw [if_pos (by omega)]
    simp only [arraslaw2_ShareSplits.j1]
    rw [if_pos (by simp; omega), if_pos (by omega), if_pos (by omega), rd_T l i hi, hw, ← ht, ← hW]
    exact h
  by_cases c : (W.length : Int) > 2000
  · refine ⟨82, fun k hk => ?_⟩
    obtain ⟨k, rfl⟩ : ∃ m, k = m + 2 := ⟨k - 2, by omega⟩
    exact go k _ (by omega) (by rw [if_pos c])
  · rcases split_eq t W with ⟨hm, Q, hQ, K1, h1⟩ | ⟨hm, K1, h1⟩
    · obtain ⟨K2, h2⟩ := refSplit_eq hm hQ
      have hlen : (incs (qs t (sumI W) W) (Q.take (left t W).toNat)).length = W.length := by rw [incs_len]; simp [qs]
      refine ⟨K + K1 + K2 + W.length + 100, fun k hk => ?_⟩
      obtain ⟨k, rfl⟩ : ∃ m, k = m + 2 := ⟨k - 2, by omega⟩
      obtain ⟨b, hb, hb2⟩ := maySplit_eq t W (k := k) (by omega)
      refine go k _ (by omega) ?_
      obtain rfl := hb.2 hm
      rw [if_neg c, copy_eq W (by omega) (by omega)]
      simp only [Option.bind_some]
      rw [h1 k (by omega)]
      simp only [Option.bind_some]
      rw [hb2]
      simp only [Option.bind_some, if_true, arraslaw2_num.f]
      rw [h2 k (by omega)]
      simp only [Option.bind_some]
      rw [eqNums_eq _ _ (by omega) (by omega)]
      simp only [Option.bind_some, decide_true, if_true]
      rw [eqNums_eq _ _ (by omega) (by omega)]
      simp only [Option.bind_some, decide_true, Bool.not_true]
      obtain ⟨k, rfl⟩ : ∃ m, k = m + 1 := ⟨k - 1, by omega⟩
      simp only [arraslaw2_ShareSplits.j2]
      rw [if_neg (by simp), numbers_eq _ (by omega) (by omega)]
      simp only [Option.bind_some]
      rw [if_pos (by omega), if_pos (by omega), rd_T l i hi, ← hW, eqNums_eq _ _ (by omega) (by omega)]
      simp only [Option.bind_some, decide_true, if_true]
      rw [hw]
      exact hn k (by omega)
    · refine ⟨K + K1 + W.length + 100, fun k hk => ?_⟩
      obtain ⟨k, rfl⟩ : ∃ m, k = m + 2 := ⟨k - 2, by omega⟩
      obtain ⟨b, hb, hb2⟩ := maySplit_eq t W (k := k) (by omega)
      refine go k _ (by omega) ?_
      have hbf : b = false := by
        cases b with
        | false => rfl
        | true => exact absurd (hb.1 rfl) hm
      subst hbf
      rw [if_neg c, copy_eq W (by omega) (by omega)]
      simp only [Option.bind_some]
      rw [h1 k (by omega)]
      simp only [Option.bind_some]
      rw [hb2]
      simp only [Option.bind_some, Bool.false_eq_true, if_false, arraslaw2_num.f]
      rw [if_pos trivial, if_pos (by simp)]
      exact hn k (by omega)
theorem loop (l : List S25) : ∀ (d i : Nat), 12 - i = d → i ≤ 12 → ∃ K, ∀ k, K ≤ k → arraslaw2_ShareSplits.l0 k l (i : Int) = some true := by
  intro d
  induction d with
  | zero => exact fun i hd hi => ⟨80, fin l i (by omega)⟩
  | succ d ih =>
    intro i hd hi
    by_cases c : i < l.length
    · obtain ⟨K, hK⟩ := ih (i + 1) (by omega) (by omega)
      exact body l i c (by omega) K (fun k hk => by have := hK k hk; rw [Int.natCast_add, Int.natCast_one] at this; exact this)
    · exact ⟨80, fin l i (by omega)⟩

/-- The law, over numbers and lists. -/
theorem pure : Pure := fun l _ => by
  obtain ⟨K, hK⟩ := loop l 12 0 rfl (by omega)
  exact ⟨K, hK K (Nat.le_refl _)⟩
end Go.Proofs.Ytjjlmmebkemlgaa.TShareSplits
