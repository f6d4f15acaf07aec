/- The pure statement of PlaceLaws: a line that fits lies within its room, in order, each way as it is called; what is aligned lies within. -/
import Derived.Test.YteecoblmjjmbhaaTellPlaceLaws
import Derived.Test.YteecoblmjjmbhaaPlaceFactsA
import Derived.Test.YteecoblmjjmbhaaWithinA
namespace Go.Proofs.Yteecoblmjjmbhaa.TPlaceLaws
open Go.RowKit Go.Proofs.YteecoblmjjmbhaaW.PrintWords Go.Proofs.YteecoblmjjmbhaaW.PrintMore Go.Proofs.Yteecoblmjjmbhaa.PA

theorem rd_T (l : List S27) (i : Nat) (h : i < l.length) : rd_T27 l (i : Int) = l[i] := by simp [rd_T27, List.getD_eq_getElem?_getD, h]

section
variable (l : List S27) (i : Nat) (h12 : i ≤ 12) (K : Nat) (hn : ∀ k, K ≤ k → pLaws.l0 k l ((i : Int) + 1) = some true)
include h12 hn
theorem last {k : Nat} (hk : K ≤ k) : pLaws.l0 k l (wrap64 ((i : Int) + 1)) = some true := by
  rw [w64 (by omega) (by omega)]
  exact hn k hk
section
variable (ss : List Int) (gap R : Int) (hl : ∀ x ∈ ss, 0 ≤ x ∧ x < 10000) (hne : ss ≠ []) (h20 : ss.length ≤ 20) (hg : 0 ≤ gap ∧ gap < 100) (hR : 0 ≤ R ∧ R < 10000)
include hl hne h20 hg hR
omit hg hR in
theorem al (room : Int) (hr : rd ss 0 ≤ room ∧ room ≤ 1000000) : ∀ (d h : Nat), 4 - h = d → h ≤ 4 → ∀ k, K + 10 + 3 * d ≤ k → pLaws.l4 k l (i : Int) ss room (h : Int) = some true := by
  have hlen : 0 < ss.length := List.length_pos_iff.2 hne
  have hs : 0 ≤ rd ss 0 ∧ rd ss 0 < 10000 := by
    have := hl (ss[0]) (List.getElem_mem _)
    have e := rd_nat hlen
    rw [Int.natCast_zero] at e
    omega
  intro d
  induction d with
  | zero =>
    intro h hd hh k hk
    obtain ⟨k, rfl⟩ : ∃ q, k = q + 1 := ⟨k - 1, by omega⟩
    simp only [pLaws.l4]
    rw [if_neg (by omega)]
    exact last l i h12 K hn (by omega)
  | succ d ih =>
    intro h hd hh k hk
    obtain ⟨k, rfl⟩ : ∃ q, k = q + 2 := ⟨k - 2, by omega⟩
    have hnext := ih (h + 1) (by omega) (by omega) k (by omega)
    simp only [pLaws.l4]
    rw [if_pos (by omega), if_pos (by omega), align_eq]
    generalize rd ss 0 = s at hs hr
    have hmay : mayA s room (h : Int) = true := by
      unfold mayA
      rw [pl_iff.2 (by omega), pl_iff.2 (by omega)]
      simp
      omega
    have hb : 0 ≤ (alignS s room (h : Int)).1 ∧ 0 ≤ (alignS s room (h : Int)).2 ∧ (alignS s room (h : Int)).1 + (alignS s room (h : Int)).2 ≤ room := by
      unfold alignS restS
      repeat' split
      all_goals (simp only []; omega)
    rw [hmay]
    simp only [if_true, Option.bind_some, arraslaw21_num.f]
    generalize (alignS s room (h : Int)).1 = a at hb
    generalize (alignS s room (h : Int)).2 = g at hb
    rw [if_neg (by omega), if_neg (by omega), w64 (by omega) (by omega), decide_eq_false (by omega)]
    simp only [pLaws.j9, Bool.false_eq_true, if_false]
    rw [w_nat1 (by omega)]
    exact hnext
omit h12 hn hg hR in
theorem l3_fin (room how : Int) (hh : 0 ≤ how ∧ how ≤ 4) (hroom : 0 ≤ room ∧ room ≤ 1000000) (F : Facts ss gap room how) {k : Nat} (hj : pLaws.j7 k l (i : Int) ss gap (ss.length : Int) room how false = some true) : pLaws.l3 (k + 1) l (i : Int) ss gap (ss.length : Int) room how (justS ss gap room how) (ss.length : Int) = some true := by
  have hlen : 0 < ss.length := List.length_pos_iff.2 hne
  have hjl : (justS ss gap room how).length = ss.length := by simp only [justS, rowS_len]
  have e1 : wrap64 ((ss.length : Int) - 1) = ((ss.length - 1 : Nat) : Int) := by rw [w64 (by omega) (by omega)]; omega
  have b1 := F.bd (ss.length - 1) (by omega)
  have b0 := F.bd 0 hlen
  rw [Int.natCast_zero] at b0
  have bs : 0 ≤ rd ss ((ss.length - 1 : Nat) : Int) ∧ rd ss ((ss.length - 1 : Nat) : Int) < 10000 := by
    rw [rd_nat (by omega)]
    exact hl _ (List.getElem_mem _)
  have e2 : wrap64 (wrap64 (room - rd (justS ss gap room how) ((ss.length - 1 : Nat) : Int)) - rd ss ((ss.length - 1 : Nat) : Int)) = tailS ss gap room how := by
    unfold tailS
    rw [w64 (n := room - _) (by omega) (by omega), w64 (by omega) (by omega)]
  have e3 : wrap64 (rd (justS ss gap room how) 0 + 1) = rd (justS ss gap room how) 0 + 1 := w64 (by omega) (by omega)
  have f3 := F.tail
  simp only [pLaws.l3]
  rw [if_neg (by omega), e1, if_pos (by omega), if_pos (by omega), if_pos (by omega), e2, e3, hjl]
  have hp : (0 < (ss.length : Int)) = True := eq_true (by omega)
  simp only [hp, if_true]
  have hc : how = 0 ∨ how = 1 ∨ how = 2 ∨ how = 3 ∨ how = 4 := by omega
  rcases hc with hc | hc | hc | hc | hc
  · have g := F.h0 hc
    clear e1 e2 e3
    subst hc
    simp only [if_true, show ((0 : Int) = 1) = False from by simp, show ((0 : Int) = 2) = False from by simp, show ((0 : Int) = 3) = False from by simp, if_false, g]
    exact hj
  · have g := F.h1 hc
    clear e1 e2 e3
    subst hc
    simp only [if_true, show ((1 : Int) = 0) = False from by simp, show ((1 : Int) = 2) = False from by simp, show ((1 : Int) = 3) = False from by simp, if_false, g]
    exact hj
  · have g := F.h2 hc
    clear e1 e2 e3
    subst hc
    simp only [if_true, show ((2 : Int) = 0) = False from by simp, show ((2 : Int) = 1) = False from by simp, show ((2 : Int) = 3) = False from by simp, if_false]
    rw [if_neg (by omega), if_neg (by omega)]
    exact hj
  · have g := F.h3 hc
    clear e1 e2 e3
    subst hc
    simp only [if_true, show ((3 : Int) = 0) = False from by simp, show ((3 : Int) = 1) = False from by simp, show ((3 : Int) = 2) = False from by simp, if_false, g.1]
    by_cases c : (ss.length : Int) > 1
    · have g2 := g.2 (by omega)
      rw [if_pos c, decide_eq_false (by omega)]
      exact hj
    · rw [if_neg c]
      exact hj
  · clear e1 e2 e3
    subst hc
    simp only [show ((4 : Int) = 0) = False from by simp, show ((4 : Int) = 1) = False from by simp, show ((4 : Int) = 2) = False from by simp, show ((4 : Int) = 3) = False from by simp, if_false]
    exact hj
omit h12 hn hR in
theorem l3_all (room how : Int) (hh : 0 ≤ how ∧ how ≤ 4) (hroom : 0 ≤ room ∧ room ≤ 1000000) (F : Facts ss gap room how) (K3 : Nat) (hj : ∀ k, K3 ≤ k → pLaws.j7 k l (i : Int) ss gap (ss.length : Int) room how false = some true) : ∀ (d m : Nat), ss.length - m = d → 1 ≤ m → m ≤ ss.length → ∀ k, K3 + 1 + d ≤ k → pLaws.l3 k l (i : Int) ss gap (ss.length : Int) room how (justS ss gap room how) (m : Int) = some true := by
  have hjl : (justS ss gap room how).length = ss.length := by simp only [justS, rowS_len]
  intro d
  induction d with
  | zero =>
    intro m hd h1 hm k hk
    obtain ⟨k, rfl⟩ : ∃ q, k = q + 1 := ⟨k - 1, by omega⟩
    obtain rfl : m = ss.length := by omega
    exact l3_fin l i ss gap hl hne h20 room how hh hroom F (hj k (by omega))
  | succ d ih =>
    intro m hd h1 hm k hk
    obtain ⟨k, rfl⟩ : ∃ q, k = q + 1 := ⟨k - 1, by omega⟩
    have hnext := ih (m + 1) (by omega) (by omega) (by omega) k (by omega)
    have e1 : wrap64 ((m : Int) - 1) = ((m - 1 : Nat) : Int) := by rw [w64 (by omega) (by omega)]; omega
    have b1 := F.bd (m - 1) (by omega)
    have b2 := F.next (m - 1) (by omega)
    rw [show m - 1 + 1 = m by omega] at b2
    have bs : 0 ≤ rd ss ((m - 1 : Nat) : Int) ∧ rd ss ((m - 1 : Nat) : Int) < 10000 := by
      rw [rd_nat (by omega)]
      exact hl _ (List.getElem_mem _)
    simp only [pLaws.l3]
    rw [if_pos (by omega), if_pos (by omega), if_pos (by omega), e1, if_pos (by omega), if_pos (by omega), if_pos (by omega)]
    rw [w_nat1 (by omega)]
    clear e1
    rw [w64 (n := rd (justS ss gap room how) ((m - 1 : Nat) : Int) + rd ss ((m - 1 : Nat) : Int)) (by omega) (by omega), w64 (by omega) (by omega), if_neg (by omega)]
    exact hnext
theorem l2_all : ∀ (d h : Nat), 5 - h = d → h ≤ 5 → ∀ k, K + 100 + 100 * d ≤ k → pLaws.l2 k l (i : Int) ss gap (ss.length : Int) (tot gap ss + R) (h : Int) = some true := by
  have hlen : 0 < ss.length := List.length_pos_iff.2 hne
  have hA : AllPl ss := fun x hx => by have := hl x hx; omega
  have hte : tot gap ss = ext gap ss - gap := tot_ext hne
  have hx1 := ext_le (g := gap) hl
  have hx2 : (ss.length : Int) * (gap + 10000) ≤ 20 * (gap + 10000) := Int.mul_le_mul_of_nonneg_right (by omega) (by omega)
  have hroom : rd ss 0 ≤ tot gap ss + R := by
    cases ss with
    | nil => exact absurd rfl hne
    | cons s r =>
      have := ext_pos (gap := gap) hg.1 hA.tail
      simp only [tot]
      show s ≤ _
      omega
  have hs0 : 0 ≤ rd ss 0 := by
    have := hl (ss[0]) (List.getElem_mem _)
    have e := rd_nat hlen
    rw [Int.natCast_zero] at e
    omega
  have hr2 : 0 ≤ tot gap ss + R ∧ tot gap ss + R ≤ 1000000 := by omega
  intro d
  induction d with
  | zero =>
    intro h hd hh k hk
    obtain ⟨k, rfl⟩ : ∃ q, k = q + 1 := ⟨k - 1, by omega⟩
    simp only [pLaws.l2]
    rw [if_neg (by omega)]
    exact al l i h12 K hn ss hl hne h20 (tot gap ss + R) ⟨hroom, hr2.2⟩ 4 0 (by omega) (by omega) k (by omega)
  | succ d ih =>
    intro h hd hh k hk
    have hnext := ih (h + 1) (by omega) (by omega)
    have F := facts (how := (h : Int)) hl hne h20 hg hR (by omega)
    have hj : ∀ k, K + 100 + 100 * d + 1 ≤ k → pLaws.j7 k l (i : Int) ss gap (ss.length : Int) (tot gap ss + R) (h : Int) false = some true := fun k hk => by
      obtain ⟨k, rfl⟩ : ∃ q, k = q + 1 := ⟨k - 1, by omega⟩
      simp only [pLaws.j7, Bool.false_eq_true, if_false]
      rw [w_nat1 (by omega)]
      exact hnext k (by omega)
    have h3 := l3_all l i ss gap hl hne h20 hg (tot gap ss + R) (h : Int) (by omega) hr2 F _ hj (ss.length - 1) 1 rfl (by omega) (by omega)
    have hjl : (justS ss gap (tot gap ss + R) (h : Int)).length = ss.length := by simp only [justS, rowS_len]
    have b1 := F.bd (ss.length - 1) (by omega)
    have b0 := F.bd 0 hlen
    rw [Int.natCast_zero] at b0
    have bs : 0 ≤ rd ss ((ss.length - 1 : Nat) : Int) ∧ rd ss ((ss.length - 1 : Nat) : Int) < 10000 := by
      rw [rd_nat (by omega)]
      exact hl _ (List.getElem_mem _)
    have ft := F.tail
    unfold tailS at ft
    have e1 : wrap64 ((ss.length : Int) - 1) = ((ss.length - 1 : Nat) : Int) := by rw [w64 (by omega) (by omega)]; omega
    obtain ⟨k, rfl⟩ : ∃ q, k = q + 2 := ⟨k - 2, by omega⟩
    simp only [pLaws.l2]
    rw [if_pos (by omega), justify_eq _ _ _ _ (by omega) (by omega), F.may]
    simp only [if_true, Option.bind_some, arraslaw21_num.f]
    rw [hjl, if_pos rfl, if_pos (by omega), if_neg (by omega), e1, if_pos (by omega), if_pos (by omega), if_pos (by omega)]
    clear e1
    rw [w64 (by omega) (by omega), decide_eq_false (by omega)]
    simp only [pLaws.j5, Bool.false_eq_true, if_false]
    exact h3 k (by omega)
end
variable (hi : i < l.length)
include hi
theorem sizes : ∀ (d m : Nat) (ss : List Int), 20 - m = d → m ≤ 20 → m ≤ l[i].f0.length → ss.length = m → (∀ x ∈ ss, 0 ≤ x ∧ x < 10000) → ∀ k, K + 1000 + 3 * d ≤ k → pLaws.l1 k l (i : Int) ss (ext 0 ss) (m : Int) = some true := by
  intro d
  have fin : ∀ (m : Nat) (ss : List Int), m ≤ 20 → ss.length = m → (∀ x ∈ ss, 0 ≤ x ∧ x < 10000) → ∀ k, K + 999 ≤ k → pLaws.j3 k l (i : Int) ss (ext 0 ss) (m : Int) false = some true := by
    intro m ss hm hlen hall k hk
    obtain ⟨k, rfl⟩ : ∃ q, k = q + 1 := ⟨k - 1, by omega⟩
    simp only [pLaws.j3, Bool.false_eq_true, if_false]
    rw [if_pos (by omega), if_pos (by omega), rd_T l i hi, within_eq _ _ (by omega) (by omega)]
    simp only [Option.bind_some]
    by_cases c : ss = []
    · rw [if_pos (by rw [c]; rfl)]
      exact last l i h12 K hn (by omega)
    · have h0 : 0 < ss.length := List.length_pos_iff.2 c
      rw [if_neg (by omega), within_eq _ _ (by omega) (by omega)]
      simp only [Option.bind_some]
      have b1 := wthn_bd l[i].f1 100 (by omega) (by omega)
      have b2 := wthn_bd l[i].f2 10000 (by omega) (by omega)
      generalize wthn l[i].f1 100 = gap at b1
      generalize wthn l[i].f2 10000 = R at b2
      have h2 := l2_all l i h12 K hn ss gap R hall c (by omega) b1 b2 5 0 rfl (by omega) k (by omega)
      have hte : tot gap ss = ext gap ss - gap := tot_ext c
      have hz := ext_zero gap ss
      have hx0 := ext_le (g := 0) hall
      have hA : AllPl ss := fun x hx => by have := hall x hx; omega
      have hp0 := ext_pos (gap := 0) (by omega) hA
      have hg1 : 0 ≤ (ss.length : Int) * gap := Int.mul_nonneg (by omega) (by omega)
      have hg2 : (ss.length : Int) * gap ≤ 20 * gap := Int.mul_le_mul_of_nonneg_right (by omega) (by omega)
      have e0 : wrap64 ((ss.length : Int) - 1) = (ss.length : Int) - 1 := w64 (by omega) (by omega)
      have e1 : gap * ((ss.length : Int) - 1) = (ss.length : Int) * gap - gap := by rw [Int.mul_sub, Int.mul_one, Int.mul_comm]
      rw [e0, e1]
      clear e0 e1
      generalize (ss.length : Int) * gap = z at hz hg1 hg2
      rw [w64 (n := z - gap) (by omega) (by omega), w64 (n := ext 0 ss + (z - gap)) (by omega) (by omega), w64 (by omega) (by omega), show ext 0 ss + (z - gap) + R = tot gap ss + R by omega]
      exact h2
  induction d with
  | zero =>
    intro m ss hd hm hml hlen hall k hk
    obtain ⟨k, rfl⟩ : ∃ q, k = q + 1 := ⟨k - 1, by omega⟩
    have h := fin m ss hm hlen hall k (by omega)
    simp only [pLaws.l1]
    rw [if_pos (by omega), if_pos (by omega)]
    split
    · rw [decide_eq_false (by omega)]
      exact h
    · exact h
  | succ d ih =>
    intro m ss hd hm hml hlen hall k hk
    obtain ⟨k, rfl⟩ : ∃ q, k = q + 2 := ⟨k - 2, by omega⟩
    by_cases c : m < l[i].f0.length
    · have b := wthn_bd (rd l[i].f0 (m : Int)) 10000 (by omega) (by omega)
      simp only [pLaws.l1]
      rw [if_pos (by omega), if_pos (by omega), rd_T l i hi, if_pos (by omega), decide_eq_true (by omega)]
      simp only [pLaws.j3, if_true]
      rw [if_pos (by omega), if_pos (by omega), if_pos (by omega), rd_T l i hi, if_pos (by omega), within_eq _ _ (by omega) (by omega)]
      simp only [Option.bind_some]
      generalize wthn (rd l[i].f0 (m : Int)) 10000 = t at b
      have hall' : ∀ x ∈ ss ++ [t], 0 ≤ x ∧ x < 10000 := fun x hx => by
        rcases List.mem_append.1 hx with hx | hx
        · exact hall x hx
        · rw [List.mem_singleton.1 hx]; exact b
      have hnext := ih (m + 1) (ss ++ [t]) (by omega) (by omega) (by omega) (by simp [hlen]) hall' k (by omega)
      have hx0 := ext_le (g := 0) hall
      have hA : AllPl ss := fun x hx => by have := hall x hx; omega
      have hp0 := ext_pos (gap := 0) (by omega) hA
      have ert : rd (ss ++ [t]) (m : Int) = t := by
        rw [rd_nat (by simp [hlen])]
        subst hlen
        simp
      have ee : ext 0 (ss ++ [t]) = ext 0 ss + t := by rw [ext_append]; simp [ext]
      rw [if_pos (by omega), if_pos (by simp [hlen]; omega), ert, w64 (n := ext 0 ss + t) (by omega) (by omega), w_nat1 (by omega), ← ee]
      exact hnext
    · have h := fin m ss hm hlen hall (k + 1) (by omega)
      simp only [pLaws.l1]
      rw [if_pos (by omega), if_pos (by omega), rd_T l i hi, if_neg (by omega)]
      exact h
end
theorem loop (l : List S27) : ∀ (d i : Nat), 12 - i = d → i ≤ l.length → i ≤ 12 → ∃ K, ∀ k, K ≤ k → pLaws.l0 k l (i : Int) = some true := by
  intro d
  have fin : ∀ (i : Nat), ¬ (i < l.length ∧ i < 12) → ∃ K, ∀ k, K ≤ k → pLaws.l0 k l (i : Int) = some true := by
    refine fun i hi => ⟨100, fun k hk => ?_⟩
    obtain ⟨k, rfl⟩ : ∃ m, k = m + 2 := ⟨k - 2, by omega⟩
    have hc : arrasref1_Coord.f 1 = some true := rfl
    simp only [pLaws.l0]
    by_cases c : (i : Int) < (l.length : Int)
    · rw [if_pos c, decide_eq_false (by omega)]
      simp only [pLaws.j1, Bool.false_eq_true, if_false, hc, Option.bind_some, if_true]
      rw [pwakes k (by omega)]
      rfl
    · rw [if_neg c]
      simp only [pLaws.j1, Bool.false_eq_true, if_false, hc, Option.bind_some, if_true]
      rw [pwakes k (by omega)]
      rfl
  induction d with
  | zero => exact fun i hd hi h12 => fin i (by omega)
  | succ d ih =>
    intro i hd hi h12
    by_cases c : i < l.length
    · obtain ⟨K, hn⟩ := ih (i + 1) (by omega) (by omega) (by omega)
      rw [Int.natCast_add, Int.natCast_one] at hn
      refine ⟨K + 1100, fun k hk => ?_⟩
      obtain ⟨k, rfl⟩ : ∃ m, k = m + 2 := ⟨k - 2, by omega⟩
      have h := sizes l i (by omega) K hn c 20 0 [] (by omega) (by omega) (by omega) rfl (by simp) k (by omega)
      simp only [pLaws.l0]
      rw [if_pos (by omega), decide_eq_true (by omega)]
      simp only [pLaws.j1, if_true]
      exact h
    · exact fin i (by omega)
/-- The law, over numbers and lists. -/
theorem pure : Pure := fun l _ => by
  obtain ⟨K, hK⟩ := loop l 12 0 (by omega) (by omega) (by omega)
  exact ⟨K, hK K (Nat.le_refl _)⟩
end Go.Proofs.Yteecoblmjjmbhaa.TPlaceLaws
