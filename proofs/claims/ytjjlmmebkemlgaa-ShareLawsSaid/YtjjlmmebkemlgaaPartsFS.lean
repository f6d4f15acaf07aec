/- What parts keep: each is its whole part, or one more; who has one more has a rest; the order of rests. -/
import Derived.Test.YtjjlmmebkemlgaaRefSplitS
import Derived.Test.YtjjlmmebkemlgaaPSx0
namespace Go.Proofs.Ytjjlmmebkemlgaa.PS
open Go.RowKit Go.Proofs.YtjjlmmebkemlgaaW.PrintWords Go.Proofs.YtjjlmmebkemlgaaW.PrintLast Go.Proofs.YtjjlmmebkemlgaaW.PrintMore

/-- One more for each that is among the picked. -/
def got (T : List S66) (i : Nat) : Int := if ∃ p ∈ T, p.f1 = (i : Int) then 1 else 0
theorem got_01 (T : List S66) (i : Nat) : got T i = 0 ∨ got T i = 1 := by
  unfold got
  split
  · exact Or.inr rfl
  · exact Or.inl rfl
theorem incs_rd : ∀ (T : List S66) (l : List Int) (i : Nat), (∀ p ∈ T, 0 ≤ p.f1 ∧ p.f1 < (l.length : Int)) → (T.Pairwise fun a b => a.f1 ≠ b.f1) → (∀ x ∈ l, -1152921504606846976 ≤ x ∧ x ≤ 1152921504606846976) → i < l.length → rd (incs l T) i = rd l i + got T i
  | [], l, i, _, _, _, _ => by simp [incs, got]
  | p :: T, l, i, h, hd, hb, hi => by
    have hp := h p (by simp)
    obtain ⟨d1, d2⟩ := List.pairwise_cons.1 hd
    have hv : -1152921504606846976 ≤ rd l p.f1 ∧ rd l p.f1 ≤ 1152921504606846976 := by
      rw [rd_at hp.1 hp.2]
      exact hb _ (List.getElem_mem _)
    simp only [incs]
    -- one step at p, then the others, which are not at p
    have gen : ∀ (T : List S66) (l : List Int), (∀ q ∈ T, 0 ≤ q.f1 ∧ q.f1 < (l.length : Int)) → (∀ q ∈ T, q.f1 ≠ (i : Int)) → i < l.length → rd (incs l T) i = rd l i := by
      intro T
      induction T with
      | nil => intro l _ _ _; rfl
      | cons q T ih =>
        intro l hq hn hl
        have hq0 := hq q (by simp)
        simp only [incs]
        rw [ih _ (fun r hr => by have := hq r (by simp [hr]); simpa using this) (fun r hr => hn r (by simp [hr])) (by simpa using hl), rd_set hq0.1 hq0.2 (by omega), if_neg (hn q (by simp))]
    by_cases c : p.f1 = (i : Int)
    · rw [gen T _ (fun q hq => by have := h q (by simp [hq]); simpa using this) (fun q hq e => d1 q hq (by omega)) (by simpa using hi), rd_set hp.1 hp.2 (by omega), if_pos c, w64' (by omega) (by omega), c]
      unfold got
      rw [if_pos ⟨p, by simp, c⟩]
    · have hne : ∀ x ∈ l.set p.f1.toNat (wrap64 (rd l p.f1 + 1)), -1152921504606846977 ≤ x ∧ x ≤ 1152921504606846977 := by
        intro x hx
        rcases List.mem_or_eq_of_mem_set hx with hx | rfl
        · have := hb x hx; omega
        · rw [w64' (by omega) (by omega)]; omega
      -- by the places one by one
      have go : ∀ (T : List S66) (l l' : List Int), l.length = l'.length → rd l i = rd l' i → (∀ q ∈ T, 0 ≤ q.f1 ∧ q.f1 < (l.length : Int)) → i < l.length → (T.Pairwise fun a b => a.f1 ≠ b.f1) → rd (incs l T) i = rd (incs l' T) i := by
        intro T
        induction T with
        | nil => intro l l' _ e _ _ _; exact e
        | cons q T ih =>
          intro l l' hl e hq hi2 hd2
          have hq0 := hq q (by simp)
          obtain ⟨e1, e2⟩ := List.pairwise_cons.1 hd2
          simp only [incs]
          by_cases cq : q.f1 = (i : Int)
          · have e3 : rd l q.f1 = rd l' q.f1 := by rw [cq]; exact e
            refine ih _ _ (by simpa using hl) ?_ (fun r hr => by have := hq r (by simp [hr]); simpa using this) (by simpa using hi2) e2
            rw [rd_set hq0.1 hq0.2 (by omega), rd_set hq0.1 (by omega) (by omega), if_pos cq, if_pos cq, e3]
          · refine ih _ _ (by simpa using hl) ?_ (fun r hr => by have := hq r (by simp [hr]); simpa using this) (by simpa using hi2) e2
            rw [rd_set hq0.1 hq0.2 (by omega), rd_set hq0.1 (by omega) (by omega), if_neg cq, if_neg cq, e]
      rw [go T _ l (by simp) (by rw [rd_set hp.1 hp.2 (by omega), if_neg c]) (fun q hq => by have := h q (by simp [hq]); simpa using this) (by simpa using hi) d2, incs_rd T l i (fun q hq => h q (by simp [hq])) d2 hb hi]
      have : got (p :: T) i = got T i := by
        unfold got
        by_cases g : ∃ q ∈ T, q.f1 = (i : Int)
        · obtain ⟨q, h1, h2⟩ := g
          rw [if_pos ⟨q, by simp [h1], h2⟩, if_pos ⟨q, h1, h2⟩]
        · rw [if_neg g, if_neg (fun ⟨q, h1, h2⟩ => by
            rcases List.mem_cons.1 h1 with rfl | h1
            · exact c h2
            · exact g ⟨q, h1, h2⟩)]
      rw [this]
theorem incs_sum : ∀ (T : List S66) (l : List Int), (∀ p ∈ T, 0 ≤ p.f1 ∧ p.f1 < (l.length : Int)) → (T.Pairwise fun a b => a.f1 ≠ b.f1) → (∀ x ∈ l, -1152921504606846976 ≤ x ∧ x ≤ 1152921504606846976) → sumI (incs l T) = sumI l + T.length := by
  have set_sum : ∀ (l : List Int) (i : Nat) (v : Int), i < l.length → sumI (l.set i v) = sumI l - rd l i + v := by
    intro l
    induction l with
    | nil => intro i v h; simp at h
    | cons x l ih =>
      intro i v h
      cases i with
      | zero => simp [sumI, rd]; omega
      | succ i =>
        have := ih i v (by simpa using h)
        simp only [List.set_cons_succ, sumI]
        rw [this]
        have e : rd (x :: l) ((i + 1 : Nat) : Int) = rd l (i : Int) := by
          unfold rd
          simp [List.getD_eq_getElem?_getD]
        rw [e]
        omega
  suffices H : ∀ (T : List S66) (l l0 : List Int), l.length = l0.length → (∀ p ∈ T, 0 ≤ p.f1 ∧ p.f1 < (l.length : Int)) → (T.Pairwise fun a b => a.f1 ≠ b.f1) → (∀ x ∈ l0, -1152921504606846976 ≤ x ∧ x ≤ 1152921504606846976) → (∀ p ∈ T, rd l p.f1 = rd l0 p.f1) → sumI (incs l T) = sumI l + T.length from
    fun T l h1 h2 h3 => H T l l rfl h1 h2 h3 (fun _ _ => rfl)
  intro T
  induction T with
  | nil => intro l l0 _ _ _ _ _; simp [incs]
  | cons p T ih =>
    intro l l0 hl h hd hb he
    have hp := h p (by simp)
    obtain ⟨d1, d2⟩ := List.pairwise_cons.1 hd
    have hv : -1152921504606846976 ≤ rd l0 p.f1 ∧ rd l0 p.f1 ≤ 1152921504606846976 := by
      rw [rd_at hp.1 (by omega)]
      exact hb _ (List.getElem_mem _)
    have hv2 := he p (by simp)
    simp only [incs]
    rw [ih (l.set p.f1.toNat (wrap64 (rd l p.f1 + 1))) l0 (by simpa using hl) (fun q hq => by have := h q (by simp [hq]); simpa using this) d2 hb (fun q hq => by
      have hq0 := h q (by simp [hq])
      rw [rd_set hp.1 hp.2 hq0.1, if_neg (d1 q hq)]
      exact he q (by simp [hq])), set_sum l p.f1.toNat _ (by omega), w64' (by omega) (by omega)]
    have e : ((p.f1.toNat : Nat) : Int) = p.f1 := by omega
    rw [e]
    simp only [List.length_cons]
    omega

/-- The parts. -/
def partsL (t : Int) (ws : List Int) (Q : List S66) : List Int := incs (qs t (sumI ws) ws) (Q.take (left t ws).toNat)
theorem isQ_nd {t : Int} {ws : List Int} {Q : List S66} (hQ : IsQ t ws Q) : Q.Pairwise fun a b => a.f1 ≠ b.f1 := by
  have hr : (rs t (sumI ws) 0 ws).Pairwise fun a b => a.f1 ≠ b.f1 := (rs_ris t (sumI ws) ws 0).imp (fun h => by omega)
  exact hQ.1.symm.pairwise hr (fun h => Ne.symm h)
theorem partsL_len (t : Int) (ws : List Int) (Q : List S66) : (partsL t ws Q).length = ws.length := by unfold partsL; rw [incs_len]; simp [qs]
theorem qs_bd {t : Int} {ws : List Int} (h : May t ws) : ∀ x ∈ qs t (sumI ws) ws, -1152921504606846976 ≤ x ∧ x ≤ 1152921504606846976 := by
  intro x hx
  obtain ⟨w, hw, rfl⟩ := List.mem_map.1 hx
  have := h.q_bd hw
  have := h.t1
  omega
theorem isQ_at {t : Int} {ws : List Int} {Q : List S66} (hQ : IsQ t ws Q) (n : Nat) : ∀ p ∈ Q.take n, 0 ≤ p.f1 ∧ p.f1 < ((qs t (sumI ws) ws).length : Int) := by
  intro p hp
  obtain ⟨j, w, hj, rfl⟩ := hQ.at_ (List.mem_of_mem_take hp)
  have := (List.getElem?_eq_some_iff.1 hj).1
  simp [qs]
  omega
theorem partsL_rd {t : Int} {ws : List Int} {Q : List S66} (h : May t ws) (hQ : IsQ t ws Q) {i : Nat} (hi : i < ws.length) : rd (partsL t ws Q) i = t * ws[i] / sumI ws + got (Q.take (left t ws).toNat) i := by
  unfold partsL
  rw [incs_rd _ _ i (isQ_at hQ _) ((isQ_nd hQ).sublist (List.take_sublist _ _)) (qs_bd h) (by simp [qs, hi])]
  rw [rd_nat (by simp [qs, hi])]
  simp [qs]
theorem partsL_sum {t : Int} {ws : List Int} {Q : List S66} (h : May t ws) (hQ : IsQ t ws Q) : sumI (partsL t ws Q) = t := by
  unfold partsL
  have hl := left_bd h
  have hlen : Q.length = ws.length := by rw [hQ.1.length_eq, rs_len]
  rw [incs_sum _ _ (isQ_at hQ _) ((isQ_nd hQ).sublist (List.take_sublist _ _)) (qs_bd h), List.length_take]
  unfold left at *
  omega
/-- Who is picked has a rest. -/
theorem picked_pos {t : Int} {ws : List Int} {Q : List S66} (h : May t ws) (hQ : IsQ t ws Q) : ∀ p ∈ Q.take (left t ws).toNat, 0 < p.f0 := by
  have hl := left_bd h
  have hlen : Q.length = ws.length := by rw [hQ.1.length_eq, rs_len]
  have hf : ∀ p ∈ Q, 0 ≤ p.f0 ∧ p.f0 < sumI ws := fun p hp => rs_f0 h (hQ.1.mem_iff.1 hp)
  intro p hp
  apply Classical.byContradiction
  intro hn
  obtain ⟨j, hj, rfl⟩ := List.mem_iff_getElem.1 hp
  rw [List.getElem_take] at hn
  have hj' : j < Q.length := by simp at hj; omega
  -- all from j on are 0
  have hz : ∀ q ∈ Q.drop j, q.f0 = 0 := by
    intro q hq
    obtain ⟨m, hm, rfl⟩ := List.mem_iff_getElem.1 hq
    rw [List.getElem_drop]
    have hjm : j + m < Q.length := by simp at hm; omega
    have hq0 := hf Q[j + m] (List.getElem_mem hjm)
    by_cases c : m = 0
    · subst c; simp only [Nat.add_zero] at hq0 ⊢; omega
    · have := List.pairwise_iff_getElem.1 hQ.2 j (j + m) hj' (by simp at hm; omega) (by omega)
      have := srt_f0 this
      omega
  have hsum : sumI (Q.map (·.f0)) = sumI ((Q.take j).map (·.f0)) := by
    have z : ∀ l : List S66, (∀ q ∈ l, q.f0 = 0) → sumI (l.map (·.f0)) = 0 := by
      intro l
      induction l with
      | nil => intro _; rfl
      | cons q l ih =>
        intro hq
        simp only [List.map_cons, sumI]
        rw [ih (fun r hr => hq r (by simp [hr])), hq q (by simp)]
        rfl
    have e : Q = Q.take j ++ Q.drop j := (List.take_append_drop _ _).symm
    rw [e, List.map_append, sumI_app, z _ hz]
    simp
  have e := left_mul t ws
  rw [← sum_perm hQ.1, hsum] at e
  have ub := sum_ub (sumI ws) (Q.take j) (fun p hp => (hf p (List.mem_of_mem_take hp)).2)
  rw [← e] at ub
  have hlt : (Q.take j).length = j := by simp; omega
  rw [hlt] at ub
  have := (lt_of_mul h.pos ub (by omega)).1
  simp at hj
  omega
/-- Who comes first is picked, if a later one is. -/
theorem got_mono {t : Int} {ws : List Int} {Q : List S66} (hQ : IsQ t ws Q) {i j : Nat} (hi : i < ws.length) (hj : j < ws.length) (n : Nat) (hl : lt ⟨t * ws[i] % sumI ws, (i : Int)⟩ ⟨t * ws[j] % sumI ws, (j : Int)⟩) : got (Q.take n) j ≤ got (Q.take n) i := by
  rcases got_01 (Q.take n) j with e | e
  · rw [e]; rcases got_01 (Q.take n) i with e | e <;> omega
  · have hex : ∃ p ∈ Q.take n, p.f1 = (j : Int) := by
      apply Classical.byContradiction
      intro hne
      unfold got at e
      rw [if_neg hne] at e
      omega
    obtain ⟨p, hp, hpj⟩ := hex
    obtain ⟨j', w, hw, rfl⟩ := hQ.at_ (List.mem_of_mem_take hp)
    obtain rfl : j' = j := by simp at hpj; omega
    obtain rfl : ws[j'] = w := (List.getElem?_eq_some_iff.1 hw).2
    have hm : (⟨t * ws[i] % sumI ws, (i : Int)⟩ : S66) ∈ Q := hQ.1.mem_iff.2 ((rs_mem _ _ _ _ _).2 ⟨i, ws[i], by simp, by simp⟩)
    have hin : (⟨t * ws[i] % sumI ws, (i : Int)⟩ : S66) ∈ Q.take n := by
      apply Classical.byContradiction
      intro hne
      have e2 : Q = Q.take n ++ Q.drop n := (List.take_append_drop _ _).symm
      have hd : (⟨t * ws[i] % sumI ws, (i : Int)⟩ : S66) ∈ Q.drop n := by
        rw [e2] at hm
        rcases List.mem_append.1 hm with hm | hm
        · exact absurd hm hne
        · exact hm
      have hs := hQ.2
      unfold Srt at hs
      rw [e2] at hs
      have := (List.pairwise_append.1 hs).2.2 _ hp _ hd
      unfold lt at this hl
      simp only at this hl
      omega
    have hgi : got (Q.take n) i = 1 := by
      unfold got
      rw [if_pos ⟨_, hin, rfl⟩]
    rw [hgi, e]
    exact Int.le_refl _
end Go.Proofs.Ytjjlmmebkemlgaa.PS
