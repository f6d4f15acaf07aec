/- What the printed reference's Split and MaySplit come to: the same as share.Parts. -/
import Derived.Test.YtjjlmmebkemlgaaPartsS
import Derived.Test.YtjjlmmebkemlgaaPSx0
import Derived.Test.YtjjlmmebkemlgaaPSx6
import Derived.Test.YtjjlmmebkemlgaaPSx7
import Derived.Test.YtjjlmmebkemlgaaPSx8
namespace Go.Proofs.Ytjjlmmebkemlgaa.PS
open Go.RowKit Go.Proofs.YtjjlmmebkemlgaaW.PrintWords Go.Proofs.YtjjlmmebkemlgaaW.PrintLast Go.Proofs.YtjjlmmebkemlgaaW.PrintMore

theorem rd_set {l : List Int} {i j : Int} {v : Int} (hi : 0 ≤ i) (hi' : i < (l.length : Int)) (hj : 0 ≤ j) : rd (l.set i.toNat v) j = if i = j then v else rd l j := by
  unfold rd
  simp only [List.getD_eq_getElem?_getD, List.getElem?_set]
  by_cases c : i = j
  · subst c
    rw [if_pos rfl, if_pos rfl, if_pos (by omega)]
    rfl
  · rw [if_neg c, if_neg (by omega)]

/-- The first one of the greatest. -/
def Best (R : List Int) (b : Nat) : Prop := b < R.length ∧ ∀ i : Nat, i < R.length → i ≠ b → rd R i < rd R b ∨ (rd R i = rd R b ∧ b < i)
theorem best_l3 (l R : List Int) (x9 : Int) (b : Nat) (hb : Best R b) (hbl : b < l.length) (hR : R.length ≤ 4294967296) (r : List Int) (K : Nat) (hK : ∀ k, K ≤ k → arrasref1_Split.l2 k (l.set b (wrap64 (rd l b + 1))) (R.set b (-1)) (wrap64 (x9 - 1)) = some r) :
    ∀ (d i c : Nat), R.length - i = d → i ≤ R.length → c < i → (b < i → c = b) → ∀ k, K + d + 1 ≤ k → arrasref1_Split.l3 k l R x9 (c : Int) (i : Int) = some r := by
  intro d
  induction d with
  | zero =>
    intro i c hd hi hc h k hk
    obtain ⟨k, rfl⟩ : ∃ m, k = m + 1 := ⟨k - 1, by omega⟩
    obtain rfl := h (by have := hb.1; omega)
    simp only [arrasref1_Split.l3]
    rw [if_neg (by omega), if_pos (by omega), if_pos (by have := hb.1; omega), if_pos (by omega)]
    exact hK k (by omega)
  | succ d ih =>
    intro i c hd hi hc h k hk
    obtain ⟨k, rfl⟩ : ∃ m, k = m + 1 := ⟨k - 1, by omega⟩
    have hlt : i < R.length := by omega
    simp only [arrasref1_Split.l3]
    rw [if_pos (by omega), if_pos (by omega), if_pos (by omega), if_pos (by omega), w_nat1 (by omega)]
    by_cases cc : rd R (i : Int) > rd R (c : Int)
    · rw [if_pos cc]
      refine ih (i + 1) i (by omega) (by omega) (by omega) (fun hbi => ?_) k (by omega)
      by_cases e : i = b
      · exact e
      · exfalso
        have hcb := h (by omega)
        subst hcb
        have := hb.2 i hlt e
        omega
    · rw [if_neg cc]
      refine ih (i + 1) c (by omega) (by omega) (by omega) (fun hbi => ?_) k (by omega)
      by_cases e : i = b
      · exfalso
        subst e
        have := hb.2 c (by omega) (by omega)
        omega
      · exact h (by omega)

/-- The rests as the picks go: those that were picked are -1. -/
structure Inv (n : Nat) (R : List Int) (T1 T2 : List S66) : Prop where
  len : R.length = n
  at2 : ∀ p ∈ T2, 0 ≤ p.f1 ∧ p.f1 < (n : Int) ∧ rd R p.f1 = p.f0 ∧ 0 ≤ p.f0
  at1 : ∀ p ∈ T1, rd R p.f1 = -1
  all : ∀ i : Nat, i < n → ∃ p ∈ T1 ++ T2, p.f1 = (i : Int)
  srt : Srt T2
  nd : (T1 ++ T2).Pairwise fun a b => a.f1 ≠ b.f1
theorem Inv.best {n : Nat} {R : List Int} {T1 T2 : List S66} {p : S66} (h : Inv n R T1 (p :: T2)) : Best R p.f1.toNat := by
  have hp := h.at2 p (by simp)
  have hlen := h.len
  refine ⟨by omega, fun i hi hne => ?_⟩
  have e : ((p.f1.toNat : Nat) : Int) = p.f1 := by omega
  rw [e, hp.2.2.1]
  obtain ⟨q, hq, hqi⟩ := h.all i (by omega)
  rw [← hqi]
  rcases List.mem_append.1 hq with hq | hq
  · left
    rw [h.at1 q hq]
    omega
  · rcases List.mem_cons.1 hq with rfl | hq
    · exfalso; omega
    · have hl := (List.pairwise_cons.1 h.srt).1 q hq
      rw [(h.at2 q (by simp [hq])).2.2.1]
      unfold lt at hl
      omega
theorem Inv.next {n : Nat} {R : List Int} {T1 T2 : List S66} {p : S66} (h : Inv n R T1 (p :: T2)) : Inv n (R.set p.f1.toNat (-1)) (T1 ++ [p]) T2 := by
  have hp := h.at2 p (by simp)
  have hlen := h.len
  obtain ⟨n1, n2, n3⟩ := List.pairwise_append.1 h.nd
  have n4 := List.pairwise_cons.1 n2
  refine ⟨by simp [hlen], fun q hq => ?_, fun q hq => ?_, fun i hi => ?_, (List.pairwise_cons.1 h.srt).2, by simpa using h.nd⟩
  · have hq' := h.at2 q (by simp [hq])
    refine ⟨hq'.1, hq'.2.1, ?_, hq'.2.2.2⟩
    rw [rd_set hp.1 (by omega) hq'.1, if_neg (n4.1 q hq)]
    exact hq'.2.2.1
  · rcases List.mem_append.1 hq with hq | hq
    · have hne : q.f1 ≠ p.f1 := n3 q hq p (by simp)
      by_cases c : 0 ≤ q.f1
      · rw [rd_set hp.1 (by omega) c, if_neg (fun e => hne e.symm)]
        exact h.at1 q hq
      · have h1 := h.at1 q hq
        unfold rd at h1 ⊢
        simp only [List.getD_eq_getElem?_getD, List.getElem?_set] at h1 ⊢
        by_cases c2 : p.f1.toNat = q.f1.toNat
        · rw [if_pos c2, if_pos (by omega)]; rfl
        · rw [if_neg c2]; exact h1
    · rw [List.mem_singleton.1 hq, rd_set hp.1 (by omega) hp.1, if_pos rfl]
  · obtain ⟨q, hq, e⟩ := h.all i hi
    exact ⟨q, by simpa using hq, e⟩
theorem ref_l2 {n : Nat} (hn : n ≤ 4294967296) : ∀ (m : Nat) (T1 T2 : List S66) (R l : List Int), Inv n R T1 T2 → l.length = n → m ≤ T2.length → m ≤ n → ∃ K, ∀ k, K ≤ k → arrasref1_Split.l2 k l R (m : Int) = some (incs l (T2.take m)) := by
  intro m
  induction m with
  | zero =>
    intro T1 T2 R l h hl hm _
    refine ⟨1, fun k hk => ?_⟩
    obtain ⟨k, rfl⟩ : ∃ m, k = m + 1 := ⟨k - 1, by omega⟩
    simp only [arrasref1_Split.l2]
    rw [if_neg (by omega)]
    rfl
  | succ m ih =>
    intro T1 T2 R l h hl hm hmn
    cases T2 with
    | nil => simp at hm
    | cons p T2 =>
      have hp := h.at2 p (by simp)
      have hlen := h.len
      obtain ⟨K, hK⟩ := ih (T1 ++ [p]) T2 (R.set p.f1.toNat (-1)) (l.set p.f1.toNat (wrap64 (rd l p.f1 + 1))) h.next (by simp [hl]) (by simpa using hm) (by omega)
      refine ⟨K + n + 3, fun k hk => ?_⟩
      obtain ⟨k, rfl⟩ : ∃ m, k = m + 1 := ⟨k - 1, by omega⟩
      simp only [arrasref1_Split.l2]
      rw [if_pos (by omega)]
      have e : ((p.f1.toNat : Nat) : Int) = p.f1 := by omega
      have := best_l3 l R ((m + 1 : Nat) : Int) p.f1.toNat h.best (by omega) (by omega) (incs l ((p :: T2).take (m + 1))) K (fun k hk => by
        rw [e, w64' (n := ((m + 1 : Nat) : Int) - 1) (by omega) (by omega)]
        have e2 : ((m + 1 : Nat) : Int) - 1 = (m : Int) := by omega
        rw [e2, hK k hk]
        rfl) (n - 1) 1 0 (by omega) (by omega) (by omega) (fun h0 => by omega) k (by omega)
      exact this

theorem ref_l1 {t : Int} {ws : List Int} (h : May t ws) (r : List Int) (K : Nat) (hK : ∀ k, K ≤ k → arrasref1_Split.l2 k (qs t (sumI ws) ws) ((rs t (sumI ws) 0 ws).map (·.f0)) (left t ws) = some r) : ∀ (rest done : List Int), ws = done ++ rest → ∀ k, K + rest.length + 1 ≤ k →
    arrasref1_Split.l1 k t ws (sumI ws) (qs t (sumI ws) done) ((rs t (sumI ws) 0 done).map (·.f0)) (t - sumI (qs t (sumI ws) done)) (done.length : Int) = some r
  | [], done, e, k, hk => by
    obtain ⟨k, rfl⟩ : ∃ m, k = m + 1 := ⟨k - 1, by omega⟩
    have e' : done = ws := by rw [e]; simp
    subst e'
    simp only [arrasref1_Split.l1]
    rw [if_neg (by omega)]
    exact hK k (by simp at hk; omega)
  | w :: rest, done, e, k, hk => by
    obtain ⟨k, rfl⟩ : ∃ m, k = m + 1 := ⟨k - 1, by omega⟩
    simp only [List.length_cons] at hk
    have hlen : ws.length = done.length + (rest.length + 1) := by rw [e]; simp
    have hw : w ∈ ws := by rw [e]; simp
    have h256 := h.len
    have hx : rd ws (done.length : Int) = w := by rw [rd_nat (by omega)]; simp [e]
    have hm := h.mul hw
    have hq := h.q_bd hw
    have hp := h.pos
    have hs := qs_sum_bd h done (fun y hy => by rw [e]; simp [hy])
    have ht := h.t1
    have ht0 := h.t0
    have e1 : Int.tdiv (t * w) (sumI ws) = t * w / sumI ws := Int.tdiv_eq_ediv_of_nonneg hm.1
    have e2 : Int.tmod (t * w) (sumI ws) = t * w % sumI ws := Int.tmod_eq_emod_of_nonneg hm.1
    have hql : (qs t (sumI ws) done).length = done.length := by simp [qs]
    simp only [arrasref1_Split.l1]
    rw [if_pos (by omega), if_pos (by omega), if_neg (by omega), if_pos (by omega), hx]
    simp only [Option.bind_some]
    rw [w64' (n := t * w) (by omega) (by omega), e1, e2, w64' (n := t * w / sumI ws) (by omega) (by omega)]
    rw [if_pos (by simp [rs_len]; omega), if_pos (by simp [hql]; omega)]
    have er : rd (qs t (sumI ws) done ++ [t * w / sumI ws]) (done.length : Int) = t * w / sumI ws := by
      rw [rd_nat (by simp [hql])]
      rw [List.getElem_append_right (by omega)]
      simp [hql]
    rw [er, w64' (n := (done.length : Int) + 1) (by omega) (by omega), w64' (n := t - sumI (qs t (sumI ws) done) - t * w / sumI ws) (by omega) (by omega)]
    have ih := ref_l1 h r K hK rest (done ++ [w]) (by simp [e]) k (by omega)
    have a1 : sumI (qs t (sumI ws) (done ++ [w])) = sumI (qs t (sumI ws) done) + t * w / sumI ws := by simp [qs, sumI_app, sumI]
    have a2 : qs t (sumI ws) (done ++ [w]) = qs t (sumI ws) done ++ [t * w / sumI ws] := by simp [qs]
    have a3 : (rs t (sumI ws) 0 (done ++ [w])).map (·.f0) = (rs t (sumI ws) 0 done).map (·.f0) ++ [t * w % sumI ws] := by rw [rs_app]; simp [rs]
    have a4 : ((done ++ [w]).length : Int) = (done.length : Int) + 1 := by simp
    have a5 : t - (sumI (qs t (sumI ws) done) + t * w / sumI ws) = t - sumI (qs t (sumI ws) done) - t * w / sumI ws := by omega
    rw [a1, a2, a3, a4, a5] at ih
    exact ih
theorem ref_l0 (t : Int) (ws : List Int) (hl : ws.length ≤ 256) (ho : OkW ws) (r : List Int) (K : Nat) (hK : ∀ k, K ≤ k → arrasref1_Split.l1 k t ws (sumI ws) ([] : List Int) ([] : List Int) t 0 = some r) : ∀ (rest done : List Int), ws = done ++ rest → ∀ k, K + rest.length + 1 ≤ k → arrasref1_Split.l0 k t ws (sumI done) (done.length : Int) = some r
  | [], done, e, k, hk => by
    obtain ⟨k, rfl⟩ : ∃ m, k = m + 1 := ⟨k - 1, by omega⟩
    have e' : done = ws := by rw [e]; simp
    subst e'
    simp only [arrasref1_Split.l0]
    rw [if_neg (by omega)]
    exact hK k (by simp at hk; omega)
  | w :: rest, done, e, k, hk => by
    obtain ⟨k, rfl⟩ : ∃ m, k = m + 1 := ⟨k - 1, by omega⟩
    simp only [List.length_cons] at hk
    have hlen : ws.length = done.length + (rest.length + 1) := by rw [e]; simp
    have hx : rd ws (done.length : Int) = w := by rw [rd_nat (by omega)]; simp [e]
    have hw := ho w (by rw [e]; simp)
    have hb := OkW.sum_bd (l := done) (fun y hy => ho y (by rw [e]; simp [hy]))
    simp only [arrasref1_Split.l0]
    rw [if_pos (by omega), if_pos (by omega), hx, w64' (n := (done.length : Int) + 1) (by omega) (by omega), w64' (n := sumI done + w) (by omega) (by omega)]
    have ih := ref_l0 t ws hl ho r K hK rest (done ++ [w]) (by simp [e]) k (by omega)
    have a1 : sumI (done ++ [w]) = sumI done + w := by simp [sumI_app, sumI]
    have a4 : ((done ++ [w]).length : Int) = (done.length : Int) + 1 := by simp
    rw [a1, a4] at ih
    exact ih
theorem isQ_inv {t : Int} {ws : List Int} (h : May t ws) {Q : List S66} (hQ : IsQ t ws Q) : Inv ws.length ((rs t (sumI ws) 0 ws).map (·.f0)) [] Q := by
  refine ⟨by simp [rs_len], fun p hp => ?_, by simp, fun i hi => ?_, hQ.2, ?_⟩
  · obtain ⟨j, w, hj, rfl⟩ := hQ.at_ hp
    have hlt := (List.getElem?_eq_some_iff.1 hj).1
    refine ⟨by show 0 ≤ (j : Int); omega, by show (j : Int) < _; omega, ?_, Int.emod_nonneg _ (by have := h.pos; omega)⟩
    show rd _ (j : Int) = t * w % sumI ws
    rw [rd_nat (by simp [rs_len, hlt])]
    have : ∀ (l : List Int) (i : Int) (j : Nat), l[j]? = some w → ((rs t (sumI ws) i l).map (·.f0))[j]? = some (t * w % sumI ws) := by
      intro l
      induction l with
      | nil => intro i j h; simp at h
      | cons x l ih =>
        intro i j h
        cases j with
        | zero => simp at h; subst h; simp [rs]
        | succ j => simpa [rs] using ih (i + 1) j (by simpa using h)
    have := this ws 0 j hj
    exact (List.getElem?_eq_some_iff.1 this).2
  · have : (⟨t * ws[i] % sumI ws, (i : Int)⟩ : S66) ∈ rs t (sumI ws) 0 ws := (rs_mem _ _ _ _ _).2 ⟨i, ws[i], by simp, by simp⟩
    exact ⟨_, by simpa using hQ.1.mem_iff.2 this, rfl⟩
  · have hr : (rs t (sumI ws) 0 ws).Pairwise fun a b => a.f1 ≠ b.f1 := (rs_ris t (sumI ws) ws 0).imp (fun h => by omega)
    simpa using (hQ.1.symm.pairwise hr (fun h => Ne.symm h))
theorem refSplit_eq {t : Int} {ws : List Int} (h : May t ws) {Q : List S66} (hQ : IsQ t ws Q) : ∃ K, ∀ k, K ≤ k → arrasref1_Split.f k t ws = some (incs (qs t (sumI ws) ws) (Q.take (left t ws).toNat)) := by
  have hl := left_bd h
  have h256 := h.len
  have hlen : Q.length = ws.length := by rw [hQ.1.length_eq, rs_len]
  obtain ⟨K, hK⟩ := ref_l2 (n := ws.length) (by omega) (left t ws).toNat [] Q _ (qs t (sumI ws) ws) (isQ_inv h hQ) (by simp [qs]) (by omega) (by omega)
  have e : ((left t ws).toNat : Int) = left t ws := by omega
  rw [e] at hK
  refine ⟨K + ws.length + 1 + ws.length + 1, fun k hk => ?_⟩
  have := ref_l0 t ws h.len h.ok _ (K + ws.length + 1) (fun k hk => by
    have := ref_l1 h _ K hK ws [] rfl k hk
    simpa [qs, rs, sumI] using this) ws [] rfl k (by omega)
  exact this

theorem num_eq (a b : Int) : arrasref0_Num.f a b = some (decide (0 ≤ a ∧ a ≤ b)) := by
  unfold arrasref0_Num.f
  by_cases c : a ≥ 0
  · rw [if_pos c]
    by_cases c2 : a ≤ b
    · simp [c2, c]
    · simp [c2]
  · rw [if_neg c]
    have : ¬ (0 ≤ a ∧ a ≤ b) := by omega
    simp [this]
theorem may_l0 (ws : List Int) (hl : ws.length ≤ 256) : ∀ (rest done : List Int), ws = done ++ rest → OkW done → ∀ k, rest.length + 1 ≤ k → arrasref1_MaySplit.l0 k ws (sumI done) (done.length : Int) = some (decide (OkW rest ∧ 0 < sumI ws))
  | [], done, e, hd, k, hk => by
    obtain ⟨k, rfl⟩ : ∃ m, k = m + 1 := ⟨k - 1, by omega⟩
    have e' : done = ws := by rw [e]; simp
    subst e'
    simp only [arrasref1_MaySplit.l0]
    rw [if_neg (by omega)]
    have : OkW [] := by simp [OkW]
    simp [this]
  | w :: rest, done, e, hd, k, hk => by
    obtain ⟨k, rfl⟩ : ∃ m, k = m + 1 := ⟨k - 1, by omega⟩
    simp only [List.length_cons] at hk
    have hlen : ws.length = done.length + (rest.length + 1) := by rw [e]; simp
    have hx : rd ws (done.length : Int) = w := by rw [rd_nat (by omega)]; simp [e]
    have hb := hd.sum_bd
    simp only [arrasref1_MaySplit.l0]
    rw [if_pos (by omega), if_pos (by omega), hx, num_eq]
    simp only [Option.bind_some]
    by_cases c : 0 ≤ w ∧ w ≤ 1048576
    · rw [if_pos (by simpa using c), w64' (n := (done.length : Int) + 1) (by omega) (by omega), w64' (n := sumI done + w) (by omega) (by omega)]
      have ih := may_l0 ws hl rest (done ++ [w]) (by simp [e]) (fun y hy => by
        rcases List.mem_append.1 hy with hy | hy
        · exact hd y hy
        · rw [List.mem_singleton.1 hy]; exact c) k (by omega)
      have a1 : sumI (done ++ [w]) = sumI done + w := by simp [sumI_app, sumI]
      have a4 : ((done ++ [w]).length : Int) = (done.length : Int) + 1 := by simp
      rw [a1, a4] at ih
      rw [ih]
      have e3 : OkW (w :: rest) ↔ OkW rest := ⟨fun h y hy => h y (by simp [hy]), fun h y hy => by
        rcases List.mem_cons.1 hy with rfl | hy
        · exact c
        · exact h y hy⟩
      congr 1
      exact decide_eq_decide.2 (and_congr_left' e3.symm)
    · rw [if_neg (by simpa using c)]
      have : ¬ OkW (w :: rest) := fun h => c (h w (by simp))
      simp [this]
theorem may_iff (t : Int) (ws : List Int) : May t ws ↔ 0 ≤ t ∧ t ≤ 1099511627776 ∧ ws.length ≤ 256 ∧ OkW ws ∧ 0 < sumI ws := ⟨fun h => ⟨h.t0, h.t1, h.len, h.ok, h.pos⟩, fun ⟨a, b, c, d, e⟩ => ⟨a, b, c, d, e⟩⟩
theorem may_no (k : Nat) (hk : 1 ≤ k) (ws : List Int) : arrasref1_MaySplit.j0 k ws true = some false := by
  obtain ⟨k, rfl⟩ : ∃ m, k = m + 1 := ⟨k - 1, by omega⟩
  simp [arrasref1_MaySplit.j0]
theorem maySplit_eq (t : Int) (ws : List Int) {k : Nat} (hk : ws.length + 2 ≤ k) : ∃ b : Bool, (b = true ↔ May t ws) ∧ arrasref1_MaySplit.f k t ws = some b := by
  simp only [arrasref1_MaySplit.f, arrasref1_Size.f, num_eq, Option.bind_some]
  by_cases c1 : 0 ≤ t ∧ t ≤ 1099511627776
  · rw [if_pos (by simpa using c1)]
    by_cases c2 : (ws.length : Int) < 1
    · rw [if_pos c2, may_no k (by omega)]
      refine ⟨false, ⟨fun h => by simp at h, fun h => ?_⟩, rfl⟩
      exfalso
      obtain rfl : ws = [] := List.length_eq_zero_iff.1 (by omega)
      have := h.pos
      simp [sumI] at this
    · rw [if_neg c2]
      by_cases c3 : (ws.length : Int) > 256
      · rw [decide_eq_true c3, may_no k (by omega)]
        exact ⟨false, ⟨fun h => by simp at h, fun h => by have := h.len; omega⟩, rfl⟩
      · rw [decide_eq_false c3]
        obtain ⟨k, rfl⟩ : ∃ m, k = m + 1 := ⟨k - 1, by omega⟩
        simp only [arrasref1_MaySplit.j0]
        rw [if_neg (by simp)]
        have := may_l0 ws (by omega) ws [] rfl (by simp [OkW]) k (by omega)
        simp only [sumI, List.length_nil, Int.natCast_zero] at this
        rw [this]
        refine ⟨_, ?_, rfl⟩
        rw [may_iff, decide_eq_true_iff]
        constructor
        · rintro ⟨a, b⟩; exact ⟨c1.1, c1.2, by omega, a, b⟩
        · rintro ⟨_, _, _, a, b⟩; exact ⟨a, b⟩
  · rw [if_neg (by simpa using c1), may_no k (by omega)]
    exact ⟨false, ⟨fun h => by simp at h, fun h => absurd ⟨h.t0, h.t1⟩ c1⟩, rfl⟩
theorem swakes : ∀ k, 60 ≤ k → arraslaw2_wakes.f k = some true := fun k hk => at_rounds arraslaw2_wakes.mono hk (by kernel_rfl)
end Go.Proofs.Ytjjlmmebkemlgaa.PS
