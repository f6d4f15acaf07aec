/- The pure statement of ShareLaws: parts are the total together; a greater weight has no lesser part; nobody is a unit off; a weight of 0 has none. -/
import Derived.Test.YtjjlmmebkemlgaaTellShareLaws
import Derived.Test.YtjjlmmebkemlgaaPartsFS
namespace Go.Proofs.Ytjjlmmebkemlgaa.TShareLaws
open Go.RowKit Go.Proofs.YtjjlmmebkemlgaaW.PrintWords Go.Proofs.Ytjjlmmebkemlgaa.PS

theorem rd_T (l : List S25) (i : Nat) (h : i < l.length) : rd_T25 l (i : Int) = l[i] := by simp [rd_T25, List.getD_eq_getElem?_getD, h]
/-- What the law asks of the parts x of weights w, two by two and each. -/
structure Good (t : Int) (W x : List Int) : Prop where
  len : x.length = W.length
  nn : ∀ i : Nat, i < W.length → 0 ≤ rd x i ∧ rd x i ≤ 1099511627777
  sum : sumI x = t
  off : ∀ i : Nat, i < W.length → -sumI W < rd x i * sumI W - t * rd W i ∧ rd x i * sumI W - t * rd W i < sumI W
  z : ∀ i : Nat, i < W.length → rd W i = 0 → rd x i = 0
  ge : ∀ i j : Nat, i < j → j < W.length → rd W j ≤ rd W i → rd x j ≤ rd x i
  le : ∀ i j : Nat, i < j → j < W.length → rd W i < rd W j → rd x i ≤ rd x j
  eq : ∀ i j : Nat, i < j → j < W.length → rd W i = rd W j → rd x i ≤ rd x j + 1
theorem left_zero (ws : List Int) : left 0 ws = 0 := by
  unfold left
  have : ∀ (l : List Int) (s : Int), sumI (qs 0 s l) = 0 := by
    intro l s
    induction l with
    | nil => rfl
    | cons w l ih =>
      simp only [qs, List.map_cons, sumI] at ih ⊢
      rw [ih]
      simp
  rw [this]
  rfl
theorem good {t : Int} {W : List Int} {Q : List S66} (h : May t W) (hQ : IsQ t W Q) : Good t W (partsL t W Q) := by
  have hp := h.pos
  have ht := h.t0
  have key : ∀ i : Nat, (hi : i < W.length) → rd (partsL t W Q) i = t * W[i] / sumI W + got (Q.take (left t W).toNat) i ∧ (got (Q.take (left t W).toNat) i = 0 ∨ got (Q.take (left t W).toNat) i = 1) ∧ t * W[i] = sumI W * (t * W[i] / sumI W) + t * W[i] % sumI W ∧ 0 ≤ t * W[i] % sumI W ∧ t * W[i] % sumI W < sumI W ∧ 0 ≤ t * W[i] / sumI W ∧ t * W[i] / sumI W ≤ t := by
    intro i hi
    have q := h.q_bd (List.getElem_mem hi)
    exact ⟨partsL_rd h hQ hi, got_01 _ _, (Int.mul_ediv_add_emod _ _).symm, Int.emod_nonneg _ (by omega), Int.emod_lt_of_pos _ hp, q.1, q.2⟩
  have pos : ∀ i : Nat, (hi : i < W.length) → got (Q.take (left t W).toNat) i = 1 → 0 < t * W[i] % sumI W := by
    intro i hi e
    have hex : ∃ p ∈ Q.take (left t W).toNat, p.f1 = (i : Int) := by
      apply Classical.byContradiction
      intro hne
      unfold got at e
      rw [if_neg hne] at e
      omega
    obtain ⟨p, hp, hpi⟩ := hex
    have h0 := picked_pos h hQ p hp
    obtain ⟨j', w, hw, rfl⟩ := hQ.at_ (List.mem_of_mem_take hp)
    obtain rfl : j' = i := by simp at hpi; omega
    obtain rfl : W[j'] = w := (List.getElem?_eq_some_iff.1 hw).2
    exact h0
  refine ⟨partsL_len _ _ _, fun i hi => ?_, partsL_sum h hQ, fun i hi => ?_, fun i hi hz => ?_, fun i j hij hj hw => ?_, fun i j hij hj hw => ?_, fun i j hij hj hw => ?_⟩
  · obtain ⟨k1, k2, k3, k4, k5, k6, k7⟩ := key i hi
    have := h.t1
    omega
  · obtain ⟨k1, k2, k3, k4, k5, k6, k7⟩ := key i hi
    rw [k1, rd_nat hi, Int.add_mul, Int.mul_comm (t * W[i] / sumI W)]
    rcases k2 with k2 | k2
    · rw [k2]; omega
    · have := pos i hi k2
      rw [k2]; omega
  · obtain ⟨k1, k2, k3, k4, k5, k6, k7⟩ := key i hi
    rw [rd_nat hi] at hz
    rw [hz] at k1 k4
    rw [k1]
    rcases k2 with k2 | k2
    · rw [k2]; simp
    · have := pos i hi k2
      rw [hz] at this
      simp at this
  · have hi : i < W.length := by omega
    obtain ⟨k1, k2, k3, k4, k5, k6, k7⟩ := key i hi
    obtain ⟨m1, m2, m3, m4, m5, m6, m7⟩ := key j hj
    rw [rd_nat hi, rd_nat hj] at hw
    have hm : t * W[j] ≤ t * W[i] := Int.mul_le_mul_of_nonneg_left hw ht
    have hd : t * W[j] / sumI W ≤ t * W[i] / sumI W := Int.ediv_le_ediv hp hm
    rw [k1, m1]
    by_cases c : t * W[j] / sumI W = t * W[i] / sumI W
    · have hr : t * W[j] % sumI W ≤ t * W[i] % sumI W := by rw [c] at m3; omega
      have := got_mono hQ hi hj (left t W).toNat (by
        show lt _ _
        unfold lt
        simp only
        omega)
      omega
    · omega
  · have hi : i < W.length := by omega
    obtain ⟨k1, k2, k3, k4, k5, k6, k7⟩ := key i hi
    obtain ⟨m1, m2, m3, m4, m5, m6, m7⟩ := key j hj
    rw [rd_nat hi, rd_nat hj] at hw
    have hm : t * W[i] ≤ t * W[j] := Int.mul_le_mul_of_nonneg_left (by omega) ht
    have hd : t * W[i] / sumI W ≤ t * W[j] / sumI W := Int.ediv_le_ediv hp hm
    by_cases c : t * W[i] / sumI W = t * W[j] / sumI W
    · by_cases c2 : t = 0
      · subst c2
        have : ∀ i, got (Q.take (left 0 W).toNat) i = 0 := by
          intro i
          rw [left_zero]
          simp [got]
        rw [k1, m1, this, this]
        omega
      · have hlt : t * W[i] < t * W[j] := Int.mul_lt_mul_of_pos_left hw (by omega)
        have hr : t * W[i] % sumI W < t * W[j] % sumI W := by rw [c] at k3; omega
        have := got_mono hQ hj hi (left t W).toNat (by
          show lt _ _
          unfold lt
          simp only
          omega)
        rw [k1, m1]
        omega
    · rw [k1, m1]
      omega
  · have hi : i < W.length := by omega
    obtain ⟨k1, k2, k3, k4, k5, k6, k7⟩ := key i hi
    obtain ⟨m1, m2, m3, m4, m5, m6, m7⟩ := key j hj
    rw [rd_nat hi, rd_nat hj] at hw
    rw [k1, m1, hw]
    omega

section
variable (l : List S25) (i : Nat) (t : Int) (W x : List Int) (hm : May t W) (hg : Good t W x)
include hm hg
theorem inner (a b : Int) (j : Nat) (hj : j < W.length) (K : Nat) (hK : ∀ k, K ≤ k → arraslaw2_ShareLaws.l2 k l (i : Int) W t x a b ((j : Int) + 1) = some true) : ∀ (d m : Nat), j - m = d → m ≤ j → ∀ k, K + d + 1 ≤ k → arraslaw2_ShareLaws.l3 k l (i : Int) W t x a b (j : Int) (m : Int) = some true := by
  have h256 := hm.len
  intro d
  induction d with
  | zero =>
    intro m hd hmj k hk
    obtain ⟨k, rfl⟩ : ∃ m, k = m + 1 := ⟨k - 1, by omega⟩
    simp only [arraslaw2_ShareLaws.l3]
    rw [if_neg (by omega), w64' (by omega) (by omega)]
    exact hK k (by omega)
  | succ d ih =>
    intro m hd hmj k hk
    obtain ⟨k, rfl⟩ : ∃ m, k = m + 1 := ⟨k - 1, by omega⟩
    have n := ih (m + 1) (by omega) (by omega) k (by omega)
    have g1 := hg.ge m j (by omega) hj
    have g2 := hg.le m j (by omega) hj
    have g3 := hg.eq m j (by omega) hj
    have nj := hg.nn j hj
    have hl := hg.len
    have e : ((m + 1 : Nat) : Int) = (m : Int) + 1 := by omega
    rw [e] at n
    simp only [arraslaw2_ShareLaws.l3]
    rw [w64' (n := (m : Int) + 1) (by omega) (by omega), w64' (n := rd x (j : Int) + 1) (by omega) (by omega)]
    rw [if_pos (by omega), if_pos (by omega), if_pos (by omega), if_pos (by omega), if_pos (by omega)]
    rcases Int.lt_trichotomy (rd W (m : Int)) (rd W (j : Int)) with c | c | c
    · have := g2 c
      rw [if_neg (by omega), if_pos c, if_pos (by omega), if_pos (by omega), if_neg (by omega), if_neg (by omega)]
      exact n
    · have := g1 (by omega)
      have := g3 c
      rw [if_neg (by omega), if_neg (by omega), if_pos c, if_pos (by omega), if_pos (by omega), if_neg (by omega), if_neg (by omega)]
      exact n
    · have := g1 (by omega)
      rw [if_pos (by omega), if_pos (by omega), if_pos (by omega), if_neg (by omega), if_neg (by omega), if_neg (by omega)]
      exact n
theorem outer (K : Nat) (hK : ∀ k, K ≤ k → arraslaw2_ShareLaws.l0 k l ((i : Int) + 1) = some true) (hi : i < 12) : ∀ (rest done : List Int), x = done ++ rest → ∃ K', ∀ k, K' ≤ k → arraslaw2_ShareLaws.l2 k l (i : Int) W t x (sumI W) (sumI done) (done.length : Int) = some true
  | [], done, e => by
    have e' : done = x := by rw [e]; simp
    subst e'
    refine ⟨K + 1, fun k hk => ?_⟩
    obtain ⟨k, rfl⟩ : ∃ m, k = m + 1 := ⟨k - 1, by omega⟩
    simp only [arraslaw2_ShareLaws.l2]
    rw [if_neg (by omega), if_pos hg.sum, w64' (by omega) (by omega)]
    exact hK k (by omega)
  | y :: rest, done, e => by
    have hlen : x.length = done.length + (rest.length + 1) := by rw [e]; simp
    have hl := hg.len
    have h256 := hm.len
    have hx : rd x (done.length : Int) = y := by rw [rd_nat (by omega)]; simp [e]
    have hj : done.length < W.length := by omega
    obtain ⟨K1, h1⟩ := outer K hK hi rest (done ++ [y]) (by simp [e])
    refine ⟨K1 + W.length + 4, fun k hk => ?_⟩
    obtain ⟨k, rfl⟩ : ∃ m, k = m + 2 := ⟨k - 2, by omega⟩
    have a1 : sumI (done ++ [y]) = sumI done + y := by simp [sumI_app, sumI]
    have a4 : ((done ++ [y]).length : Int) = (done.length : Int) + 1 := by simp
    rw [a1, a4] at h1
    have inn := inner l i t W x hm hg (sumI W) (sumI done + y) done.length hj K1 h1 done.length 0 rfl (by omega)
    have off := hg.off done.length hj
    have nn := hg.nn done.length hj
    have hz := hg.z done.length hj
    have hb := hm.ok.sum_bd
    have hpos := hm.pos
    have hmul := hm.mul (List.getElem_mem hj)
    rw [← rd_nat hj] at hmul
    rw [hx] at off nn hz
    have hs : 0 ≤ sumI done ∧ sumI done ≤ 1099511627776 := by
      have s := hg.sum
      have t1 := hm.t1
      have n2 : ∀ l : List Int, (∀ z ∈ l, 0 ≤ z) → 0 ≤ sumI l := by
        intro l
        induction l with
        | nil => intro _; simp [sumI]
        | cons z l ih =>
          intro h
          have := ih (fun w hw => h w (by simp [hw]))
          have := h z (by simp)
          simp only [sumI]; omega
      have nx : ∀ z ∈ x, 0 ≤ z := by
        intro z hz
        obtain ⟨m, hm', rfl⟩ := List.mem_iff_getElem.1 hz
        have := hg.nn m (by omega)
        rw [rd_nat hm'] at this
        exact this.1
      have d1 := n2 done (fun z hz => nx z (by rw [e]; simp [hz]))
      have d2 := n2 (y :: rest) (fun z hz => nx z (by rw [e]; exact List.mem_append_right _ hz))
      rw [e, sumI_app] at s
      omega
    have j4 : ∀ c, c = false → arraslaw2_ShareLaws.j4 (k + 1) l (i : Int) W t x (sumI W) (sumI done + y) (done.length : Int) c = some true := by
      intro c hc
      subst hc
      simp only [arraslaw2_ShareLaws.j4]
      rw [if_neg (by simp)]
      exact inn k (by omega)
    have w1 : wrap64 (wrap64 (y * sumI W) - wrap64 (t * rd W (done.length : Int))) = y * sumI W - t * rd W (done.length : Int) := by
      rw [w64' (n := y * sumI W) (by omega) (by omega), w64' (n := t * rd W (done.length : Int)) (by omega) (by omega), w64' (by omega) (by omega)]
    simp only [arraslaw2_ShareLaws.l2]
    rw [hx, w1]
    clear w1
    rw [w64' (n := -sumI W) (by omega) (by omega), w64' (n := sumI done + y) (by omega) (by omega)]
    rw [if_pos (by omega), if_pos (by omega), if_pos (by omega), if_neg (by omega), if_neg (by omega)]
    by_cases c : rd W (done.length : Int) = 0
    · rw [if_pos c]
      exact j4 _ (by simp [hz c])
    · rw [if_neg c]
      exact j4 _ rfl
theorem sums (r : Bool) (K : Nat) (hK : ∀ k, K ≤ k → arraslaw2_ShareLaws.l2 k l (i : Int) W t x (sumI W) 0 0 = some r) : ∀ (rest done : List Int), W = done ++ rest → ∀ k, K + rest.length + 1 ≤ k → arraslaw2_ShareLaws.l1 k l (i : Int) W t x (sumI done) 0 (done.length : Int) = some r
  | [], done, e, k, hk => by
    obtain ⟨k, rfl⟩ : ∃ m, k = m + 1 := ⟨k - 1, by omega⟩
    have e' : done = W := by rw [e]; simp
    subst e'
    have hl := hg.len
    simp only [arraslaw2_ShareLaws.l1]
    rw [if_neg (by omega), if_pos (by omega)]
    exact hK k (by simp at hk; omega)
  | w :: rest, done, e, k, hk => by
    obtain ⟨k, rfl⟩ : ∃ m, k = m + 1 := ⟨k - 1, by omega⟩
    simp only [List.length_cons] at hk
    have hlen : W.length = done.length + (rest.length + 1) := by rw [e]; simp
    have h256 := hm.len
    have hx : rd W (done.length : Int) = w := by rw [rd_nat (by omega)]; simp [e]
    have hw := hm.ok w (by rw [e]; simp)
    have hb := OkW.sum_bd (l := done) (fun y hy => hm.ok y (by rw [e]; simp [hy]))
    simp only [arraslaw2_ShareLaws.l1]
    rw [if_pos (by omega), if_pos (by omega), hx, w64' (n := (done.length : Int) + 1) (by omega) (by omega), w64' (n := sumI done + w) (by omega) (by omega)]
    have ih := sums r K hK rest (done ++ [w]) (by simp [e]) k (by omega)
    have a1 : sumI (done ++ [w]) = sumI done + w := by simp [sumI_app, sumI]
    have a4 : ((done ++ [w]).length : Int) = (done.length : Int) + 1 := by simp
    rw [a1, a4] at ih
    exact ih
end

theorem fin (l : List S25) (i : Nat) (h : ¬ (i < l.length ∧ i < 12)) : ∀ k, 80 ≤ k → arraslaw2_ShareLaws.l0 k l (i : Int) = some true := by
  intro k hk
  obtain ⟨k, rfl⟩ : ∃ m, k = m + 2 := ⟨k - 2, by omega⟩
  simp only [arraslaw2_ShareLaws.l0]
  by_cases c : (i : Int) < (l.length : Int)
  · rw [if_pos c]
    simp only [arraslaw2_ShareLaws.j1]
    rw [if_neg (by simp; omega), swakes k (by omega)]
    rfl
  · rw [if_neg c]
    simp only [arraslaw2_ShareLaws.j1]
    rw [if_neg (by simp), swakes k (by omega)]
    rfl
theorem body (l : List S25) (i : Nat) (hi : i < l.length) (h12 : i < 12) (K : Nat) (hn : ∀ k, K ≤ k → arraslaw2_ShareLaws.l0 k l ((i : Int) + 1) = some true) : ∃ K', ∀ k, K' ≤ k → arraslaw2_ShareLaws.l0 k l (i : Int) = some true := by
  obtain ⟨t, ht⟩ : ∃ t, t = l[i].f0 := ⟨_, rfl⟩
  obtain ⟨W, hW⟩ : ∃ W, W = l[i].f1 := ⟨_, rfl⟩
  have hw : wrap64 ((i : Int) + 1) = (i : Int) + 1 := w64' (by omega) (by omega)
  have go : ∀ (k : Nat) (r : Option Bool), (if (W.length : Int) > 2000 then (some true) else ((share_Split.f k t W).bind fun bt247 => ((arraslaw2_num.f bt247.2).bind fun t251 => (if t251 = 0 then (arraslaw2_ShareLaws.l1 k l (i : Int) W t bt247.1 0 0 0) else (arraslaw2_ShareLaws.l0 k l ((i : Int) + 1)))))) = r → arraslaw2_ShareLaws.l0 (k + 2) l (i : Int) = r := by
    intro k r h
    simp only [arraslaw2_ShareLaws.l0]
    rw [if_pos (by omega)]
    simp only [arraslaw2_ShareLaws.j1]
    rw [if_pos (by simp; omega), if_pos (by omega), if_pos (by omega), rd_T l i hi, hw, ← ht, ← hW]
    exact h
  by_cases c : (W.length : Int) > 2000
  · refine ⟨2, fun k hk => ?_⟩
    obtain ⟨k, rfl⟩ : ∃ m, k = m + 2 := ⟨k - 2, by omega⟩
    exact go k _ (by rw [if_pos c])
  · rcases split_eq t W with ⟨hm, Q, hQ, K1, h1⟩ | ⟨hm, K1, h1⟩
    · have hg := good hm hQ
      obtain ⟨K2, h2⟩ := outer l i t W _ hm hg K hn h12 (partsL t W Q) [] rfl
      refine ⟨K1 + K2 + W.length + 4, fun k hk => ?_⟩
      obtain ⟨k, rfl⟩ : ∃ m, k = m + 2 := ⟨k - 2, by omega⟩
      refine go k _ ?_
      rw [if_neg c, h1 k (by omega)]
      simp only [Option.bind_some, arraslaw2_num.f, if_true]
      exact sums l i t W _ hm hg true K2 h2 W [] rfl k (by omega)
    · refine ⟨K + K1 + 4, fun k hk => ?_⟩
      obtain ⟨k, rfl⟩ : ∃ m, k = m + 2 := ⟨k - 2, by omega⟩
      refine go k _ ?_
      rw [if_neg c, h1 k (by omega)]
      simp only [Option.bind_some, arraslaw2_num.f]
      rw [if_neg (by omega)]
      exact hn k (by omega)
theorem loop (l : List S25) : ∀ (d i : Nat), 12 - i = d → i ≤ 12 → ∃ K, ∀ k, K ≤ k → arraslaw2_ShareLaws.l0 k l (i : Int) = some true := by
  intro d
  induction d with
  | zero => exact fun i hd hi => ⟨80, fin l i (by omega)⟩
  | succ d ih =>
    intro i hd hi
    by_cases c : i < l.length
    · obtain ⟨K, hK⟩ := ih (i + 1) (by omega) (by omega)
      exact body l i c (by omega) K (fun k hk => by have := hK k hk; rw [Int.natCast_add, Int.natCast_one] at this; exact this)
    · exact ⟨80, fin l i (by omega)⟩

/-- The law, over numbers and lists. -/
theorem pure : Pure := fun l _ => by
  obtain ⟨K, hK⟩ := loop l 12 0 rfl (by omega)
  exact ⟨K, hK K (Nat.le_refl _)⟩
end Go.Proofs.Ytjjlmmebkemlgaa.TShareLaws
