/- What the printed share.Parts and the reference's Split come to: whole parts, and one unit more to those whose rests come first. -/
import Derived.Test.YtjjlmmebkemlgaaStableS
import Derived.Test.YtjjlmmebkemlgaaBasicsS
import Derived.Test.YtjjlmmebkemlgaaPSx0
import Derived.Test.YtjjlmmebkemlgaaPSx1
import Derived.Test.YtjjlmmebkemlgaaPSx5
import Derived.Test.YtjjlmmebkemlgaaPSx6
namespace Go.Proofs.Ytjjlmmebkemlgaa.PS
open Go.RowKit Go.Proofs.YtjjlmmebkemlgaaW.PrintWords Go.Proofs.YtjjlmmebkemlgaaW.PrintLast Go.Proofs.YtjjlmmebkemlgaaW.PrintMore

def sumI : List Int → Int
  | [] => 0
  | x :: r => x + sumI r
theorem sumI_app : ∀ a b : List Int, sumI (a ++ b) = sumI a + sumI b
  | [], b => by simp [sumI]
  | x :: r, b => by simp only [List.cons_append, sumI, sumI_app r b]; omega
/-- Weights that may be. -/
def OkW (l : List Int) : Prop := ∀ x ∈ l, 0 ≤ x ∧ x ≤ 1048576
instance (l : List Int) : Decidable (OkW l) := by unfold OkW; infer_instance
theorem OkW.sum_bd : ∀ {l : List Int}, OkW l → 0 ≤ sumI l ∧ sumI l ≤ l.length * 1048576
  | [], _ => by simp [sumI]
  | x :: r, h => by
    have := OkW.sum_bd (l := r) (fun y hy => h y (by simp [hy]))
    have := h x (by simp)
    simp only [sumI, List.length_cons]
    omega
theorem weight_l0 (l : List Int) (hl : l.length ≤ 256) : ∀ (rest done : List Int), l = done ++ rest → OkW done → ∀ k, rest.length + 1 ≤ k → share_weight.l0 k l (sumI done) (done.length : Int) = some (if OkW rest then sumI l else 0)
  | [], done, e, hd, k, hk => by
    obtain ⟨k, rfl⟩ : ∃ m, k = m + 1 := ⟨k - 1, by omega⟩
    simp only [share_weight.l0]
    rw [e]
    rw [if_pos (by simp), if_pos (by simp [OkW])]
    simp
  | x :: rest, done, e, hd, k, hk => by
    obtain ⟨k, rfl⟩ : ∃ m, k = m + 1 := ⟨k - 1, by omega⟩
    have hlen : l.length = done.length + (rest.length + 1) := by rw [e]; simp
    have hx : rd l (done.length : Int) = x := by rw [rd_nat (by omega)]; simp [e]
    have hb := hd.sum_bd
    simp only [share_weight.l0]
    rw [if_neg (by omega), if_pos (by omega), if_pos (by omega), hx]
    by_cases c : 0 ≤ x ∧ x ≤ 1048576
    · rw [if_neg (by omega), if_neg (by omega)]
      have ih := weight_l0 l hl rest (done ++ [x]) (by simp [e]) (fun y hy => by
        rcases List.mem_append.1 hy with hy | hy
        · exact hd y hy
        · rw [List.mem_singleton.1 hy]; exact c) k (by simp at hk; omega)
      have e1 : sumI (done ++ [x]) = sumI done + x := by rw [sumI_app]; simp [sumI]
      have e2 : ((done ++ [x]).length : Int) = (done.length : Int) + 1 := by simp
      rw [e1, e2] at ih
      rw [w64' (n := sumI done + x) (by omega) (by omega), w64' (n := (done.length : Int) + 1) (by omega) (by omega), ih]
      have e3 : OkW (x :: rest) ↔ OkW rest := ⟨fun h y hy => h y (by simp [hy]), fun h y hy => by
        rcases List.mem_cons.1 hy with rfl | hy
        · exact c
        · exact h y hy⟩
      by_cases c2 : OkW rest
      · rw [if_pos c2, if_pos (e3.2 c2)]
      · rw [if_neg c2, if_neg (fun h => c2 (e3.1 h))]
    · have hno : ¬ OkW (x :: rest) := fun h => c (h x (by simp))
      rw [if_neg hno]
      by_cases c2 : x < 0
      · rw [if_pos c2]
      · rw [if_neg c2, if_pos (by omega)]
theorem weight_eq (l : List Int) {k : Nat} (hk : l.length + 1 ≤ k) : share_weight.f k l = some (if l.length ≤ 256 ∧ OkW l then sumI l else 0) := by
  simp only [share_weight.f]
  by_cases c : (l.length : Int) > 256
  · rw [if_pos c, if_neg (by omega)]
  · rw [if_neg c]
    have := weight_l0 l (by omega) l [] rfl (by simp [OkW]) k hk
    simp only [sumI, List.length_nil, Int.natCast_zero] at this
    rw [this]
    by_cases c2 : OkW l
    · rw [if_pos c2, if_pos ⟨by omega, c2⟩]
    · rw [if_neg c2, if_neg (fun h => c2 h.2)]

/-- Whole parts, and rests with their places. -/
def qs (t s : Int) (ws : List Int) : List Int := ws.map fun w => t * w / s
def rs (t s : Int) : Int → List Int → List S66
  | _, [] => []
  | i, w :: r => ⟨t * w % s, i⟩ :: rs t s (i + 1) r
theorem rs_len (t s : Int) : ∀ (l : List Int) (i : Int), (rs t s i l).length = l.length
  | [], i => rfl
  | w :: r, i => by simp [rs, rs_len t s r]
theorem rs_app (t s : Int) : ∀ (a b : List Int) (i : Int), rs t s i (a ++ b) = rs t s i a ++ rs t s (i + (a.length : Int)) b
  | [], b, i => by simp [rs]
  | w :: r, b, i => by
    simp only [List.cons_append, rs, rs_app t s r b, List.length_cons]
    have e : i + ((r.length + 1 : Nat) : Int) = i + 1 + (r.length : Int) := by omega
    rw [e]
theorem rs_mem (t s : Int) : ∀ (l : List Int) (i : Int) (p : S66), p ∈ rs t s i l ↔ ∃ j : Nat, ∃ w, l[j]? = some w ∧ p = ⟨t * w % s, i + (j : Int)⟩
  | [], i, p => by simp [rs]
  | w :: r, i, p => by
    simp only [rs, List.mem_cons, rs_mem t s r (i + 1) p]
    constructor
    · rintro (rfl | ⟨j, w', h, rfl⟩)
      · exact ⟨0, w, by simp, by simp⟩
      · exact ⟨j + 1, w', by simpa using h, by simp; omega⟩
    · rintro ⟨j, w', h, rfl⟩
      cases j with
      | zero => left; simp at h; subst h; simp
      | succ j => right; exact ⟨j, w', by simpa using h, by simp; omega⟩
theorem rs_ris (t s : Int) : ∀ (l : List Int) (i : Int), Ris (rs t s i l)
  | [], i => List.Pairwise.nil
  | w :: r, i => by
    refine List.pairwise_cons.2 ⟨fun p hp => ?_, rs_ris t s r (i + 1)⟩
    obtain ⟨j, w', _, rfl⟩ := (rs_mem t s r (i + 1) p).1 hp
    show i < _
    show i < i + 1 + (j : Int)
    omega
/-- One more at each of the places. -/
def incs : List Int → List S66 → List Int
  | l, [] => l
  | l, p :: T => incs (l.set p.f1.toNat (wrap64 (rd l p.f1 + 1))) T
theorem incs_len : ∀ (T : List S66) (l : List Int), (incs l T).length = l.length
  | [], l => rfl
  | p :: T, l => by simp [incs, incs_len T]

theorem parts_l1 : ∀ (T T1 : List S66) (l : List Int) (k : Nat), (∀ p ∈ T, 0 ≤ p.f1 ∧ p.f1 < (l.length : Int)) → T1.length + T.length ≤ 4294967296 → T.length + 1 ≤ k → share_Parts.l1 k l (T1 ++ T) ((T1 ++ T).length : Int) (T1.length : Int) = some (incs l T)
  | [], T1, l, k, _, _, hk => by
    obtain ⟨k, rfl⟩ : ∃ m, k = m + 1 := ⟨k - 1, by omega⟩
    simp only [share_Parts.l1]
    rw [if_neg (by simp)]
    rfl
  | p :: T, T1, l, k, h, hb, hk => by
    simp only [List.length_cons] at hb hk
    obtain ⟨k, rfl⟩ : ∃ m, k = m + 1 := ⟨k - 1, by omega⟩
    have hp := h p (by simp)
    have er : rd_T66 (T1 ++ p :: T) (T1.length : Int) = p := rdT_app T1 p T rfl
    simp only [share_Parts.l1]
    rw [er, if_pos (by simp; omega), if_pos (by omega), if_pos (by simp; omega), if_pos hp.1, if_pos hp.2]
    have ih := parts_l1 T (T1 ++ [p]) (l.set p.f1.toNat (wrap64 (rd l p.f1 + 1))) k (fun q hq => by have := h q (by simp [hq]); simpa using this) (by simp; omega) (by omega)
    rw [w64' (n := (T1.length : Int) + 1) (by omega) (by omega)]
    have e1 : ((T1 ++ [p]).length : Int) = (T1.length : Int) + 1 := by simp
    rw [e1] at ih
    simpa [incs] using ih

theorem srt_unique {X Y : List S66} (hx : Srt X) (hy : Srt Y) (h : X.Perm Y) : X = Y := by
  refine List.Perm.eq_of_pairwise (le := lt) (fun a b _ _ h1 h2 => ?_) hx hy h
  unfold lt at h1 h2
  omega

/-- What is known of a total and its weights. -/
structure May (t : Int) (ws : List Int) : Prop where
  t0 : 0 ≤ t
  t1 : t ≤ 1099511627776
  len : ws.length ≤ 256
  ok : OkW ws
  pos : 0 < sumI ws
theorem May.mul {t : Int} {ws : List Int} (h : May t ws) {w : Int} (hw : w ∈ ws) : 0 ≤ t * w ∧ t * w ≤ 1152921504606846976 := by
  have h1 := h.ok w hw
  refine ⟨Int.mul_nonneg h.t0 h1.1, ?_⟩
  have : t * w ≤ 1099511627776 * 1048576 := Int.mul_le_mul h.t1 h1.2 h1.1 (by omega)
  omega
theorem div_le_self' {a s : Int} (h : 0 ≤ a) (hs : 0 < s) : 0 ≤ a / s ∧ a / s ≤ a := ⟨Int.ediv_nonneg h (by omega), Int.ediv_le_self _ h⟩
theorem May.q_bd {t : Int} {ws : List Int} (h : May t ws) {w : Int} (hw : w ∈ ws) : 0 ≤ t * w / sumI ws ∧ t * w / sumI ws ≤ t := by
  have h1 := h.mul hw
  refine ⟨Int.ediv_nonneg h1.1 (by have := h.pos; omega), ?_⟩
  have h2 : w ≤ sumI ws := by
    have : ∀ (l : List Int), OkW l → w ∈ l → w ≤ sumI l := by
      intro l
      induction l with
      | nil => intro _ h; simp at h
      | cons x r ih =>
        intro ho hm
        have hr := OkW.sum_bd (l := r) (fun y hy => ho y (by simp [hy]))
        have hx := ho x (by simp)
        rcases List.mem_cons.1 hm with rfl | hm
        · simp only [sumI]; omega
        · have := ih (fun y hy => ho y (by simp [hy])) hm
          simp only [sumI]; omega
    exact this ws h.ok hw
  refine Int.ediv_le_of_le_mul h.pos ?_
  exact Int.mul_le_mul_of_nonneg_left h2 h.t0
theorem qs_sum_bd {t : Int} {ws : List Int} (h : May t ws) : ∀ l : List Int, (∀ w ∈ l, w ∈ ws) → 0 ≤ sumI (qs t (sumI ws) l) ∧ sumI (qs t (sumI ws) l) ≤ l.length * 1099511627776
  | [], _ => by simp [qs, sumI]
  | w :: r, hm => by
    have ih := qs_sum_bd h r (fun y hy => hm y (by simp [hy]))
    have hq := h.q_bd (hm w (by simp))
    have := h.t1
    simp only [qs, List.map_cons, sumI, List.length_cons] at ih ⊢
    omega

/-- The end of the loop over the weights. -/
def tail (k : Nat) (t s : Int) (ws : List Int) : Option (List Int) := (share_rest_47.f k (rs t s 0 ws) ()).bind fun t167 => (if 0 ≤ t - sumI (qs t s ws) then (if t - sumI (qs t s ws) ≤ ((rs t s 0 ws).length : Int) then ((some (t167.take (t - sumI (qs t s ws)).toNat : List (S66))).bind fun y168 => (share_Parts.l1 k (qs t s ws) y168 (y168.length : Int) 0)) else (none)) else (none))
theorem parts_l0 {t : Int} {ws : List Int} (h : May t ws) (r : List Int) (K : Nat) (hK : ∀ k, K ≤ k → tail k t (sumI ws) ws = some r) : ∀ (rest done : List Int), ws = done ++ rest → ∀ k, K + rest.length + 1 ≤ k →
    share_Parts.l0 k t (sumI ws) (t - sumI (qs t (sumI ws) done)) (qs t (sumI ws) done) (rs t (sumI ws) 0 done) ws (ws.length : Int) (done.length : Int) = some r
  | [], done, e, k, hk => by
    obtain ⟨k, rfl⟩ : ∃ m, k = m + 1 := ⟨k - 1, by omega⟩
    have e' : done = ws := by rw [e]; simp
    subst e'
    simp only [share_Parts.l0]
    rw [if_neg (by omega)]
    exact hK k (by simp at hk; omega)
  | w :: rest, done, e, k, hk => by
    obtain ⟨k, rfl⟩ : ∃ m, k = m + 1 := ⟨k - 1, by omega⟩
    simp only [List.length_cons] at hk
    have hlen : ws.length = done.length + (rest.length + 1) := by rw [e]; simp
    have hw : w ∈ ws := by rw [e]; simp
    have h256 := h.len
    have hx : rd ws (done.length : Int) = w := by rw [rd_nat (by omega)]; simp [e]
    have hm := h.mul hw
    have hq := h.q_bd hw
    have hp := h.pos
    have hs := qs_sum_bd h done (fun y hy => by rw [e]; simp [hy])
    have ht := h.t1
    have ht0 := h.t0
    have e1 : Int.tdiv (t * w) (sumI ws) = t * w / sumI ws := Int.tdiv_eq_ediv_of_nonneg hm.1
    have e2 : Int.tmod (t * w) (sumI ws) = t * w % sumI ws := Int.tmod_eq_emod_of_nonneg hm.1
    simp only [share_Parts.l0]
    rw [if_pos (by omega), if_pos (by omega), if_pos (by omega), if_neg (by omega), hx]
    simp only [Option.bind_some]
    rw [w64' (n := t * w) (by omega) (by omega), e1, e2, w64' (n := t * w / sumI ws) (by omega) (by omega)]
    rw [if_pos (by simp [qs]; omega), if_pos (by simp [rs_len]; omega)]
    rw [w64' (n := (done.length : Int) + 1) (by omega) (by omega), w64' (n := t - sumI (qs t (sumI ws) done) - t * w / sumI ws) (by omega) (by omega)]
    have ih := parts_l0 h r K hK rest (done ++ [w]) (by simp [e]) k (by omega)
    have a1 : sumI (qs t (sumI ws) (done ++ [w])) = sumI (qs t (sumI ws) done) + t * w / sumI ws := by simp [qs, sumI_app, sumI]
    have a2 : qs t (sumI ws) (done ++ [w]) = qs t (sumI ws) done ++ [t * w / sumI ws] := by simp [qs]
    have a3 : rs t (sumI ws) 0 (done ++ [w]) = rs t (sumI ws) 0 done ++ [⟨t * w % sumI ws, (done.length : Int)⟩] := by rw [rs_app]; simp [rs]
    have a4 : ((done ++ [w]).length : Int) = (done.length : Int) + 1 := by simp
    have a5 : t - (sumI (qs t (sumI ws) done) + t * w / sumI ws) = t - sumI (qs t (sumI ws) done) - t * w / sumI ws := by omega
    rw [a1, a2, a3, a4, a5] at ih
    exact ih

/-- All rests together are what is left, taken as often as the weights' sum. -/
theorem rest_sum (t s : Int) : ∀ (l : List Int) (i : Int), sumI ((rs t s i l).map (·.f0)) = t * sumI l - s * sumI (qs t s l)
  | [], i => by simp [rs, sumI, qs]
  | w :: r, i => by
    have ih := rest_sum t s r (i + 1)
    simp only [rs, List.map_cons, sumI, qs] at ih ⊢
    rw [ih, Int.mul_add, Int.mul_add]
    have := Int.mul_ediv_add_emod (t * w) s
    omega
theorem sum_perm {X Y : List S66} (h : X.Perm Y) : sumI (X.map (·.f0)) = sumI (Y.map (·.f0)) := by
  induction h with
  | nil => rfl
  | cons x _ ih => simp only [List.map_cons, sumI, ih]
  | swap x y l => simp only [List.map_cons, sumI]; omega
  | trans _ _ a b => exact a.trans b
/-- What is left to be given. -/
def left (t : Int) (ws : List Int) : Int := t - sumI (qs t (sumI ws) ws)
theorem left_mul (t : Int) (ws : List Int) : sumI ws * left t ws = sumI ((rs t (sumI ws) 0 ws).map (·.f0)) := by
  rw [rest_sum, left, Int.mul_sub, Int.mul_comm t]
theorem rs_f0 {t : Int} {ws : List Int} (h : May t ws) {p : S66} {i : Int} (hp : p ∈ rs t (sumI ws) i ws) : 0 ≤ p.f0 ∧ p.f0 < sumI ws := by
  obtain ⟨j, w, _, rfl⟩ := (rs_mem t _ ws i p).1 hp
  exact ⟨Int.emod_nonneg _ (by have := h.pos; omega), Int.emod_lt_of_pos _ h.pos⟩
theorem sum_ub (s : Int) : ∀ X : List S66, (∀ p ∈ X, p.f0 < s) → sumI (X.map (·.f0)) ≤ X.length * (s - 1)
  | [], _ => by simp [sumI]
  | p :: X, h => by
    have ih := sum_ub s X (fun q hq => h q (by simp [hq]))
    have := h p (by simp)
    simp only [List.map_cons, sumI, List.length_cons]
    have e : ((X.length + 1 : Nat) : Int) * (s - 1) = X.length * (s - 1) + (s - 1) := by rw [Int.natCast_add, Int.add_mul]; simp
    omega
theorem sum_lb : ∀ X : List S66, (∀ p ∈ X, 0 ≤ p.f0) → 0 ≤ sumI (X.map (·.f0))
  | [], _ => by simp [sumI]
  | p :: X, h => by
    have ih := sum_lb X (fun q hq => h q (by simp [hq]))
    have := h p (by simp)
    simp only [List.map_cons, sumI]
    omega
theorem lt_of_mul {s a b : Int} (hs : 0 < s) (h : s * a ≤ b * (s - 1)) (hb : 0 ≤ b) : a ≤ b ∧ (0 < b → a < b) := by
  have h1 : s * a ≤ s * b - b := by rw [Int.mul_sub, Int.mul_comm b s, Int.mul_one] at h; exact h
  constructor
  · exact Int.le_of_mul_le_mul_left (by omega : s * a ≤ s * b) hs
  · intro h0
    exact Int.lt_of_mul_lt_mul_left (by omega : s * a < s * b) (by omega)
theorem left_bd {t : Int} {ws : List Int} (h : May t ws) : 0 ≤ left t ws ∧ left t ws < (ws.length : Int) := by
  have e := left_mul t ws
  have h1 := sum_lb _ (fun p (hp : p ∈ rs t (sumI ws) 0 ws) => (rs_f0 h hp).1)
  have h2 := sum_ub (sumI ws) _ (fun p (hp : p ∈ rs t (sumI ws) 0 ws) => (rs_f0 h hp).2)
  rw [rs_len] at h2
  rw [← e] at h1 h2
  have hp := h.pos
  constructor
  · exact Int.nonneg_of_mul_nonneg_right h1 hp
  · have hl : 0 < (ws.length : Int) := by
      cases ws with
      | nil => simp [sumI] at hp
      | cons w r => simp
    exact (lt_of_mul hp h2 (by omega)).2 hl
/-- The sorted rests. -/
def IsQ (t : Int) (ws : List Int) (Q : List S66) : Prop := Q.Perm (rs t (sumI ws) 0 ws) ∧ Srt Q
theorem IsQ.unique {t : Int} {ws : List Int} {Q Q' : List S66} (h : IsQ t ws Q) (h' : IsQ t ws Q') : Q = Q' := srt_unique h.2 h'.2 (h.1.trans h'.1.symm)
theorem IsQ.at_ {t : Int} {ws : List Int} {Q : List S66} (h : IsQ t ws Q) {p : S66} (hp : p ∈ Q) : ∃ j : Nat, ∃ w, ws[j]? = some w ∧ p = ⟨t * w % sumI ws, (j : Int)⟩ := by
  obtain ⟨j, w, h1, h2⟩ := (rs_mem t _ ws 0 p).1 (h.1.mem_iff.1 hp)
  exact ⟨j, w, h1, by rw [h2]; simp⟩
theorem parts_eq {t : Int} {ws : List Int} (h : May t ws) : ∃ Q, IsQ t ws Q ∧ ∃ K, ∀ k, K ≤ k → share_Parts.f k t ws = some (incs (qs t (sumI ws) ws) (Q.take (left t ws).toNat)) := by
  have h256 := h.len
  obtain ⟨Q, q1, q2, K, hK⟩ := sort_eq (rs t (sumI ws) 0 ws) (rs_ris _ _ _ _) (by rw [rs_len]; omega)
  have hQ : IsQ t ws Q := ⟨q1, q2⟩
  have hl := left_bd h
  have hlen : Q.length = ws.length := by rw [q1.length_eq, rs_len]
  refine ⟨Q, hQ, K + 300 + ws.length + 1, fun k hk => ?_⟩
  simp only [share_Parts.f]
  rw [weight_eq ws (by omega), if_pos ⟨h.len, h.ok⟩]
  simp only [Option.bind_some]
  have := parts_l0 h (incs (qs t (sumI ws) ws) (Q.take (left t ws).toNat)) (K + 300) (fun k hk => by
    unfold tail
    rw [hK k (by omega) ()]
    simp only [Option.bind_some]
    have hl1 : 0 ≤ t - sumI (qs t (sumI ws) ws) := hl.1
    have hl2 : t - sumI (qs t (sumI ws) ws) ≤ ((rs t (sumI ws) 0 ws).length : Int) := by rw [rs_len]; have := hl.2; unfold left at this; omega
    rw [if_pos hl1, if_pos hl2]
    have := parts_l1 (Q.take (left t ws).toNat) [] (qs t (sumI ws) ws) k (fun p hp => by
      obtain ⟨j, w, hj, rfl⟩ := hQ.at_ (List.mem_of_mem_take hp)
      have := (List.getElem?_eq_some_iff.1 hj).1
      simp [qs]
      omega) (by simp; omega) (by simp; omega)
    simpa [left] using this) ws [] rfl k (by omega)
  simpa [qs, rs, sumI] using this
theorem split_eq (t : Int) (ws : List Int) : (May t ws ∧ ∃ Q, IsQ t ws Q ∧ ∃ K, ∀ k, K ≤ k → share_Split.f k t ws = some (incs (qs t (sumI ws) ws) (Q.take (left t ws).toNat), 0)) ∨
    (¬ May t ws ∧ ∃ K, ∀ k, K ≤ k → share_Split.f k t ws = some ([], 1)) := by
  by_cases h : May t ws
  · left
    obtain ⟨Q, hQ, K, hK⟩ := parts_eq h
    refine ⟨h, Q, hQ, K + ws.length + 1, fun k hk => ?_⟩
    have := h.pos
    have := h.t0
    have := h.t1
    simp only [share_Split.f]
    rw [if_neg (by omega), if_neg (by omega), weight_eq ws (by omega), if_pos ⟨h.len, h.ok⟩]
    simp only [Option.bind_some]
    rw [if_neg (by omega), hK k (by omega)]
    rfl
  · right
    refine ⟨h, ws.length + 1, fun k hk => ?_⟩
    simp only [share_Split.f]
    by_cases c1 : t < 0
    · rw [if_pos c1]
    rw [if_neg c1]
    by_cases c2 : t > 1099511627776
    · rw [if_pos c2]
    rw [if_neg c2, weight_eq ws (by omega)]
    simp only [Option.bind_some]
    by_cases c3 : ws.length ≤ 256 ∧ OkW ws
    · rw [if_pos c3]
      have := c3.2.sum_bd
      have : ¬ 0 < sumI ws := fun hp => h ⟨by omega, by omega, c3.1, c3.2, hp⟩
      rw [if_pos (by omega)]
    · rw [if_neg c3, if_pos rfl]
end Go.Proofs.Ytjjlmmebkemlgaa.PS
