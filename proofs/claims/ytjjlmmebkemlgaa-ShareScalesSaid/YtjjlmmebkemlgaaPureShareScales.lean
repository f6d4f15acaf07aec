/- The pure statement of ShareScales: seven times the weights, the same parts; a total that divides evenly gives each just its part. -/
import Derived.Test.YtjjlmmebkemlgaaTellShareScales
import Derived.Test.YtjjlmmebkemlgaaRefSplitS
import Derived.Test.YtjjlmmebkemlgaaCopyS
import Derived.Test.YtjjlmmebkemlgaaWithinS
namespace Go.Proofs.Ytjjlmmebkemlgaa.TShareScales
open Go.RowKit Go.Proofs.YtjjlmmebkemlgaaW.PrintWords Go.Proofs.Ytjjlmmebkemlgaa.PS

theorem rd_T (l : List S25) (i : Nat) (h : i < l.length) : rd_T25 l (i : Int) = l[i] := by simp [rd_T25, List.getD_eq_getElem?_getD, h]
def m7 (p : S66) : S66 := ⟨7 * p.f0, p.f1⟩
theorem incs_m7 : ∀ (T : List S66) (l : List Int), incs l (T.map m7) = incs l T
  | [], l => rfl
  | p :: T, l => by
    simp only [List.map_cons, incs]
    exact incs_m7 T _
theorem sumI_mul (c : Int) : ∀ l : List Int, sumI (l.map (c * ·)) = c * sumI l
  | [] => by simp [sumI]
  | x :: r => by simp only [List.map_cons, sumI, sumI_mul c r, Int.mul_add]
theorem sumI_mul' (c : Int) : ∀ l : List Int, sumI (l.map (· * c)) = c * sumI l
  | [] => by simp [sumI]
  | x :: r => by
    simp only [List.map_cons, sumI, sumI_mul' c r, Int.mul_add]
    rw [Int.mul_comm x c]
theorem seven (t w : Int) : t * (w * 7) = 7 * (t * w) := by rw [Int.mul_comm w 7, ← Int.mul_assoc, Int.mul_comm t 7, Int.mul_assoc]
theorem qs7 (t s : Int) (W : List Int) : qs t (7 * s) (W.map (· * 7)) = qs t s W := by
  simp only [qs, List.map_map]
  apply List.map_congr_left
  intro w _
  show t * (w * 7) / (7 * s) = t * w / s
  rw [seven t w, Int.mul_ediv_mul_of_pos _ _ (by omega)]
theorem rs7 (t s : Int) : ∀ (W : List Int) (i : Int), rs t (7 * s) i (W.map (· * 7)) = (rs t s i W).map m7
  | [], i => rfl
  | w :: r, i => by
    simp only [List.map_cons, rs, rs7 t s r, m7]
    rw [seven t w, Int.mul_emod_mul_of_pos _ _ (by omega)]
theorem parts7 {t : Int} {W : List Int} {Q Q' : List S66} (hQ : IsQ t W Q) (hQ' : IsQ t (W.map (· * 7)) Q') : incs (qs t (sumI (W.map (· * 7))) (W.map (· * 7))) (Q'.take (left t (W.map (· * 7))).toNat) = incs (qs t (sumI W) W) (Q.take (left t W).toNat) := by
  have hl : left t (W.map (· * 7)) = left t W := by unfold left; rw [sumI_mul', qs7]
  have e : Q' = Q.map m7 := by
    refine hQ'.unique ⟨?_, ?_⟩
    · rw [sumI_mul', rs7]
      exact hQ.1.map m7
    · refine List.Pairwise.map m7 (fun a b h => ?_) hQ.2
      unfold lt at h ⊢
      simp only [m7]
      omega
  rw [hl, e, ← List.map_take, incs_m7, sumI_mul', qs7]
theorem five {W : List Int} {Q : List S66} (hs : 0 < sumI W) : incs (qs (5 * sumI W) (sumI W) W) (Q.take (left (5 * sumI W) W).toNat) = W.map (5 * ·) := by
  have hq : qs (5 * sumI W) (sumI W) W = W.map (5 * ·) := by
    simp only [qs]
    apply List.map_congr_left
    intro w _
    show 5 * sumI W * w / sumI W = 5 * w
    rw [Int.mul_comm 5, Int.mul_assoc, Int.mul_ediv_cancel_left _ (by omega)]
  have hl : left (5 * sumI W) W = 0 := by
    unfold left
    rw [hq, sumI_mul]
    omega
  rw [hl, hq]
  rfl

/-- Each weight brought within. -/
def W1 (W : List Int) : List Int := W.map fun w => wthn w 1000
theorem W1_bd (W : List Int) : ∀ x ∈ W1 W, 0 ≤ x ∧ x < 1000 := by
  intro x hx
  obtain ⟨w, _, rfl⟩ := List.mem_map.1 hx
  exact wthn_bd w 1000 (by omega) (by omega)
theorem W1_ok (W : List Int) : OkW (W1 W) := fun x hx => by have := W1_bd W x hx; omega
theorem W1_sum : ∀ W : List Int, 0 ≤ sumI (W1 W) ∧ sumI (W1 W) ≤ W.length * 1000
  | [] => by simp [W1, sumI]
  | w :: r => by
    have := W1_sum r
    have := wthn_bd w 1000 (by omega) (by omega)
    simp only [W1, List.map_cons, sumI, List.length_cons] at *
    omega

section
variable (l : List S25) (i : Nat) (hi : i < l.length) (h12 : i < 12) (K : Nat) (hn : ∀ k, K ≤ k → arraslaw2_ShareScales.l0 k l ((i : Int) + 1) = some true) (V : List Int) (hV : ∀ x ∈ V, 0 ≤ x ∧ x < 1000) (hlen : V.length ≤ 100)
include hi h12 hn hV hlen
omit hi in
theorem l3_ok : ∀ (d j : Nat), V.length - j = d → j ≤ V.length → ∀ k, K + d + 1 ≤ k → arraslaw2_ShareScales.l3 k l (i : Int) V (V.map (5 * ·)) (j : Int) = some true := by
  intro d
  induction d with
  | zero =>
    intro j hd hj k hk
    obtain ⟨k, rfl⟩ : ∃ m, k = m + 1 := ⟨k - 1, by omega⟩
    simp only [arraslaw2_ShareScales.l3]
    rw [if_neg (by omega), w64' (by omega) (by omega)]
    exact hn k (by omega)
  | succ d ih =>
    intro j hd hj k hk
    obtain ⟨k, rfl⟩ : ∃ m, k = m + 1 := ⟨k - 1, by omega⟩
    have hlt : j < V.length := by omega
    have hb := hV V[j] (List.getElem_mem hlt)
    have n := ih (j + 1) (by omega) (by omega) k (by omega)
    rw [Int.natCast_add, Int.natCast_one] at n
    simp only [arraslaw2_ShareScales.l3]
    rw [rd_nat hlt, rd_nat (l := V.map (5 * ·)) (i := j) (by simpa using hlt), List.getElem_map, w64' (n := 5 * V[j]) (by omega) (by omega), if_pos (by omega), if_pos (by omega), if_pos (by simp; omega), if_pos rfl, w64' (by omega) (by omega)]
    exact n
omit hi h12 hn in
theorem l2_ok (s t : Int) (a : List Int) (e : Int) (r : Bool) (K1 : Nat) (hK : ∀ k, K1 ≤ k → ((share_Split.f k t (V.map (· * 7))).bind fun bt315 => ((share_Split.f k (wrap64 (s * 5)) V).bind fun bt319 => ((arraslaw2_num.f e).bind fun t323 => (if t323 = 0 then ((arraslaw2_num.f bt315.2).bind fun t324 => (if t324 = 0 then ((arraslaw2_num.f bt319.2).bind fun t325 => (if t325 = 0 then ((arrasref0_EqNumbers.f k a bt315.1).bind fun t326 => (if t326 = true then (arraslaw2_ShareScales.j5 k l (i : Int) V bt319.1 ((bt319.1.length : Int) != (V.length : Int))) else (arraslaw2_ShareScales.j5 k l (i : Int) V bt319.1 true))) else (arraslaw2_ShareScales.j5 k l (i : Int) V bt319.1 true))) else (arraslaw2_ShareScales.j5 k l (i : Int) V bt319.1 true))) else (arraslaw2_ShareScales.j5 k l (i : Int) V bt319.1 true))))) = some r) :
    ∀ (rest done : List Int), V = done ++ rest → ∀ k, K1 + rest.length + 1 ≤ k → arraslaw2_ShareScales.l2 k l (i : Int) V s t a e (done.map (· * 7) ++ rest) (done.length : Int) = some r
  | [], done, e', k, hk => by
    obtain ⟨k, rfl⟩ : ∃ m, k = m + 1 := ⟨k - 1, by omega⟩
    have e2 : done = V := by rw [e']; simp
    subst e2
    simp only [arraslaw2_ShareScales.l2]
    rw [if_neg (by simp), List.append_nil]
    exact hK k (by simp at hk; omega)
  | w :: rest, done, e', k, hk => by
    obtain ⟨k, rfl⟩ : ∃ m, k = m + 1 := ⟨k - 1, by omega⟩
    simp only [List.length_cons] at hk
    have hl2 : V.length = done.length + (rest.length + 1) := by rw [e']; simp
    have hw := hV w (by rw [e']; simp)
    have er : rd (done.map (· * 7) ++ w :: rest) (done.length : Int) = w := by
      rw [rd_nat (by simp), List.getElem_append_right (by simp)]
      simp
    simp only [arraslaw2_ShareScales.l2]
    rw [if_pos (by simp; omega), if_pos (by omega), er, w64' (n := w * 7) (by omega) (by omega), w64' (by omega) (by omega)]
    have ih := l2_ok s t a e r K1 hK rest (done ++ [w]) (by simp [e']) k (by omega)
    have e3 : (done.map (· * 7) ++ w :: rest).set ((done.length : Int)).toNat (w * 7) = (done ++ [w]).map (· * 7) ++ rest := by simp
    have e4 : ((done ++ [w]).length : Int) = (done.length : Int) + 1 := by simp
    rw [e4] at ih
    rw [e3]
    exact ih
omit hi in
theorem j3_ok (t : Int) (ht : 0 ≤ t) (ht1 : t < 1048576) (hs : 0 < sumI V) (hsb : sumI V ≤ 100000) {Q : List S66} (hQ : IsQ t V Q) : ∃ K', ∀ k, K' ≤ k → arraslaw2_ShareScales.j3 k l (i : Int) V (sumI V) t (incs (qs t (sumI V) V) (Q.take (left t V).toNat)) 0 ((V.length : Int) == 0) = some true := by
  have hpos : 0 < V.length := by
    cases V with
    | nil => simp [sumI] at hs
    | cons x r => simp
  have okV : OkW V := fun x hx => by have := hV x hx; omega
  have m1 : May t (V.map (· * 7)) := ⟨ht, by omega, by simpa using (by omega : V.length ≤ 256), fun x hx => by
    obtain ⟨w, hw, rfl⟩ := List.mem_map.1 hx
    have := hV w hw
    omega, by rw [sumI_mul']; omega⟩
  have m2 : May (5 * sumI V) V := ⟨by omega, by omega, by omega, okV, hs⟩
  have sp1 : ∃ Q', IsQ t (V.map (· * 7)) Q' ∧ ∃ K, ∀ k, K ≤ k → share_Split.f k t (V.map (· * 7)) = some (incs (qs t (sumI (V.map (· * 7))) (V.map (· * 7))) (Q'.take (left t (V.map (· * 7))).toNat), 0) := by
    rcases split_eq t (V.map (· * 7)) with ⟨_, h⟩ | ⟨h, _⟩
    · exact h
    · exact absurd m1 h
  have sp2 : ∃ Q', IsQ (5 * sumI V) V Q' ∧ ∃ K, ∀ k, K ≤ k → share_Split.f k (5 * sumI V) V = some (incs (qs (5 * sumI V) (sumI V) V) (Q'.take (left (5 * sumI V) V).toNat), 0) := by
    rcases split_eq (5 * sumI V) V with ⟨_, h⟩ | ⟨h, _⟩
    · exact h
    · exact absurd m2 h
  obtain ⟨Q1, q1, K1, h1⟩ := sp1
  obtain ⟨Q2, q2, K2, h2⟩ := sp2
  rw [parts7 hQ q1] at h1
  rw [five hs] at h2
  have hal : (incs (qs t (sumI V) V) (Q.take (left t V).toNat)).length = V.length := by rw [incs_len]; simp [qs]
  refine ⟨K + K1 + K2 + 2 * V.length + 200, fun k hk => ?_⟩
  obtain ⟨k, rfl⟩ : ∃ m, k = m + 1 := ⟨k - 1, by omega⟩
  simp only [arraslaw2_ShareScales.j3]
  rw [if_neg (by simpa using (by intro h; rw [h] at hpos; simp at hpos : V ≠ [])), copy_eq V (by omega) (by omega)]
  simp only [Option.bind_some]
  have := l2_ok l i V hV hlen (sumI V) t (incs (qs t (sumI V) V) (Q.take (left t V).toNat)) 0 true (K + K1 + K2 + V.length + 100) (fun k hk => by
    rw [h1 k (by omega), w64' (n := sumI V * 5) (by omega) (by omega), Int.mul_comm (sumI V) 5]
    simp only [Option.bind_some]
    rw [h2 k (by omega)]
    simp only [Option.bind_some, arraslaw2_num.f, if_true]
    rw [eqNums_eq _ _ (by omega) (by omega)]
    simp only [Option.bind_some, decide_true, if_true]
    obtain ⟨k, rfl⟩ : ∃ m, k = m + 1 := ⟨k - 1, by omega⟩
    simp only [arraslaw2_ShareScales.j5]
    rw [if_neg (by simp)]
    exact l3_ok l i h12 K hn V hV hlen V.length 0 (by omega) (by omega) k (by omega)) V [] rfl k (by omega)
  simpa using this
end

theorem fin (l : List S25) (i : Nat) (h : ¬ (i < l.length ∧ i < 12)) : ∀ k, 80 ≤ k → arraslaw2_ShareScales.l0 k l (i : Int) = some true := by
  intro k hk
  obtain ⟨k, rfl⟩ : ∃ m, k = m + 2 := ⟨k - 2, by omega⟩
  simp only [arraslaw2_ShareScales.l0]
  by_cases c : (i : Int) < (l.length : Int)
  · rw [if_pos c]
    simp only [arraslaw2_ShareScales.j1]
    rw [if_neg (by simp; omega), swakes k (by omega)]
    rfl
  · rw [if_neg c]
    simp only [arraslaw2_ShareScales.j1]
    rw [if_neg (by simp), swakes k (by omega)]
    rfl
theorem l1_ok (l : List S25) (i : Nat) (hi : i < l.length) (W : List Int) (hlen : W.length ≤ 100) (r : Bool) (K1 : Nat) (hK : ∀ k, K1 ≤ k → ((arraslaw0_Within.f (l[i].f0) 1048576).bind fun t304 => ((share_Split.f k t304 (W1 W)).bind fun bt305 => (if sumI (W1 W) = 0 then (arraslaw2_ShareScales.j3 k l (i : Int) (W1 W) (sumI (W1 W)) t304 bt305.1 bt305.2 true) else (arraslaw2_ShareScales.j3 k l (i : Int) (W1 W) (sumI (W1 W)) t304 bt305.1 bt305.2 (((W1 W).length : Int) == 0))))) = some r) :
    ∀ (rest done : List Int), W = done ++ rest → ∀ k, K1 + rest.length + 1 ≤ k → arraslaw2_ShareScales.l1 k l (i : Int) (W1 done ++ rest) (sumI (W1 done)) (done.length : Int) = some r
  | [], done, e, k, hk => by
    obtain ⟨k, rfl⟩ : ∃ m, k = m + 1 := ⟨k - 1, by omega⟩
    have e2 : done = W := by rw [e]; simp
    subst e2
    simp only [arraslaw2_ShareScales.l1]
    rw [if_neg (by simp [W1]), if_pos (by omega), if_pos (by omega), List.append_nil, rd_T l i hi]
    exact hK k (by simp at hk; omega)
  | w :: rest, done, e, k, hk => by
    obtain ⟨k, rfl⟩ : ∃ m, k = m + 1 := ⟨k - 1, by omega⟩
    simp only [List.length_cons] at hk
    have hl2 : W.length = done.length + (rest.length + 1) := by rw [e]; simp
    have hw := wthn_bd w 1000 (by omega) (by omega)
    have hs := W1_sum done
    have er : rd (W1 done ++ w :: rest) (done.length : Int) = w := by
      rw [rd_nat (by simp [W1]), List.getElem_append_right (by simp [W1])]
      simp [W1]
    have e3 : (W1 done ++ w :: rest).set ((done.length : Int)).toNat (wthn w 1000) = W1 (done ++ [w]) ++ rest := by
      have : ((done.length : Int)).toNat = (W1 done).length := by simp [W1]
      rw [this, List.set_append_right _ _ (Nat.le_refl _)]
      simp [W1]
    have er2 : rd (W1 (done ++ [w]) ++ rest) (done.length : Int) = wthn w 1000 := by
      rw [rd_nat (by simp [W1]), List.getElem_append_left (by simp [W1])]
      simp [W1]
    simp only [arraslaw2_ShareScales.l1]
    rw [if_pos (by simp [W1]; omega), if_pos (by omega), er, within_eq w 1000 (by omega) (by omega)]
    simp only [Option.bind_some]
    rw [e3, er2, w64' (n := sumI (W1 done) + wthn w 1000) (by omega) (by omega), w64' (by omega) (by omega)]
    have ih := l1_ok l i hi W hlen r K1 hK rest (done ++ [w]) (by simp [e]) k (by omega)
    have a1 : sumI (W1 (done ++ [w])) = sumI (W1 done) + wthn w 1000 := by simp [W1, sumI_app, sumI]
    have e4 : ((done ++ [w]).length : Int) = (done.length : Int) + 1 := by simp
    rw [a1, e4] at ih
    exact ih
theorem body (l : List S25) (i : Nat) (hi : i < l.length) (h12 : i < 12) (hp : phi25 l[i]) (K : Nat) (hn : ∀ k, K ≤ k → arraslaw2_ShareScales.l0 k l ((i : Int) + 1) = some true) : ∃ K', ∀ k, K' ≤ k → arraslaw2_ShareScales.l0 k l (i : Int) = some true := by
  obtain ⟨t, ht⟩ : ∃ t, t = l[i].f0 := ⟨_, rfl⟩
  obtain ⟨W, hW⟩ : ∃ W, W = l[i].f1 := ⟨_, rfl⟩
  have hreach : W.length * 8 ≤ 140737488351232 := by rw [hW]; exact hp.2.1
  have hw : wrap64 ((i : Int) + 1) = (i : Int) + 1 := w64' (by omega) (by omega)
  have go : ∀ (k : Nat) (r : Option Bool), (if (W.length : Int) > 100 then (some true) else (arraslaw2_ShareScales.l1 k l (i : Int) W 0 0)) = r → W.length < k → arraslaw2_ShareScales.l0 (k + 2) l (i : Int) = r := by
    intro k r h hk
    simp only [arraslaw2_ShareScales.l0]
    rw [if_pos (by omega)]
    simp only [arraslaw2_ShareScales.j1]
    rw [if_pos (by simp; omega), if_pos (by omega), if_pos (by omega), rd_T l i hi, ← hW, copy_eq W (by omega) hk]
    simp only [Option.bind_some]
    exact h
  by_cases c : (W.length : Int) > 100
  · refine ⟨W.length + 3, fun k hk => ?_⟩
    obtain ⟨k, rfl⟩ : ∃ m, k = m + 2 := ⟨k - 2, by omega⟩
    exact go k _ (by rw [if_pos c]) (by omega)
  · have tb := wthn_bd t 1048576 (by omega) (by omega)
    have sb := W1_sum W
    have hl1 : (W1 W).length = W.length := by simp [W1]
    have fin2 : ∃ K', ∀ k, K' ≤ k → ((arraslaw0_Within.f (l[i].f0) 1048576).bind fun t304 => ((share_Split.f k t304 (W1 W)).bind fun bt305 => (if sumI (W1 W) = 0 then (arraslaw2_ShareScales.j3 k l (i : Int) (W1 W) (sumI (W1 W)) t304 bt305.1 bt305.2 true) else (arraslaw2_ShareScales.j3 k l (i : Int) (W1 W) (sumI (W1 W)) t304 bt305.1 bt305.2 (((W1 W).length : Int) == 0))))) = some true := by
      rw [← ht, within_eq t 1048576 (by omega) (by omega)]
      simp only [Option.bind_some]
      rcases split_eq (wthn t 1048576) (W1 W) with ⟨hm, Q, hQ, K1, h1⟩ | ⟨hm, K1, h1⟩
      · have hs := hm.pos
        obtain ⟨K2, h2⟩ := j3_ok l i h12 K hn (W1 W) (W1_bd W) (by omega) (wthn t 1048576) tb.1 tb.2 hs (by omega) hQ
        refine ⟨K1 + K2, fun k hk => ?_⟩
        rw [h1 k (by omega)]
        simp only [Option.bind_some]
        rw [if_neg (by omega)]
        exact h2 k (by omega)
      · have hs : sumI (W1 W) = 0 := by
          apply Classical.byContradiction
          intro hne
          exact hm ⟨tb.1, by omega, by omega, W1_ok W, by omega⟩
        refine ⟨K + K1 + 2, fun k hk => ?_⟩
        rw [h1 k (by omega)]
        simp only [Option.bind_some]
        rw [if_pos hs]
        obtain ⟨k, rfl⟩ : ∃ m, k = m + 1 := ⟨k - 1, by omega⟩
        simp only [arraslaw2_ShareScales.j3, arraslaw2_num.f, Option.bind_some, if_true]
        rw [hw]
        exact hn k (by omega)
    obtain ⟨K3, h3⟩ := fin2
    refine ⟨K3 + W.length + 4, fun k hk => ?_⟩
    obtain ⟨k, rfl⟩ : ∃ m, k = m + 2 := ⟨k - 2, by omega⟩
    refine go k _ ?_ (by omega)
    rw [if_neg c]
    exact l1_ok l i hi W (by omega) true K3 h3 W [] rfl k (by omega)
theorem loop (l : List S25) (hp : ∀ y ∈ l, phi25 y) : ∀ (d i : Nat), 12 - i = d → i ≤ 12 → ∃ K, ∀ k, K ≤ k → arraslaw2_ShareScales.l0 k l (i : Int) = some true := by
  intro d
  induction d with
  | zero => exact fun i hd hi => ⟨80, fin l i (by omega)⟩
  | succ d ih =>
    intro i hd hi
    by_cases c : i < l.length
    · obtain ⟨K, hK⟩ := ih (i + 1) (by omega) (by omega)
      exact body l i c (by omega) (hp _ (List.getElem_mem c)) K (fun k hk => by have := hK k hk; rw [Int.natCast_add, Int.natCast_one] at this; exact this)
    · exact ⟨80, fin l i (by omega)⟩

/-- The law, over numbers and lists. -/
theorem pure : Pure := fun l h => by
  obtain ⟨K, hK⟩ := loop l h.2.2 12 0 rfl (by omega)
  exact ⟨K, hK K (Nat.le_refl _)⟩
end Go.Proofs.Ytjjlmmebkemlgaa.TShareScales
