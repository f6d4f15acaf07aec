/- What the printed insertionSort comes to, over rests in the order of their places. -/
import Derived.Test.YtjjlmmebkemlgaaSwapS
import Derived.Test.YtjjlmmebkemlgaaPSx0
import Derived.Test.YtjjlmmebkemlgaaPSx1
import Derived.Test.YtjjlmmebkemlgaaPSx2
namespace Go.Proofs.Ytjjlmmebkemlgaa.PS
open Go.RowKit Go.Proofs.YtjjlmmebkemlgaaW.PrintWords Go.Proofs.YtjjlmmebkemlgaaW.PrintLast Go.Proofs.YtjjlmmebkemlgaaW.PrintMore

/-- Ahead of: a greater rest, or as great a one of a lesser place. -/
def lt (a b : S66) : Prop := b.f0 < a.f0 ∨ (a.f0 = b.f0 ∧ a.f1 < b.f1)
theorem lt_trans {a b c : S66} (h : lt a b) (h' : lt b c) : lt a c := by unfold lt at *; omega
def Srt (l : List S66) : Prop := l.Pairwise lt
def cmpS (a b : S66) : Int := if b.f0 < a.f0 then -1 else if b.f0 > a.f0 then 1 else 0
theorem cmp_eq (a b : S66) : share_Parts_1.f a.f0 a.f1 b.f0 b.f1 = some (cmpS a b) := by
  simp only [share_Parts_1.f, cmp_Compare_int.f, cmp_isNaN_int.f, Option.bind_some, bne_self_eq_false, Bool.false_eq_true, if_false, cmpS]
  repeat' split
  all_goals rfl
theorem cmp_lt (a b : S66) : cmpS a b < 0 ↔ b.f0 < a.f0 := by
  unfold cmpS
  repeat' split
  all_goals omega

theorem ins_l1 (b i : Int) : ∀ (n : Nat) (A P : List S66) (x : S66) (D : List S66), P.length = n → Srt P → A.length + P.length + D.length ≤ 1152921504606846976 →
    ∃ P1 P2, P = P1 ++ P2 ∧ (∀ p ∈ P1, x.f0 ≤ p.f0) ∧ (∀ p ∈ P2, p.f0 < x.f0) ∧ ∀ r K, (∀ k, K ≤ k → share_rest_63.l0 k (A ++ P1 ++ x :: (P2 ++ D)) (A.length : Int) b (wrap64 (i + 1)) = some r) → ∀ k, K + n + 1 ≤ k → share_rest_63.l1 k (A ++ P ++ x :: D) (A.length : Int) b i ((A.length : Int) + (P.length : Int)) = some r := by
  intro n
  induction n with
  | zero =>
    intro A P x D hn hs hb
    obtain rfl : P = [] := List.length_eq_zero_iff.1 hn
    refine ⟨[], [], rfl, by simp, by simp, fun r K h k hk => ?_⟩
    obtain ⟨k, rfl⟩ : ∃ m, k = m + 1 := ⟨k - 1, by omega⟩
    simp only [share_rest_63.l1]
    rw [if_neg (by simp)]
    exact h k (by omega)
  | succ n ih =>
    intro A P x D hn hs hb
    obtain ⟨P0, y, rfl⟩ : ∃ P0 y, P = P0 ++ [y] := ⟨P.dropLast, P.getLast (by intro h; simp [h] at hn), (List.dropLast_concat_getLast _).symm⟩
    simp only [List.length_append, List.length_cons, List.length_nil] at hn hb
    have hs0 : Srt P0 := (List.pairwise_append.1 hs).1
    have hsy : ∀ p ∈ P0, lt p y := fun p hp => (List.pairwise_append.1 hs).2.2 p hp y (by simp)
    have ej : wrap64 ((A.length : Int) + ((P0 ++ [y]).length : Int) - 1) = (A.length : Int) + (P0.length : Int) := by rw [w64' (by simp; omega) (by simp; omega)]; simp; omega
    have e : A ++ (P0 ++ [y]) ++ x :: D = (A ++ P0) ++ y :: ([] ++ x :: D) := by simp
    have ex : rd_T66 (A ++ (P0 ++ [y]) ++ x :: D) ((A.length : Int) + ((P0 ++ [y]).length : Int)) = x := rdT_app _ x D (by simp)
    have ey : rd_T66 (A ++ (P0 ++ [y]) ++ x :: D) ((A.length : Int) + (P0.length : Int)) = y := by rw [e]; exact rdT_app _ y _ (by simp)
    by_cases c : y.f0 < x.f0
    · obtain ⟨P1, P2, rfl, h1, h2, h3⟩ := ih A P0 x (y :: D) (by omega) hs0 (by simp; omega)
      refine ⟨P1, P2 ++ [y], by simp, h1, fun p hp => ?_, fun r K h k hk => ?_⟩
      · rcases List.mem_append.1 hp with hp | hp
        · exact h2 p hp
        · rw [List.mem_singleton.1 hp]; exact c
      · obtain ⟨k, rfl⟩ : ∃ m, k = m + 1 := ⟨k - 1, by omega⟩
        have h' := h3 r K (fun k hk => by have := h k hk; simpa using this) k (by omega)
        have sw := swap2 (A ++ (P1 ++ P2)) y [] x D (i := (A.length : Int) + ((P1 ++ P2).length : Int)) (j := (A.length : Int) + ((P1 ++ P2 ++ [y]).length : Int)) (by simp) (by simp; omega)
        simp only [share_rest_63.l1]
        rw [if_pos (by simp; omega), if_pos (by omega), if_pos (by simp; omega), ej, if_pos (by omega), if_pos (by simp; omega), ex, ey, cmp_eq]
        simp only [Option.bind_some]
        rw [if_pos ((cmp_lt x y).2 c)]
        have sw' : ((A ++ (P1 ++ P2 ++ [y]) ++ x :: D).set ((A.length : Int) + ((P1 ++ P2 ++ [y]).length : Int)).toNat (⟨y.f0, y.f1⟩ : S66)).set ((A.length : Int) + ((P1 ++ P2).length : Int)).toNat (⟨x.f0, x.f1⟩ : S66) = A ++ (P1 ++ P2) ++ x :: (y :: D) := by
          rw [e, List.set_comm _ _ (by simp; omega)]
          have ex' : rd_T66 ((A ++ (P1 ++ P2)) ++ y :: ([] ++ x :: D)) ((A.length : Int) + ((P1 ++ P2 ++ [y]).length : Int)) = x := by rw [← e]; exact ex
          have ey' : rd_T66 ((A ++ (P1 ++ P2)) ++ y :: ([] ++ x :: D)) ((A.length : Int) + ((P1 ++ P2).length : Int)) = y := by rw [← e]; exact ey
          rw [ex', ey'] at sw
          simpa using sw
        rw [sw']
        exact h'
    · refine ⟨P0 ++ [y], [], by simp, fun p hp => ?_, by simp, fun r K h k hk => ?_⟩
      · rcases List.mem_append.1 hp with hp | hp
        · have := hsy p hp
          unfold lt at this
          omega
        · rw [List.mem_singleton.1 hp]; omega
      · obtain ⟨k, rfl⟩ : ∃ m, k = m + 1 := ⟨k - 1, by omega⟩
        have h' := h k (by omega)
        simp only [share_rest_63.l1]
        rw [if_pos (by simp; omega), if_pos (by omega), if_pos (by simp; omega), ej, if_pos (by omega), if_pos (by simp; omega), ex, ey, cmp_eq]
        simp only [Option.bind_some]
        rw [if_neg (fun h => c ((cmp_lt x y).1 h))]
        simpa using h'

/-- Places that rise. -/
def Ris (l : List S66) : Prop := l.Pairwise fun a b => a.f1 < b.f1
theorem ins_l0 (A B : List S66) : ∀ (N P : List S66), Srt P → (∀ p ∈ P, ∀ q ∈ N, p.f1 < q.f1) → Ris N → A.length + P.length + N.length + B.length ≤ 1152921504606846976 →
    ∃ Q, Q.Perm (P ++ N) ∧ Srt Q ∧ ∃ K, ∀ k, K ≤ k → share_rest_63.l0 k (A ++ P ++ (N ++ B)) (A.length : Int) ((A.length : Int) + (P.length : Int) + (N.length : Int)) ((A.length : Int) + (P.length : Int)) = some (A ++ Q ++ B)
  | [], P, hs, _, _, hb => by
    refine ⟨P, by simp, hs, 1, fun k hk => ?_⟩
    obtain ⟨k, rfl⟩ : ∃ m, k = m + 1 := ⟨k - 1, by omega⟩
    simp only [share_rest_63.l0]
    rw [if_neg (by simp)]
    rfl
  | x :: N, P, hs, hlt, hr, hb => by
    simp only [List.length_cons] at hb
    obtain ⟨P1, P2, rfl, h1, h2, h3⟩ := ins_l1 ((A.length : Int) + (P.length : Int) + ((x :: N).length : Int)) ((A.length : Int) + (P.length : Int)) P.length A P x (N ++ B) rfl hs (by simp; omega)
    have hs' : Srt (P1 ++ x :: P2) := by
      obtain ⟨g1, g2, g3⟩ := List.pairwise_append.1 hs
      refine List.pairwise_append.2 ⟨g1, List.pairwise_cons.2 ⟨fun p hp => Or.inl (h2 p hp), g2⟩, fun p hp q hq => ?_⟩
      have hx : lt p x := by
        have a1 := h1 p hp
        have a2 := hlt p (by simp [hp]) x (by simp)
        unfold lt
        omega
      rcases List.mem_cons.1 hq with rfl | hq
      · exact hx
      · exact g3 p hp q hq
    obtain ⟨hrx, hrN⟩ := List.pairwise_cons.1 hr
    obtain ⟨Q, q1, q2, K, hK⟩ := ins_l0 A B N (P1 ++ x :: P2) hs' (fun p hp q hq => by
      rcases List.mem_append.1 hp with hp | hp
      · exact hlt p (by simp [hp]) q (by simp [hq])
      · rcases List.mem_cons.1 hp with rfl | hp
        · exact hrx q hq
        · exact hlt p (by simp [hp]) q (by simp [hq])) hrN (by simp at hb ⊢; omega)
    refine ⟨Q, q1.trans (by
      have : (P1 ++ x :: P2 ++ N).Perm ((P1 ++ P2) ++ x :: N) := by
        refine List.Perm.trans (List.Perm.append_right N List.perm_middle) ?_
        exact List.perm_middle.symm
      exact this), q2, K + (P1 ++ P2).length + 2, fun k hk => ?_⟩
    obtain ⟨k, rfl⟩ : ∃ m, k = m + 1 := ⟨k - 1, by omega⟩
    simp only [share_rest_63.l0]
    rw [if_pos (by simp; omega)]
    have g := h3 (A ++ Q ++ B) K (fun k hk => by
      have e := hK k hk
      rw [w64' (by simp at hb ⊢; omega) (by simp at hb ⊢; omega)]
      have e1 : (A.length : Int) + ((P1 ++ x :: P2).length : Int) + (N.length : Int) = (A.length : Int) + ((P1 ++ P2).length : Int) + ((x :: N).length : Int) := by simp; omega
      have e2 : (A.length : Int) + ((P1 ++ x :: P2).length : Int) = (A.length : Int) + ((P1 ++ P2).length : Int) + 1 := by simp; omega
      rw [e1, e2] at e
      simpa using e) k (by omega)
    simpa using g
theorem insSort_eq (A M B : List S66) (hr : Ris M) (hb : A.length + M.length + B.length ≤ 1152921504606846976) : ∃ Q, Q.Perm M ∧ Srt Q ∧ ∃ K, ∀ k, K ≤ k → ∀ u, share_rest_63.f k (A ++ M ++ B) (A.length : Int) ((A.length : Int) + (M.length : Int)) u = some (A ++ Q ++ B) := by
  cases M with
  | nil =>
    refine ⟨[], by simp, List.Pairwise.nil, 1, fun k hk u => ?_⟩
    obtain ⟨k, rfl⟩ : ∃ m, k = m + 1 := ⟨k - 1, by omega⟩
    simp only [share_rest_63.f, share_rest_63.l0]
    rw [w64' (by omega) (by simp at hb; omega), if_neg (by simp; omega)]
  | cons x N =>
    obtain ⟨hrx, hrN⟩ := List.pairwise_cons.1 hr
    obtain ⟨Q, q1, q2, K, hK⟩ := ins_l0 A B N [x] (List.pairwise_singleton _ _) (fun p hp q hq => by rw [List.mem_singleton.1 hp]; exact hrx q hq) hrN (by simp at hb ⊢; omega)
    refine ⟨Q, by simpa using q1, q2, K, fun k hk u => ?_⟩
    have e := hK k hk
    simp only [share_rest_63.f]
    rw [w64' (by omega) (by simp at hb; omega)]
    have e1 : (A.length : Int) + ([x].length : Int) + (N.length : Int) = (A.length : Int) + ((x :: N).length : Int) := by simp; omega
    have e2 : (A.length : Int) + ([x].length : Int) = (A.length : Int) + 1 := by simp
    rw [e1, e2] at e
    simpa using e
end Go.Proofs.Ytjjlmmebkemlgaa.PS
