/- What the printed symMerge comes to, over rests: two sorted stretches, the first one's places below the second one's, are merged. -/
import Derived.Test.YtjjlmmebkemlgaaInsertS
import Derived.Test.YtjjlmmebkemlgaaPSx0
import Derived.Test.YtjjlmmebkemlgaaPSx4
namespace Go.Proofs.Ytjjlmmebkemlgaa.PS
open Go.RowKit Go.Proofs.YtjjlmmebkemlgaaW.PrintWords Go.Proofs.YtjjlmmebkemlgaaW.PrintLast Go.Proofs.YtjjlmmebkemlgaaW.PrintMore

theorem mid_eq {n : Int} (h : 0 ≤ n) (h' : n ≤ 9223372036854775807) : wrap64 ((IntKind.u64.wrap (wrap64 n)) / 2) = n / 2 := by
  rw [w64' (n := n) (by omega) h']
  have e : IntKind.u64.wrap n = n := by
    simp only [IntKind.wrap, IntKind.bits, IntKind.signed, Bool.false_and, Bool.false_eq_true, if_false]
    omega
  rw [e, w64' (by omega) (by omega)]
/-- The same, the later place first. -/
theorem swap2' (A : List S66) (x : S66) (B : List S66) (y : S66) (C : List S66) {i j : Int} (hi : i = (A.length : Int)) (hj : j = (A.length : Int) + 1 + (B.length : Int)) :
    ((A ++ x :: (B ++ y :: C)).set j.toNat (⟨(rd_T66 (A ++ x :: (B ++ y :: C)) i).f0, (rd_T66 (A ++ x :: (B ++ y :: C)) i).f1⟩ : S66)).set i.toNat (⟨(rd_T66 (A ++ x :: (B ++ y :: C)) j).f0, (rd_T66 (A ++ x :: (B ++ y :: C)) j).f1⟩ : S66) = A ++ y :: (B ++ x :: C) := by
  rw [List.set_comm _ _ (by omega)]
  exact swap2 A x B y C hi hj

theorem mv_l1 (A : List S66) (x : S66) (E : List S66) : ∀ (S D : List S66) (k : Nat), A.length + D.length + S.length + E.length ≤ 1152921504606846976 → S.length + 1 ≤ k →
    share_rest_64.l1 k (A ++ D ++ x :: (S ++ E)) ((A.length : Int) + (D.length : Int) + (S.length : Int) + 1) ((A.length : Int) + (D.length : Int)) = some (A ++ D ++ S ++ x :: E)
  | [], D, k, hb, hk => by
    obtain ⟨k, rfl⟩ : ∃ m, k = m + 1 := ⟨k - 1, by omega⟩
    simp only [share_rest_64.l1]
    rw [w64' (by simp at hb ⊢; omega) (by simp at hb ⊢; omega), if_neg (by simp)]
    simp
  | y :: S, D, k, hb, hk => by
    obtain ⟨k, rfl⟩ : ∃ m, k = m + 1 := ⟨k - 1, by omega⟩
    simp only [List.length_cons] at hb hk
    have ih := mv_l1 A x E S (D ++ [y]) k (by simp; omega) (by omega)
    have sw := swap2 (A ++ D) x [] y (S ++ E) (i := (A.length : Int) + (D.length : Int)) (j := (A.length : Int) + (D.length : Int) + 1) (by simp) (by simp)
    simp only [share_rest_64.l1]
    rw [w64' (n := (A.length : Int) + (D.length : Int) + ((y :: S).length : Int) + 1 - 1) (by simp; omega) (by simp; omega), w64' (n := (A.length : Int) + (D.length : Int) + 1) (by omega) (by omega)]
    rw [if_pos (by simp; omega), if_pos (by omega), if_pos (by simp; omega), if_pos (by omega), if_pos (by simp; omega)]
    simp only [List.nil_append, List.cons_append] at sw ⊢
    rw [sw]
    have e1 : A ++ D ++ y :: x :: (S ++ E) = A ++ (D ++ [y]) ++ x :: (S ++ E) := by simp
    have e2 : (A.length : Int) + (D.length : Int) + ((y :: S).length : Int) + 1 = (A.length : Int) + ((D ++ [y]).length : Int) + (S.length : Int) + 1 := by simp; omega
    have e3 : (A.length : Int) + (D.length : Int) + 1 = (A.length : Int) + ((D ++ [y]).length : Int) := by simp; omega
    rw [e1, e2, e3, ih]
    simp
theorem mv_l3 (A : List S66) (y : S66) : ∀ (n : Nat) (S E : List S66) (k : Nat), S.length = n → A.length + S.length + E.length ≤ 1152921504606846976 → n + 1 ≤ k →
    share_rest_64.l3 k (A ++ S ++ y :: E) (A.length : Int) ((A.length : Int) + (S.length : Int)) = some (A ++ y :: (S ++ E)) := by
  intro n
  induction n with
  | zero =>
    intro S E k hn hb hk
    obtain rfl : S = [] := List.length_eq_zero_iff.1 hn
    obtain ⟨k, rfl⟩ : ∃ m, k = m + 1 := ⟨k - 1, by omega⟩
    simp only [share_rest_64.l3]
    rw [if_neg (by simp)]
    simp
  | succ n ih =>
    intro S E k hn hb hk
    obtain ⟨S, z, rfl⟩ : ∃ P0 y, S = P0 ++ [y] := ⟨S.dropLast, S.getLast (by intro h; simp [h] at hn), (List.dropLast_concat_getLast _).symm⟩
    obtain ⟨k, rfl⟩ : ∃ m, k = m + 1 := ⟨k - 1, by omega⟩
    simp only [List.length_append, List.length_cons, List.length_nil] at hn hb
    have ih := ih S (z :: E) k (by omega) (by simp; omega) (by omega)
    have sw := swap2' (A ++ S) z [] y E (i := (A.length : Int) + (S.length : Int)) (j := (A.length : Int) + ((S ++ [z]).length : Int)) (by simp) (by simp; omega)
    have e : A ++ (S ++ [z]) ++ y :: E = A ++ S ++ z :: ([] ++ y :: E) := by simp
    have ew : wrap64 ((A.length : Int) + ((S ++ [z]).length : Int) - 1) = (A.length : Int) + (S.length : Int) := by rw [w64' (by simp; omega) (by simp; omega)]; simp; omega
    simp only [share_rest_64.l3]
    rw [ew]
    rw [if_pos (by simp; omega), if_pos (by omega), if_pos (by simp; omega), if_pos (by omega), if_pos (by simp; omega)]
    rw [e, sw]
    simp only [List.nil_append]
    rw [ih]
    simp

theorem srt_f0 {p q : S66} (h : lt p q) : q.f0 ≤ p.f0 := by unfold lt at h; omega

/-- The search for the place of the one first element. -/
theorem find_l0 (A : List S66) (x : S66) (B : List S66) : ∀ (n : Nat) (R1 M R2 : List S66), M.length = n → Srt (R1 ++ M ++ R2) → (∀ p ∈ R1, x.f0 < p.f0) → (∀ q ∈ R2, q.f0 ≤ x.f0) → A.length + R1.length + M.length + R2.length + B.length ≤ 1152921504606846976 →
    ∃ S T, R1 ++ M ++ R2 = S ++ T ∧ (∀ p ∈ S, x.f0 < p.f0) ∧ (∀ q ∈ T, q.f0 ≤ x.f0) ∧ ∀ r K, (∀ k, K ≤ k → share_rest_64.l1 k (A ++ x :: (S ++ T ++ B)) ((A.length : Int) + 1 + (S.length : Int)) (A.length : Int) = some r) →
      ∀ k, K + n + 1 ≤ k → share_rest_64.l0 k (A ++ x :: (R1 ++ M ++ R2 ++ B)) (A.length : Int) ((A.length : Int) + 1 + (R1.length : Int)) ((A.length : Int) + 1 + (R1.length : Int) + (M.length : Int)) = some r := by
  intro n
  induction n using Nat.strongRecOn with
  | _ n ih =>
    intro R1 M R2 hn hs h1 h2 hb
    by_cases hz : M = []
    · subst hz
      refine ⟨R1, R2, by simp, h1, h2, fun r K h k hk => ?_⟩
      obtain ⟨k, rfl⟩ : ∃ m, k = m + 1 := ⟨k - 1, by omega⟩
      simp only [share_rest_64.l0]
      rw [if_neg (by simp)]
      have := h k (by omega)
      simpa using this
    · have hpos : 0 < M.length := List.length_pos_iff.2 hz
      obtain ⟨M1, c, M2, rfl, hm⟩ : ∃ M1 c M2, M = M1 ++ c :: M2 ∧ M1.length = M.length / 2 := by
        have hlt : M.length / 2 < M.length := by omega
        exact ⟨M.take (M.length / 2), M[M.length / 2], M.drop (M.length / 2 + 1), by rw [List.getElem_cons_drop, List.take_append_drop], by simp; omega⟩
      simp only [List.length_append, List.length_cons] at hn hb hm
      have eh : wrap64 ((IntKind.u64.wrap (wrap64 ((A.length : Int) + 1 + (R1.length : Int) + ((A.length : Int) + 1 + (R1.length : Int) + ((M1 ++ c :: M2).length : Int))))) / 2) = (A.length : Int) + 1 + (R1.length : Int) + (M1.length : Int) := by
        rw [mid_eq (by omega) (by simp; omega)]
        simp only [List.length_append, List.length_cons]
        omega
      have el : A ++ x :: (R1 ++ (M1 ++ c :: M2) ++ R2 ++ B) = (A ++ x :: (R1 ++ M1)) ++ c :: (M2 ++ R2 ++ B) := by simp
      have ec : rd_T66 (A ++ x :: (R1 ++ (M1 ++ c :: M2) ++ R2 ++ B)) ((A.length : Int) + 1 + (R1.length : Int) + (M1.length : Int)) = c := by
        rw [el]
        exact rdT_app _ c _ (by simp; omega)
      have ex : rd_T66 (A ++ x :: (R1 ++ (M1 ++ c :: M2) ++ R2 ++ B)) (A.length : Int) = x := rdT_app A x _ rfl
      have step : ∀ k, share_rest_64.l0 (k + 1) (A ++ x :: (R1 ++ (M1 ++ c :: M2) ++ R2 ++ B)) (A.length : Int) ((A.length : Int) + 1 + (R1.length : Int)) ((A.length : Int) + 1 + (R1.length : Int) + ((M1 ++ c :: M2).length : Int)) =
          if x.f0 < c.f0 then share_rest_64.l0 k (A ++ x :: (R1 ++ (M1 ++ c :: M2) ++ R2 ++ B)) (A.length : Int) ((A.length : Int) + 1 + (R1.length : Int) + (M1.length : Int) + 1) ((A.length : Int) + 1 + (R1.length : Int) + ((M1 ++ c :: M2).length : Int))
          else share_rest_64.l0 k (A ++ x :: (R1 ++ (M1 ++ c :: M2) ++ R2 ++ B)) (A.length : Int) ((A.length : Int) + 1 + (R1.length : Int)) ((A.length : Int) + 1 + (R1.length : Int) + (M1.length : Int)) := by
        intro k
        simp only [share_rest_64.l0]
        rw [eh]
        rw [if_pos (by simp; omega), if_pos (by omega), if_pos (by simp; omega), if_pos (by omega), if_pos (by simp; omega), ec, ex, cmp_eq, w64' (by omega) (by omega)]
        simp only [Option.bind_some]
        by_cases cc : x.f0 < c.f0
        · rw [if_pos cc, if_pos ((cmp_lt c x).2 cc)]
        · rw [if_neg cc, if_neg (fun h => cc ((cmp_lt c x).1 h))]
      have hs' := hs
      rw [List.append_assoc] at hs'
      obtain ⟨g1, g2, g3⟩ := List.pairwise_append.1 hs'
      rw [List.append_assoc] at g2
      obtain ⟨g4, g5, g6⟩ := List.pairwise_append.1 g2
      obtain ⟨g7, g8⟩ := List.pairwise_cons.1 g5
      by_cases cc : x.f0 < c.f0
      · obtain ⟨S, T, e, k1, k2, k3⟩ := ih M2.length (by omega) (R1 ++ M1 ++ [c]) M2 R2 rfl (by simpa using hs) (fun p hp => by
          rcases List.mem_append.1 hp with hp | hp
          · rcases List.mem_append.1 hp with hp | hp
            · exact h1 p hp
            · have := srt_f0 (g6 p hp c (by simp)); omega
          · rw [List.mem_singleton.1 hp]; exact cc) h2 (by simp; omega)
        refine ⟨S, T, by rw [← e]; simp, k1, k2, fun r K h k hk => ?_⟩
        obtain ⟨k, rfl⟩ : ∃ m, k = m + 1 := ⟨k - 1, by omega⟩
        rw [step, if_pos cc]
        have := k3 r K h k (by omega)
        have e1 : (A.length : Int) + 1 + ((R1 ++ M1 ++ [c]).length : Int) = (A.length : Int) + 1 + (R1.length : Int) + (M1.length : Int) + 1 := by simp; omega
        have e2 : (A.length : Int) + 1 + (R1.length : Int) + (M1.length : Int) + 1 + (M2.length : Int) = (A.length : Int) + 1 + (R1.length : Int) + ((M1 ++ c :: M2).length : Int) := by simp; omega
        rw [e1, e2] at this
        simpa using this
      · obtain ⟨S, T, e, k1, k2, k3⟩ := ih M1.length (by omega) R1 M1 (c :: M2 ++ R2) rfl (by simpa using hs) h1 (fun q hq => by
          rcases List.mem_append.1 hq with hq | hq
          · rcases List.mem_cons.1 hq with rfl | hq
            · omega
            · have := srt_f0 (g7 q (by simp [hq])); omega
          · exact h2 q hq) (by simp; omega)
        refine ⟨S, T, by rw [← e]; simp, k1, k2, fun r K h k hk => ?_⟩
        obtain ⟨k, rfl⟩ : ∃ m, k = m + 1 := ⟨k - 1, by omega⟩
        rw [step, if_neg cc]
        have := k3 r K h k (by omega)
        simpa using this
/-- The search for the place of the one last element. -/
theorem find_l2 (A : List S66) (y : S66) (B : List S66) : ∀ (n : Nat) (L1 M L2 : List S66), M.length = n → Srt (L1 ++ M ++ L2) → (∀ p ∈ L1, y.f0 ≤ p.f0) → (∀ q ∈ L2, q.f0 < y.f0) → A.length + L1.length + M.length + L2.length + B.length ≤ 1152921504606846976 →
    ∃ S T, L1 ++ M ++ L2 = S ++ T ∧ (∀ p ∈ S, y.f0 ≤ p.f0) ∧ (∀ q ∈ T, q.f0 < y.f0) ∧ ∀ r K, (∀ k, K ≤ k → share_rest_64.l3 k (A ++ S ++ T ++ y :: B) ((A.length : Int) + (S.length : Int)) ((A.length : Int) + (S.length : Int) + (T.length : Int)) = some r) →
      ∀ k, K + n + 1 ≤ k → share_rest_64.l2 k (A ++ (L1 ++ M ++ L2) ++ y :: B) ((A.length : Int) + (L1.length : Int) + (M.length : Int) + (L2.length : Int)) ((A.length : Int) + (L1.length : Int)) ((A.length : Int) + (L1.length : Int) + (M.length : Int)) = some r := by
  intro n
  induction n using Nat.strongRecOn with
  | _ n ih =>
    intro L1 M L2 hn hs h1 h2 hb
    by_cases hz : M = []
    · subst hz
      refine ⟨L1, L2, by simp, h1, h2, fun r K h k hk => ?_⟩
      obtain ⟨k, rfl⟩ : ∃ m, k = m + 1 := ⟨k - 1, by omega⟩
      simp only [share_rest_64.l2]
      rw [if_neg (by simp)]
      have := h k (by omega)
      simpa using this
    · have hpos : 0 < M.length := List.length_pos_iff.2 hz
      obtain ⟨M1, c, M2, rfl, hm⟩ : ∃ M1 c M2, M = M1 ++ c :: M2 ∧ M1.length = M.length / 2 := by
        have hlt : M.length / 2 < M.length := by omega
        exact ⟨M.take (M.length / 2), M[M.length / 2], M.drop (M.length / 2 + 1), by rw [List.getElem_cons_drop, List.take_append_drop], by simp; omega⟩
      simp only [List.length_append, List.length_cons] at hn hb hm
      have eh : wrap64 ((IntKind.u64.wrap (wrap64 ((A.length : Int) + (L1.length : Int) + ((A.length : Int) + (L1.length : Int) + ((M1 ++ c :: M2).length : Int))))) / 2) = (A.length : Int) + (L1.length : Int) + (M1.length : Int) := by
        rw [mid_eq (by omega) (by simp; omega)]
        simp only [List.length_append, List.length_cons]
        omega
      have el : A ++ (L1 ++ (M1 ++ c :: M2) ++ L2) ++ y :: B = (A ++ L1 ++ M1) ++ c :: (M2 ++ L2 ++ y :: B) := by simp
      have ec : rd_T66 (A ++ (L1 ++ (M1 ++ c :: M2) ++ L2) ++ y :: B) ((A.length : Int) + (L1.length : Int) + (M1.length : Int)) = c := by
        rw [el]
        exact rdT_app _ c _ (by simp; omega)
      have ey : rd_T66 (A ++ (L1 ++ (M1 ++ c :: M2) ++ L2) ++ y :: B) ((A.length : Int) + (L1.length : Int) + ((M1 ++ c :: M2).length : Int) + (L2.length : Int)) = y := rdT_app _ y _ (by simp; omega)
      have step : ∀ k, share_rest_64.l2 (k + 1) (A ++ (L1 ++ (M1 ++ c :: M2) ++ L2) ++ y :: B) ((A.length : Int) + (L1.length : Int) + ((M1 ++ c :: M2).length : Int) + (L2.length : Int)) ((A.length : Int) + (L1.length : Int)) ((A.length : Int) + (L1.length : Int) + ((M1 ++ c :: M2).length : Int)) =
          if c.f0 < y.f0 then share_rest_64.l2 k (A ++ (L1 ++ (M1 ++ c :: M2) ++ L2) ++ y :: B) ((A.length : Int) + (L1.length : Int) + ((M1 ++ c :: M2).length : Int) + (L2.length : Int)) ((A.length : Int) + (L1.length : Int)) ((A.length : Int) + (L1.length : Int) + (M1.length : Int))
          else share_rest_64.l2 k (A ++ (L1 ++ (M1 ++ c :: M2) ++ L2) ++ y :: B) ((A.length : Int) + (L1.length : Int) + ((M1 ++ c :: M2).length : Int) + (L2.length : Int)) ((A.length : Int) + (L1.length : Int) + (M1.length : Int) + 1) ((A.length : Int) + (L1.length : Int) + ((M1 ++ c :: M2).length : Int)) := by
        intro k
        simp only [share_rest_64.l2]
        rw [eh]
        rw [if_pos (by simp; omega), if_pos (by omega), if_pos (by simp; omega), if_pos (by omega), if_pos (by simp; omega), ec, ey, cmp_eq, w64' (by omega) (by omega)]
        simp only [Option.bind_some]
        by_cases cc : c.f0 < y.f0
        · rw [if_pos cc, if_pos ((cmp_lt y c).2 cc)]
        · rw [if_neg cc, if_neg (fun h => cc ((cmp_lt y c).1 h))]
      have hs' := hs
      rw [List.append_assoc] at hs'
      obtain ⟨g1, g2, g3⟩ := List.pairwise_append.1 hs'
      rw [List.append_assoc] at g2
      obtain ⟨g4, g5, g6⟩ := List.pairwise_append.1 g2
      obtain ⟨g7, g8⟩ := List.pairwise_cons.1 g5
      by_cases cc : c.f0 < y.f0
      · obtain ⟨S, T, e, k1, k2, k3⟩ := ih M1.length (by omega) L1 M1 (c :: M2 ++ L2) rfl (by simpa using hs) h1 (fun q hq => by
          rcases List.mem_append.1 hq with hq | hq
          · rcases List.mem_cons.1 hq with rfl | hq
            · exact cc
            · have := srt_f0 (g7 q (by simp [hq])); omega
          · exact h2 q hq) (by simp; omega)
        refine ⟨S, T, by rw [← e]; simp, k1, k2, fun r K h k hk => ?_⟩
        obtain ⟨k, rfl⟩ : ∃ m, k = m + 1 := ⟨k - 1, by omega⟩
        rw [step, if_pos cc]
        have := k3 r K h k (by omega)
        have e2 : (A.length : Int) + (L1.length : Int) + (M1.length : Int) + ((c :: M2 ++ L2).length : Int) = (A.length : Int) + (L1.length : Int) + ((M1 ++ c :: M2).length : Int) + (L2.length : Int) := by simp; omega
        rw [e2] at this
        simpa using this
      · obtain ⟨S, T, e, k1, k2, k3⟩ := ih M2.length (by omega) (L1 ++ M1 ++ [c]) M2 L2 rfl (by simpa using hs) (fun p hp => by
          rcases List.mem_append.1 hp with hp | hp
          · rcases List.mem_append.1 hp with hp | hp
            · exact h1 p hp
            · have := srt_f0 (g6 p hp c (by simp)); omega
          · rw [List.mem_singleton.1 hp]; omega) h2 (by simp; omega)
        refine ⟨S, T, by rw [← e]; simp, k1, k2, fun r K h k hk => ?_⟩
        obtain ⟨k, rfl⟩ : ∃ m, k = m + 1 := ⟨k - 1, by omega⟩
        rw [step, if_neg cc]
        have := k3 r K h k (by omega)
        have e1 : (A.length : Int) + ((L1 ++ M1 ++ [c]).length : Int) = (A.length : Int) + (L1.length : Int) + (M1.length : Int) + 1 := by simp; omega
        have e2 : (A.length : Int) + (L1.length : Int) + (M1.length : Int) + 1 + (M2.length : Int) = (A.length : Int) + (L1.length : Int) + ((M1 ++ c :: M2).length : Int) := by simp; omega
        rw [e1, e2] at this
        simpa using this

/-- Every place of the first below every one of the second. -/
def Bel (L R : List S66) : Prop := ∀ p ∈ L, ∀ q ∈ R, p.f1 < q.f1
theorem lt_of_le {p q : S66} (h : q.f0 ≤ p.f0) (h' : p.f1 < q.f1) : lt p q := by unfold lt; omega
def MergeOk (L R : List S66) : Prop := ∀ A B : List S66, A.length + L.length + R.length + B.length ≤ 1152921504606846976 → ∃ Q, Q.Perm (L ++ R) ∧ Srt Q ∧ ∃ K, ∀ k, K ≤ k → ∀ u, share_rest_64.f k (A ++ L ++ R ++ B) (A.length : Int) ((A.length : Int) + (L.length : Int)) ((A.length : Int) + (L.length : Int) + (R.length : Int)) u = some (A ++ Q ++ B)

theorem merge_one (x : S66) (R : List S66) (hs : Srt R) (hl : Bel [x] R) : MergeOk [x] R := by
  intro A B hb
  simp only [List.length_cons, List.length_nil] at hb
  obtain ⟨S, T, e, k1, k2, k3⟩ := find_l0 A x B R.length [] R [] rfl (by simpa using hs) (by simp) (by simp) (by simp; omega)
  simp only [List.nil_append, List.append_nil] at e
  subst e
  simp only [List.length_append] at hb
  refine ⟨S ++ x :: T, List.perm_middle, ?_, S.length + 1 + (S ++ T).length + 2, fun k hk u => ?_⟩
  · obtain ⟨g1, g2, g3⟩ := List.pairwise_append.1 hs
    refine List.pairwise_append.2 ⟨g1, List.pairwise_cons.2 ⟨fun q hq => lt_of_le (k2 q hq) (hl x (by simp) q (by simp [hq])), g2⟩, fun p hp q hq => ?_⟩
    rcases List.mem_cons.1 hq with rfl | hq
    · exact Or.inl (k1 p hp)
    · exact g3 p hp q hq
  · obtain ⟨k, rfl⟩ : ∃ m, k = m + 1 := ⟨k - 1, by omega⟩
    have h := k3 (A ++ (S ++ x :: T) ++ B) (S.length + 1) (fun k hk => by
      have := mv_l1 A x (T ++ B) S [] k (by simp; omega) (by omega)
      have e1 : (A.length : Int) + (([] : List S66).length : Int) + (S.length : Int) + 1 = (A.length : Int) + 1 + (S.length : Int) := by simp; omega
      rw [e1] at this
      simpa using this) k (by omega)
    simp only [share_rest_64.f]
    rw [w64' (by simp; omega) (by simp; omega), if_pos (by simp; omega)]
    simpa using h
theorem merge_last (L : List S66) (y : S66) (hne : 1 < L.length) (hs : Srt L) (hl : Bel L [y]) : MergeOk L [y] := by
  intro A B hb
  simp only [List.length_cons, List.length_nil] at hb
  obtain ⟨S, T, e, k1, k2, k3⟩ := find_l2 A y B L.length [] L [] rfl (by simpa using hs) (by simp) (by simp) (by simp; omega)
  simp only [List.nil_append, List.append_nil] at e
  subst e
  simp only [List.length_append] at hb hne
  refine ⟨S ++ y :: T, ?_, ?_, T.length + 1 + (S ++ T).length + 2, fun k hk u => ?_⟩
  · rw [List.append_assoc]
    exact List.Perm.append_left S (List.perm_append_comm (l₁ := [y]) (l₂ := T))
  · obtain ⟨g1, g2, g3⟩ := List.pairwise_append.1 hs
    refine List.pairwise_append.2 ⟨g1, List.pairwise_cons.2 ⟨fun q hq => Or.inl (k2 q hq), g2⟩, fun p hp q hq => ?_⟩
    rcases List.mem_cons.1 hq with rfl | hq
    · exact lt_of_le (k1 p hp) (hl p (by simp [hp]) q (by simp))
    · exact g3 p hp q hq
  · obtain ⟨k, rfl⟩ : ∃ m, k = m + 1 := ⟨k - 1, by omega⟩
    have h := k3 (A ++ (S ++ y :: T) ++ B) (T.length + 1) (fun k hk => by
      have := mv_l3 (A ++ S) y T.length T B k rfl (by simp; omega) (by omega)
      have e1 : ((A ++ S).length : Int) = (A.length : Int) + (S.length : Int) := by simp
      rw [e1] at this
      simpa using this) k (by omega)
    simp only [share_rest_64.f]
    rw [w64' (n := (A.length : Int) + ((S ++ T).length : Int) - (A.length : Int)) (by simp; omega) (by simp; omega), if_neg (by simp; omega)]
    rw [w64' (by simp; omega) (by simp; omega), if_pos (by simp; omega)]
    simpa using h

theorem bel_cross {p q : S66} (h : ¬ p.f0 < q.f0) (h' : p.f1 < q.f1) : lt p q := by unfold lt; omega
/-- The search for where the halves are cut: L = L1 ++ L2, R = R1 ++ R2, all of L1 and R1 ahead of all of L2 and R2. -/
theorem cut_l4 (A L R B : List S66) (x1 x2 x3 x18 x19 x22 : Int) (u : Unit) (hx : x22 = (A.length : Int) + ((L.length + R.length) / 2 : Nat) + (A.length : Int) + (L.length : Int) - 1)
    (hb : A.length + L.length + R.length + B.length ≤ 1152921504606846976) (lo hi : Nat) (hlo : lo + R.length ≥ (L.length + R.length) / 2) (hhi : hi ≤ L.length) (hhi' : hi ≤ (L.length + R.length) / 2) : ∀ (n s e : Nat), e - s = n → lo ≤ s → s ≤ e → e ≤ hi →
    (s = lo ∨ ¬ (∀ p q, L[s - 1]? = some p → R[(L.length + R.length) / 2 - s]? = some q → p.f0 < q.f0)) → (e = hi ∨ (∀ p q, L[e]? = some p → R[(L.length + R.length) / 2 - e - 1]? = some q → p.f0 < q.f0)) →
    ∃ s', lo ≤ s' ∧ s' ≤ hi ∧ (s' = lo ∨ ¬ (∀ p q, L[s' - 1]? = some p → R[(L.length + R.length) / 2 - s']? = some q → p.f0 < q.f0)) ∧ (s' = hi ∨ (∀ p q, L[s']? = some p → R[(L.length + R.length) / 2 - s' - 1]? = some q → p.f0 < q.f0)) ∧
      ∀ r K, (∀ k, K ≤ k → (if (A.length : Int) + (s' : Int) < x2 then (share_rest_64.j6 k (A ++ L ++ R ++ B) x1 x2 x3 u x18 ((A.length : Int) + (s' : Int)) (wrap64 (x19 - ((A.length : Int) + (s' : Int)))) (decide (x2 < (wrap64 (x19 - ((A.length : Int) + (s' : Int))))))) else (share_rest_64.j6 k (A ++ L ++ R ++ B) x1 x2 x3 u x18 ((A.length : Int) + (s' : Int)) (wrap64 (x19 - ((A.length : Int) + (s' : Int)))) false)) = some r) →
        ∀ k, K + n + 1 ≤ k → share_rest_64.l4 k (A ++ L ++ R ++ B) x1 x2 x3 u x18 x19 ((A.length : Int) + (s : Int)) ((A.length : Int) + (e : Int)) x22 = some r := by
  intro n
  induction n using Nat.strongRecOn with
  | _ n ih =>
    intro s e hn hs hse he h1 h2
    by_cases hz : s = e
    · subst hz
      refine ⟨s, hs, he, h1, h2, fun r K h k hk => ?_⟩
      obtain ⟨k, rfl⟩ : ∃ m, k = m + 1 := ⟨k - 1, by omega⟩
      simp only [share_rest_64.l4]
      rw [if_neg (by omega)]
      exact h k (by omega)
    · obtain ⟨c, hc⟩ : ∃ c : Nat, c = (s + e) / 2 := ⟨_, rfl⟩
      have hcs : s ≤ c := by omega
      have hce : c < e := by omega
      have hcL : c < L.length := by omega
      have hcR : (L.length + R.length) / 2 - c - 1 < R.length := by omega
      obtain ⟨p, hp⟩ : ∃ p, p = L[c] := ⟨_, rfl⟩
      obtain ⟨q, hq⟩ : ∃ q, q = R[(L.length + R.length) / 2 - c - 1] := ⟨_, rfl⟩
      have eh : wrap64 ((IntKind.u64.wrap (wrap64 ((A.length : Int) + (s : Int) + ((A.length : Int) + (e : Int))))) / 2) = (A.length : Int) + (c : Int) := by
        rw [mid_eq (by omega) (by omega)]
        omega
      replace eh := Aside0.mk eh
      have ex : wrap64 (x22 - ((A.length : Int) + (c : Int))) = ((A.length + L.length + ((L.length + R.length) / 2 - c - 1) : Nat) : Int) := by
        rw [w64' (by omega) (by omega)]
        omega
      replace ex := Aside0.mk ex
      have ep : rd_T66 (A ++ L ++ R ++ B) ((A.length : Int) + (c : Int)) = p := by
        have e0 : (A.length : Int) + (c : Int) = ((A.length + c : Nat) : Int) := by omega
        rw [e0, rdT (by simp; omega), hp]
        rw [List.getElem_append_left (by simp; omega), List.getElem_append_left (by simp; omega), List.getElem_append_right (by omega)]
        simp
      have eq : rd_T66 (A ++ L ++ R ++ B) ((A.length + L.length + ((L.length + R.length) / 2 - c - 1) : Nat) : Int) = q := by
        rw [rdT (by simp; omega), hq]
        rw [List.getElem_append_left (by simp; omega), List.getElem_append_right (by simp)]
        congr 1
        simp
      have step : ∀ k, share_rest_64.l4 (k + 1) (A ++ L ++ R ++ B) x1 x2 x3 u x18 x19 ((A.length : Int) + (s : Int)) ((A.length : Int) + (e : Int)) x22 =
          if p.f0 < q.f0 then share_rest_64.l4 k (A ++ L ++ R ++ B) x1 x2 x3 u x18 x19 ((A.length : Int) + (s : Int)) ((A.length : Int) + (c : Int)) x22
          else share_rest_64.l4 k (A ++ L ++ R ++ B) x1 x2 x3 u x18 x19 ((A.length : Int) + (c : Int) + 1) ((A.length : Int) + (e : Int)) x22 := by
        intro k
        simp only [share_rest_64.l4]
        rw [eh.out, ex.out]
        rw [if_pos (by omega), if_pos (by omega), if_pos (by simp; omega), if_pos (by omega), if_pos (by simp; omega), ep, eq, cmp_eq, w64' (by omega) (by omega)]
        simp only [Option.bind_some]
        by_cases cc : p.f0 < q.f0
        · rw [if_pos cc, if_pos ((cmp_lt q p).2 cc)]
        · rw [if_neg cc, if_neg (fun h => cc ((cmp_lt q p).1 h))]
      by_cases cc : p.f0 < q.f0
      · obtain ⟨s', a1, a2, a3, a4, a5⟩ := ih (c - s) (by omega) s c rfl hs hcs (by omega) h1 (Or.inr (fun p' q' hp' hq' => by
          rw [List.getElem?_eq_getElem hcL] at hp'
          rw [List.getElem?_eq_getElem hcR] at hq'
          obtain rfl := Option.some.inj hp'
          obtain rfl := Option.some.inj hq'
          rw [← hp, ← hq]
          exact cc))
        refine ⟨s', a1, a2, a3, a4, fun r K h k hk => ?_⟩
        obtain ⟨k, rfl⟩ : ∃ m, k = m + 1 := ⟨k - 1, by omega⟩
        rw [step, if_pos cc]
        exact a5 r K h k (by omega)
      · obtain ⟨s', a1, a2, a3, a4, a5⟩ := ih (e - (c + 1)) (by omega) (c + 1) e rfl (by omega) (by omega) he (Or.inr (fun h => cc (by
          have := h p q (by rw [Nat.add_sub_cancel, List.getElem?_eq_getElem hcL, hp]) (by rw [Nat.sub_add_eq, List.getElem?_eq_getElem hcR, hq])
          exact this))) h2
        refine ⟨s', a1, a2, a3, a4, fun r K h k hk => ?_⟩
        obtain ⟨k, rfl⟩ : ∃ m, k = m + 1 := ⟨k - 1, by omega⟩
        rw [step, if_neg cc]
        have := a5 r K h k (by omega)
        have e1 : (A.length : Int) + ((c + 1 : Nat) : Int) = (A.length : Int) + (c : Int) + 1 := by omega
        rw [e1] at this
        exact this

theorem srt_app {X Y : List S66} (hx : Srt X) (hy : Srt Y) (h : ∀ p ∈ X, ∀ q ∈ Y, lt p q) : Srt (X ++ Y) := List.pairwise_append.2 ⟨hx, hy, h⟩
/-- A merge of two stretches one of which may be empty. -/
theorem merge_all : ∀ (n : Nat) (L R : List S66), L.length + R.length = n → 0 < L.length → 0 < R.length → Srt L → Srt R → Bel L R → MergeOk L R := by
  intro n
  induction n using Nat.strongRecOn with
  | _ n ih =>
    intro L R hn hL hR hsL hsR hbel
    by_cases c1 : L.length = 1
    · obtain ⟨x, rfl⟩ := List.length_eq_one_iff.1 c1
      exact merge_one x R hsR hbel
    by_cases c2 : R.length = 1
    · obtain ⟨y, rfl⟩ := List.length_eq_one_iff.1 c2
      exact merge_last L y (by omega) hsL hbel
    intro A B hb
    obtain ⟨h, hh⟩ : ∃ h : Nat, h = (L.length + R.length) / 2 := ⟨_, rfl⟩
    -- where the search begins and ends
    obtain ⟨lo, hi, hcs, hlo1, hhi1, hhi2, hlohi⟩ : ∃ lo hi : Nat, Aside0 ((h < L.length ∧ lo = h - R.length ∧ hi = h) ∨ (¬ h < L.length ∧ lo = 0 ∧ hi = L.length)) ∧ lo + R.length ≥ h ∧ hi ≤ L.length ∧ hi ≤ h ∧ lo ≤ hi := by
      by_cases hc : h < L.length
      · exact ⟨h - R.length, h, ⟨Or.inl ⟨hc, rfl, rfl⟩⟩, by omega, by omega, by omega, by omega⟩
      · exact ⟨0, L.length, ⟨Or.inr ⟨hc, rfl, rfl⟩⟩, by omega, by omega, by omega, by omega⟩
    rw [hh] at hlo1 hhi2
    obtain ⟨s, b1, b2, b3, b4, b5⟩ := cut_l4 A L R B (A.length : Int) ((A.length : Int) + (L.length : Int)) ((A.length : Int) + (L.length : Int) + (R.length : Int)) ((A.length : Int) + (h : Int)) ((A.length : Int) + (h : Int) + (A.length : Int) + (L.length : Int)) ((A.length : Int) + (h : Int) + (A.length : Int) + (L.length : Int) - 1) () (by rw [hh]) hb lo hi hlo1 hhi1 hhi2 (hi - lo) lo hi rfl (Nat.le_refl _) hlohi (Nat.le_refl _) (Or.inl rfl) (Or.inl rfl)
    rw [← hh] at b3 b4 hlo1 hhi2
    obtain ⟨L1, L2, rfl, hl1⟩ : ∃ L1 L2, L = L1 ++ L2 ∧ L1.length = s := ⟨L.take s, L.drop s, (List.take_append_drop _ _).symm, by simp; omega⟩
    have hsh : s ≤ h := by omega
    have hhR : h - s ≤ R.length := by omega
    obtain ⟨R1, R2, rfl, hr1⟩ : ∃ R1 R2, R = R1 ++ R2 ∧ R1.length = h - s := ⟨R.take (h - s), R.drop (h - s), (List.take_append_drop _ _).symm, by simp; omega⟩
    simp only [List.length_append] at *
    obtain ⟨sl1, sl2, sl3⟩ := List.pairwise_append.1 hsL
    obtain ⟨sr1, sr2, sr3⟩ := List.pairwise_append.1 hsR
    -- L1 ahead of R2
    have x12 : ∀ p ∈ L1, ∀ q ∈ R2, lt p q := by
      rcases b3 with b3 | b3
      · intro p hp q hq
        exfalso
        have u1 := List.length_pos_of_mem hp
        have u2 := List.length_pos_of_mem hq
        have := hcs.out
        omega
      · intro p hp q hq
        obtain ⟨X, z, rfl⟩ : ∃ X z, L1 = X ++ [z] := ⟨L1.dropLast, L1.getLast (by intro h; simp [h] at hp), (List.dropLast_concat_getLast _).symm⟩
        obtain ⟨y, Y, rfl⟩ : ∃ y Y, R2 = y :: Y := by
          cases R2 with
          | nil => simp at hq
          | cons y Y => exact ⟨y, Y, rfl⟩
        have hzy : lt z y := by
          refine bel_cross (fun hlt => b3 (fun p q hp hq => ?_)) (hbel z (by simp) y (by simp))
          rw [← hl1] at hp
          simp at hp
          rw [← hr1] at hq
          simp at hq
          rw [← hp, ← hq]
          exact hlt
        have hpz : p = z ∨ lt p z := by
          rcases List.mem_append.1 hp with hp | hp
          · exact Or.inr ((List.pairwise_append.1 sl1).2.2 p hp z (by simp))
          · exact Or.inl (List.mem_singleton.1 hp)
        have hyq : q = y ∨ lt y q := by
          rcases List.mem_cons.1 hq with hq | hq
          · exact Or.inl hq
          · exact Or.inr ((List.pairwise_cons.1 sr2).1 q hq)
        rcases hpz with rfl | hpz <;> rcases hyq with rfl | hyq
        · exact hzy
        · exact lt_trans hzy hyq
        · exact lt_trans hpz hzy
        · exact lt_trans hpz (lt_trans hzy hyq)
    -- R1 ahead of L2
    have x21 : ∀ p ∈ R1, ∀ q ∈ L2, lt p q := by
      rcases b4 with b4 | b4
      · intro p hp q hq
        exfalso
        have u1 := List.length_pos_of_mem hp
        have u2 := List.length_pos_of_mem hq
        have := hcs.out
        omega
      · intro p hp q hq
        obtain ⟨X, z, rfl⟩ : ∃ X z, R1 = X ++ [z] := ⟨R1.dropLast, R1.getLast (by intro h; simp [h] at hp), (List.dropLast_concat_getLast _).symm⟩
        obtain ⟨y, Y, rfl⟩ : ∃ y Y, L2 = y :: Y := by
          cases L2 with
          | nil => simp at hq
          | cons y Y => exact ⟨y, Y, rfl⟩
        have hzy : lt z y := by
          refine Or.inl (b4 y z ?_ ?_)
          · rw [← hl1]; simp
          · rw [← hr1]; simp
        have hpz : p = z ∨ lt p z := by
          rcases List.mem_append.1 hp with hp | hp
          · exact Or.inr ((List.pairwise_append.1 sr1).2.2 p hp z (by simp))
          · exact Or.inl (List.mem_singleton.1 hp)
        have hyq : q = y ∨ lt y q := by
          rcases List.mem_cons.1 hq with hq | hq
          · exact Or.inl hq
          · exact Or.inr ((List.pairwise_cons.1 sl2).1 q hq)
        rcases hpz with rfl | hpz <;> rcases hyq with rfl | hyq
        · exact hzy
        · exact lt_trans hzy hyq
        · exact lt_trans hpz hzy
        · exact lt_trans hpz (lt_trans hzy hyq)
    -- the two merges of the halves
    have half : ∀ X Y : List S66, X.length + Y.length < n → Srt X → Srt Y → Bel X Y → ∀ C D : List S66, C.length + X.length + Y.length + D.length ≤ 1152921504606846976 → ∃ Q, Q.Perm (X ++ Y) ∧ Srt Q ∧ (0 < X.length → 0 < Y.length → ∃ K, ∀ k, K ≤ k → ∀ u, share_rest_64.f k (C ++ X ++ Y ++ D) (C.length : Int) ((C.length : Int) + (X.length : Int)) ((C.length : Int) + (X.length : Int) + (Y.length : Int)) u = some (C ++ Q ++ D)) ∧ (¬ (0 < X.length ∧ 0 < Y.length) → Q = X ++ Y) := by
      intro X Y hlt hX hY hXY C D hbd
      by_cases hx : 0 < X.length ∧ 0 < Y.length
      · obtain ⟨Q, q1, q2, q3⟩ := ih _ hlt X Y rfl hx.1 hx.2 hX hY hXY C D hbd
        exact ⟨Q, q1, q2, fun _ _ => q3, fun h => absurd hx h⟩
      · refine ⟨X ++ Y, List.Perm.refl _, ?_, fun h1 h2 => absurd ⟨h1, h2⟩ hx, fun _ => rfl⟩
        by_cases h0 : 0 < X.length
        · obtain rfl : Y = [] := List.length_eq_zero_iff.1 (by omega)
          simpa using hX
        · obtain rfl : X = [] := List.length_eq_zero_iff.1 (by omega)
          simpa using hY
    obtain ⟨Q1, p1, s1, m1, e1⟩ := half L1 R1 (by omega) sl1 sr1 (fun p hp q hq => hbel p (by simp [hp]) q (by simp [hq])) A (L2 ++ R2 ++ B) (by simp; omega)
    have hq1 : Q1.length = h := by have := p1.length_eq; simp at this; omega
    obtain ⟨Q2, p2, s2, m2, e2⟩ := half L2 R2 (by omega) sl2 sr2 (fun p hp q hq => hbel p (by simp [hp]) q (by simp [hq])) (A ++ Q1) B (by simp; omega)
    clear half ih
    refine ⟨Q1 ++ Q2, ?_, srt_app s1 s2 (fun p hp q hq => ?_), ?_⟩
    · refine (List.Perm.append p1 p2).trans ?_
      have a1 : (L1 ++ R1 ++ (L2 ++ R2)).Perm (L1 ++ (R1 ++ L2) ++ R2) := by simp
      have a2 : (L1 ++ (R1 ++ L2) ++ R2).Perm (L1 ++ (L2 ++ R1) ++ R2) := List.Perm.append_right _ (List.Perm.append_left _ List.perm_append_comm)
      have a3 : (L1 ++ (L2 ++ R1) ++ R2).Perm (L1 ++ L2 ++ (R1 ++ R2)) := by simp
      exact a1.trans (a2.trans a3)
    · have hp' := p1.mem_iff.1 hp
      have hq' := p2.mem_iff.1 hq
      rcases List.mem_append.1 hp' with hp' | hp' <;> rcases List.mem_append.1 hq' with hq' | hq'
      · exact sl3 p hp' q hq'
      · exact x12 p hp' q hq'
      · exact x21 p hp' q hq'
      · exact sr3 p hp' q hq'
    clear x12 x21 sl3 sr3 b3 b4 p1 p2 s1 s2 hbel hsL hsR sl1 sl2 sr1 sr2
    have K1 : ∃ K, ∀ k, K ≤ k → ∀ u, 0 < L1.length → 0 < R1.length → share_rest_64.f k (A ++ L1 ++ R1 ++ (L2 ++ R2 ++ B)) (A.length : Int) ((A.length : Int) + (s : Int)) ((A.length : Int) + (h : Int)) u = some (A ++ Q1 ++ (L2 ++ R2 ++ B)) := by
      by_cases hx : 0 < L1.length ∧ 0 < R1.length
      · obtain ⟨K, hK⟩ := m1 hx.1 hx.2
        refine ⟨K, fun k hk u _ _ => ?_⟩
        have := hK k hk u
        have z1 : (A.length : Int) + (L1.length : Int) = (A.length : Int) + (s : Int) := by omega
        have z2 : (A.length : Int) + (s : Int) + (R1.length : Int) = (A.length : Int) + (h : Int) := by omega
        rw [z1, z2] at this
        exact this
      · exact ⟨0, fun k _ u a b => absurd ⟨a, b⟩ hx⟩
    have K2 : ∃ K, ∀ k, K ≤ k → ∀ u, 0 < L2.length → 0 < R2.length → share_rest_64.f k (A ++ Q1 ++ (L2 ++ R2 ++ B)) ((A.length : Int) + (h : Int)) ((A.length : Int) + (h : Int) + (L2.length : Int)) ((A.length : Int) + ((L1.length + L2.length : Nat) : Int) + ((R1.length + R2.length : Nat) : Int)) u = some (A ++ Q1 ++ Q2 ++ B) := by
      by_cases hx : 0 < L2.length ∧ 0 < R2.length
      · obtain ⟨K, hK⟩ := m2 hx.1 hx.2
        refine ⟨K, fun k hk u _ _ => ?_⟩
        have := hK k hk u
        have z1 : ((A ++ Q1).length : Int) = (A.length : Int) + (h : Int) := by simp; omega
        have z2 : (A.length : Int) + (h : Int) + (L2.length : Int) + (R2.length : Int) = (A.length : Int) + ((L1.length + L2.length : Nat) : Int) + ((R1.length + R2.length : Nat) : Int) := by omega
        rw [z1, z2] at this
        simpa using this
      · exact ⟨0, fun k _ u a b => absurd ⟨a, b⟩ hx⟩
    obtain ⟨K1, K1h⟩ := K1
    obtain ⟨K2, K2h⟩ := K2
    have hE : (A ++ Q1 ++ (L2 ++ R2 ++ B) : List S66) = A ++ Q1 ++ Q2 ++ B ∨ (0 < L2.length ∧ 0 < R2.length) := by
      by_cases hx : 0 < L2.length ∧ 0 < R2.length
      · exact Or.inr hx
      · rw [e2 hx]; simp
    have hE1 : (A ++ L1 ++ R1 ++ (L2 ++ R2 ++ B) : List S66) = A ++ Q1 ++ (L2 ++ R2 ++ B) ∨ (0 < L1.length ∧ 0 < R1.length) := by
      by_cases hx : 0 < L1.length ∧ 0 < R1.length
      · exact Or.inr hx
      · rw [e1 hx]; simp
    clear e1 e2 m1 m2
    -- behind the first merge
    have tail : ∀ k, K2 ≤ k → ∀ u, (if (A.length : Int) + (h : Int) < (A.length : Int) + (h : Int) + (L2.length : Int) then (if (A.length : Int) + (h : Int) + (L2.length : Int) < (A.length : Int) + ((L1.length + L2.length : Nat) : Int) + ((R1.length + R2.length : Nat) : Int) then ((share_rest_64.f k (A ++ Q1 ++ (L2 ++ R2 ++ B)) ((A.length : Int) + (h : Int)) ((A.length : Int) + (h : Int) + (L2.length : Int)) ((A.length : Int) + ((L1.length + L2.length : Nat) : Int) + ((R1.length + R2.length : Nat) : Int)) u).bind fun t146 => (some t146)) else (some (A ++ Q1 ++ (L2 ++ R2 ++ B)))) else (some (A ++ Q1 ++ (L2 ++ R2 ++ B)))) = some (A ++ Q1 ++ Q2 ++ B) := by
      intro k hk u
      rcases hE with hE | ⟨h1, h2⟩
      · by_cases hx : 0 < L2.length ∧ 0 < R2.length
        · rw [if_pos (by omega), if_pos (by omega), K2h k hk u hx.1 hx.2]
          rfl
        · split
          · rw [if_neg (by omega), hE]
          · rw [hE]
      · rw [if_pos (by omega), if_pos (by omega), K2h k hk u h1 h2]
        rfl
    have j8 : ∀ k, K1 + K2 + 1 ≤ k → ∀ u c, (c = true ↔ 0 < L1.length ∧ 0 < R1.length) → share_rest_64.j8 k (A ++ L1 ++ R1 ++ (L2 ++ R2 ++ B)) (A.length : Int) ((A.length : Int) + ((L1.length + L2.length : Nat) : Int) + ((R1.length + R2.length : Nat) : Int)) u ((A.length : Int) + (h : Int)) ((A.length : Int) + (s : Int)) ((A.length : Int) + (h : Int) + (L2.length : Int)) c = some (A ++ Q1 ++ Q2 ++ B) := by
      intro k hk u c hc
      obtain ⟨k, rfl⟩ : ∃ m, k = m + 1 := ⟨k - 1, by omega⟩
      simp only [share_rest_64.j8]
      by_cases hx : c = true
      · obtain ⟨h1, h2⟩ := hc.1 hx
        rw [if_pos hx, K1h k (by omega) u h1 h2]
        simp only [Option.bind_some]
        exact tail k (by omega) u
      · have h1 := mt hc.2 hx
        rcases hE1 with hE1 | hE1
        · rw [if_neg hx, hE1]
          exact tail k (by omega) u
        · exact absurd hE1 h1
    have j7 : ∀ k, K1 + K2 + 2 ≤ k → ∀ u, share_rest_64.j7 k (A ++ L1 ++ R1 ++ (L2 ++ R2 ++ B)) (A.length : Int) ((A.length : Int) + ((L1.length + L2.length : Nat) : Int) + ((R1.length + R2.length : Nat) : Int)) u ((A.length : Int) + (h : Int)) ((A.length : Int) + (s : Int)) ((A.length : Int) + (h : Int) + (L2.length : Int)) = some (A ++ Q1 ++ Q2 ++ B) := by
      intro k hk u
      obtain ⟨k, rfl⟩ : ∃ m, k = m + 1 := ⟨k - 1, by omega⟩
      simp only [share_rest_64.j7]
      by_cases hx : (A.length : Int) < (A.length : Int) + (s : Int)
      · rw [if_pos hx]
        exact j8 k (by omega) u _ (by rw [decide_eq_true_iff]; omega)
      · rw [if_neg hx]
        exact j8 k (by omega) u _ (by simp; omega)
    clear j8 tail K1h K2h hE hE1
    have j6 : ∀ k, K1 + K2 + L2.length + R1.length + 6 ≤ k → ∀ u c, (c = true ↔ 0 < L2.length ∧ 0 < R1.length) → share_rest_64.j6 k (A ++ (L1 ++ L2) ++ (R1 ++ R2) ++ B) (A.length : Int) ((A.length : Int) + ((L1.length + L2.length : Nat) : Int)) ((A.length : Int) + ((L1.length + L2.length : Nat) : Int) + ((R1.length + R2.length : Nat) : Int)) u ((A.length : Int) + (h : Int)) ((A.length : Int) + (s : Int)) ((A.length : Int) + (h : Int) + (L2.length : Int)) c = some (A ++ Q1 ++ Q2 ++ B) := by
      intro k hk u c hc
      obtain ⟨k, rfl⟩ : ∃ m, k = m + 1 := ⟨k - 1, by omega⟩
      simp only [share_rest_64.j6]
      by_cases hx : c = true
      · obtain ⟨h1, h2⟩ := hc.1 hx
        have ro := rotate_eq (A ++ L1) L2 R1 (R2 ++ B) h1 h2 (by simp; omega) (a := (A.length : Int) + (s : Int)) (m := (A.length : Int) + ((L1.length + L2.length : Nat) : Int)) (b := (A.length : Int) + (h : Int) + (L2.length : Int)) (by simp; omega) (by simp; omega) (by simp; omega) u (k := k) (by omega)
        have y1 : A ++ (L1 ++ L2) ++ (R1 ++ R2) ++ B = A ++ L1 ++ L2 ++ R1 ++ (R2 ++ B) := by simp
        rw [if_pos hx, y1, ro]
        simp only [Option.bind_some]
        have := j7 k (by omega) u
        simpa using this
      · have h1 := mt hc.2 hx
        rw [if_neg hx]
        have y1 : A ++ (L1 ++ L2) ++ (R1 ++ R2) ++ B = A ++ L1 ++ R1 ++ (L2 ++ R2 ++ B) := by
          by_cases h0 : 0 < L2.length
          · obtain rfl : R1 = [] := List.length_eq_zero_iff.1 (by omega)
            simp
          · obtain rfl : L2 = [] := List.length_eq_zero_iff.1 (by omega)
            simp
        rw [y1]
        exact j7 k (by omega) u
    clear j7
    refine ⟨K1 + K2 + L2.length + R1.length + 6 + (hi - lo) + 3, fun k hk u => ?_⟩
    have srch := b5 (A ++ Q1 ++ Q2 ++ B) (K1 + K2 + L2.length + R1.length + 6) (fun k hk => by
      have z : wrap64 ((A.length : Int) + (h : Int) + (A.length : Int) + ((L1.length + L2.length : Nat) : Int) - ((A.length : Int) + (s : Int))) = (A.length : Int) + (h : Int) + (L2.length : Int) := by
        rw [w64' (by omega) (by omega)]
        omega
      rw [z]
      clear z
      by_cases hx : (A.length : Int) + (s : Int) < (A.length : Int) + ((L1.length + L2.length : Nat) : Int)
      · rw [if_pos hx]
        exact j6 k hk () _ (by rw [decide_eq_true_iff]; omega)
      · rw [if_neg hx]
        exact j6 k hk () _ (by simp; omega))
    clear b5 j6
    obtain ⟨k, rfl⟩ : ∃ m, k = m + 2 := ⟨k - 2, by omega⟩
    have w1 := Aside0.mk (show wrap64 ((A.length : Int) + ((L1.length + L2.length : Nat) : Int) - (A.length : Int)) = ((L1.length + L2.length : Nat) : Int) from by rw [w64' (by omega) (by omega)]; omega)
    have w2 := Aside0.mk (show wrap64 ((A.length : Int) + ((L1.length + L2.length : Nat) : Int) + ((R1.length + R2.length : Nat) : Int) - ((A.length : Int) + ((L1.length + L2.length : Nat) : Int))) = ((R1.length + R2.length : Nat) : Int) from by rw [w64' (by omega) (by omega)]; omega)
    have w3 := Aside0.mk (show wrap64 ((IntKind.u64.wrap (wrap64 ((A.length : Int) + ((A.length : Int) + ((L1.length + L2.length : Nat) : Int) + ((R1.length + R2.length : Nat) : Int))))) / 2) = (A.length : Int) + (h : Int) from by rw [mid_eq (by omega) (by omega)]; omega)
    have w4 := Aside0.mk (show wrap64 ((A.length : Int) + (h : Int) + ((A.length : Int) + ((L1.length + L2.length : Nat) : Int))) = (A.length : Int) + (h : Int) + (A.length : Int) + ((L1.length + L2.length : Nat) : Int) from by rw [w64' (by omega) (by omega)]; omega)
    have w5 := Aside0.mk (show wrap64 ((A.length : Int) + (h : Int) + (A.length : Int) + ((L1.length + L2.length : Nat) : Int) - 1) = (A.length : Int) + (h : Int) + (A.length : Int) + ((L1.length + L2.length : Nat) : Int) - 1 from by rw [w64' (by omega) (by omega)])
    have w6 := Aside0.mk (show h < L1.length + L2.length → wrap64 ((A.length : Int) + (h : Int) + (A.length : Int) + ((L1.length + L2.length : Nat) : Int) - ((A.length : Int) + ((L1.length + L2.length : Nat) : Int) + ((R1.length + R2.length : Nat) : Int))) = (A.length : Int) + ((h - (R1.length + R2.length) : Nat) : Int) from by intro hx; rw [w64' (by omega) (by omega)]; omega)
    obtain ⟨rfl, u1⟩ : u = () ∧ True := ⟨rfl, trivial⟩
    simp only [share_rest_64.f, share_rest_64.j4]
    rw [w1.out, w2.out, w3.out, w4.out, w5.out]
    rw [if_neg (by omega), if_neg (by omega)]
    have fin := srch k (by omega)
    by_cases hx : h < L1.length + L2.length
    · rw [w6.out hx, if_pos (by omega)]
      obtain ⟨rfl, rfl⟩ : lo = h - (R1.length + R2.length) ∧ hi = h := by have := hcs.out; omega
      simpa using fin
    · rw [if_neg (by omega)]
      obtain ⟨rfl, rfl⟩ : lo = 0 ∧ hi = L1.length + L2.length := by have := hcs.out; omega
      simpa using fin
end Go.Proofs.Ytjjlmmebkemlgaa.PS
