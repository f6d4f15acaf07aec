/- What the printed stable comes to, over rests whose places rise: the one sorted list of them. -/
import Derived.Test.YtjjlmmebkemlgaaMergeS
import Derived.Test.YtjjlmmebkemlgaaPSx0
import Derived.Test.YtjjlmmebkemlgaaPSx5
namespace Go.Proofs.Ytjjlmmebkemlgaa.PS
open Go.RowKit Go.Proofs.YtjjlmmebkemlgaaW.PrintWords Go.Proofs.YtjjlmmebkemlgaaW.PrintLast Go.Proofs.YtjjlmmebkemlgaaW.PrintMore

/-- Blocks of a length (the last one may be shorter), each sorted. -/
inductive Blk (b : Nat) : List S66 → List S66 → Prop
  | last (xs ys : List S66) (h : xs.length ≤ b) (p : ys.Perm xs) (s : Srt ys) : Blk b xs ys
  | cons (X Y xs ys : List S66) (h : X.length = b) (p : Y.Perm X) (s : Srt Y) (r : Blk b xs ys) : Blk b (X ++ xs) (Y ++ ys)
theorem Blk.perm {b : Nat} {xs ys : List S66} (h : Blk b xs ys) : ys.Perm xs := by
  induction h with
  | last xs ys h p s => exact p
  | cons X Y xs ys h p s r ih => exact List.Perm.append p ih
theorem bel_perm {L R L' R' : List S66} (h : Bel L R) (hl : L'.Perm L) (hr : R'.Perm R) : Bel L' R' := fun p hp q hq => h p (hl.mem_iff.1 hp) q (hr.mem_iff.1 hq)
theorem ris_bel {X Y : List S66} (h : Ris (X ++ Y)) : Bel X Y := (List.pairwise_append.1 h).2.2
theorem ris_l {X Y : List S66} (h : Ris (X ++ Y)) : Ris X := (List.pairwise_append.1 h).1
theorem ris_r {X Y : List S66} (h : Ris (X ++ Y)) : Ris Y := (List.pairwise_append.1 h).2.1

theorem pass0 (u : Unit) : ∀ (n : Nat) (xs : List S66), xs.length = n → Ris xs → ∀ D : List S66, D.length + n ≤ 4294967296 → ∃ ys, Blk 20 xs ys ∧
    ∀ r K, (∀ k, K ≤ k → share_rest_56.l1 k (D ++ ys) ((D.length : Int) + (n : Int)) u 20 = some r) → ∃ K', ∀ k, K' ≤ k → share_rest_56.l0 k (D ++ xs) ((D.length : Int) + (n : Int)) u 20 (D.length : Int) ((D.length : Int) + 20) = some r := by
  intro n
  induction n using Nat.strongRecOn with
  | _ n ih =>
    intro xs hn hr D hb
    by_cases c : 20 ≤ n
    · obtain ⟨X, xs', rfl, hX⟩ : ∃ X xs', xs = X ++ xs' ∧ X.length = 20 := ⟨xs.take 20, xs.drop 20, (List.take_append_drop _ _).symm, by simp; omega⟩
      simp only [List.length_append] at hn
      obtain ⟨Q, q1, q2, K0, hK0⟩ := insSort_eq D X xs' (ris_l hr) (by omega)
      have hQ : Q.length = 20 := by rw [q1.length_eq, hX]
      obtain ⟨ys, b1, b2⟩ := ih (n - 20) (by omega) xs' (by omega) (ris_r hr) (D ++ Q) (by simp; omega)
      refine ⟨Q ++ ys, Blk.cons X Q xs' ys hX q1 q2 b1, fun r K h => ?_⟩
      obtain ⟨K1, hK1⟩ := b2 r K (fun k hk => by
        have := h k hk
        have e : ((D ++ Q).length : Int) + ((n - 20 : Nat) : Int) = (D.length : Int) + (n : Int) := by simp; omega
        rw [e]
        simpa using this)
      refine ⟨K0 + K1 + 1, fun k hk => ?_⟩
      obtain ⟨k, rfl⟩ : ∃ m, k = m + 1 := ⟨k - 1, by omega⟩
      have g := hK0 k (by omega) u
      have g1 := hK1 k (by omega)
      have e1 : ((D ++ Q).length : Int) + ((n - 20 : Nat) : Int) = (D.length : Int) + (n : Int) := by simp; omega
      have e2 : ((D ++ Q).length : Int) = (D.length : Int) + 20 := by simp; omega
      have e3 : (X.length : Int) = 20 := by omega
      rw [e1, e2] at g1
      rw [e3] at g
      simp only [share_rest_56.l0]
      rw [if_pos (by omega), show D ++ (X ++ xs') = D ++ X ++ xs' by simp, g]
      simp only [Option.bind_some]
      rw [w64' (by omega) (by omega)]
      exact g1
    · obtain ⟨Q, q1, q2, K0, hK0⟩ := insSort_eq D xs [] hr (by simp; omega)
      refine ⟨Q, Blk.last xs Q (by omega) q1 q2, fun r K h => ⟨K0 + K + 1, fun k hk => ?_⟩⟩
      obtain ⟨k, rfl⟩ : ∃ m, k = m + 1 := ⟨k - 1, by omega⟩
      have g := hK0 k (by omega) u
      rw [hn] at g
      simp only [List.append_nil] at g
      simp only [share_rest_56.l0]
      rw [if_neg (by omega), g]
      exact h k (by omega)

theorem pass1 (u : Unit) (b : Nat) (hb0 : 0 < b) (hb1 : b ≤ 4294967296) : ∀ (n : Nat) (xs ys : List S66), xs.length = n → Blk b xs ys → Ris xs → ∀ D : List S66, D.length + n ≤ 4294967296 → ∃ zs, Blk (2 * b) xs zs ∧
    ∀ r K, (∀ k, K ≤ k → share_rest_56.l1 k (D ++ zs) ((D.length : Int) + (n : Int)) u ((2 * b : Nat) : Int) = some r) → ∃ K', ∀ k, K' ≤ k → share_rest_56.l2 k (D ++ ys) ((D.length : Int) + (n : Int)) u (b : Int) (D.length : Int) ((D.length : Int) + 2 * (b : Int)) = some r := by
  intro n
  induction n using Nat.strongRecOn with
  | _ n ih =>
    intro xs ys hn hblk hr D hb
    -- the end: no two whole blocks are left, and no merge
    have stop : ∀ zs : List S66, n ≤ b → ∀ r K, (∀ k, K ≤ k → share_rest_56.l1 k (D ++ zs) ((D.length : Int) + (n : Int)) u ((2 * b : Nat) : Int) = some r) → ∃ K', ∀ k, K' ≤ k → share_rest_56.l2 k (D ++ zs) ((D.length : Int) + (n : Int)) u (b : Int) (D.length : Int) ((D.length : Int) + 2 * (b : Int)) = some r := by
      intro zs h r K hk
      refine ⟨K + 1, fun k hk' => ?_⟩
      obtain ⟨k, rfl⟩ : ∃ m, k = m + 1 := ⟨k - 1, by omega⟩
      simp only [share_rest_56.l2]
      rw [if_neg (by omega), w64' (n := (D.length : Int) + (b : Int)) (by omega) (by omega), if_neg (by omega), w64' (by omega) (by omega)]
      have := hk k (by omega)
      have e : ((2 * b : Nat) : Int) = (b : Int) * 2 := by omega
      rw [e] at this
      exact this
    cases hblk with
    | last _ _ h p s => exact ⟨ys, Blk.last _ _ (by omega) p s, stop ys (by omega)⟩
    | cons X Y xs' ys' h p s hr' =>
      have hY : Y.length = b := by rw [p.length_eq, h]
      have hp' := hr'.perm
      have hbel : Bel Y ys' := bel_perm (ris_bel hr) p hp'
      simp only [List.length_append] at hn
      -- what two whole blocks come to
      have two : ∀ (X' Y' xs'' ys'' : List S66), xs' = X' ++ xs'' → ys' = Y' ++ ys'' → X'.length = b → Y'.Perm X' → Srt Y' → Blk b xs'' ys'' → ∃ zs, Blk (2 * b) (X ++ xs') zs ∧
          ∀ r K, (∀ k, K ≤ k → share_rest_56.l1 k (D ++ zs) ((D.length : Int) + (n : Int)) u ((2 * b : Nat) : Int) = some r) → ∃ K', ∀ k, K' ≤ k → share_rest_56.l2 k (D ++ (Y ++ ys')) ((D.length : Int) + (n : Int)) u (b : Int) (D.length : Int) ((D.length : Int) + 2 * (b : Int)) = some r := by
        rintro X' Y' xs'' ys'' rfl rfl h2 p2 s2 hb2
        have hY' : Y'.length = b := by rw [p2.length_eq, h2]
        simp only [List.length_append] at hn
        have hlen'' := hb2.perm.length_eq
        obtain ⟨Q, q1, q2, K0, hK0⟩ := merge_all _ Y Y' rfl (by omega) (by omega) s s2 (fun p hp q hq => hbel p hp q (by simp [hq])) D ys'' (by omega)
        have hQ : Q.length = 2 * b := by rw [q1.length_eq]; simp; omega
        obtain ⟨zs, b1, b2⟩ := ih (n - 2 * b) (by omega) xs'' ys'' (by omega) hb2 (ris_r (ris_r hr)) (D ++ Q) (by simp; omega)
        refine ⟨Q ++ zs, ?_, fun r K hk => ?_⟩
        · have := Blk.cons (b := 2 * b) (X ++ X') Q xs'' zs (by simp; omega) (q1.trans (List.Perm.append p p2)) q2 b1
          simpa using this
        · obtain ⟨K1, hK1⟩ := b2 r K (fun k hk' => by
            have := hk k hk'
            have e : ((D ++ Q).length : Int) + ((n - 2 * b : Nat) : Int) = (D.length : Int) + (n : Int) := by simp; omega
            rw [e]
            simpa using this)
          refine ⟨K0 + K1 + 1, fun k hk' => ?_⟩
          obtain ⟨k, rfl⟩ : ∃ m, k = m + 1 := ⟨k - 1, by omega⟩
          have g := hK0 k (by omega) u
          have g1 := hK1 k (by omega)
          have e1 : ((D ++ Q).length : Int) + ((n - 2 * b : Nat) : Int) = (D.length : Int) + (n : Int) := by simp; omega
          have e2 : ((D ++ Q).length : Int) = (D.length : Int) + 2 * (b : Int) := by simp; omega
          have e3 : (Y.length : Int) = (b : Int) := by omega
          have e4 : (Y'.length : Int) = (b : Int) := by omega
          have e5 : (D.length : Int) + (b : Int) + (b : Int) = (D.length : Int) + 2 * (b : Int) := by omega
          rw [e1, e2] at g1
          rw [e3, e4, e5] at g
          simp only [share_rest_56.l2]
          rw [if_pos (by omega), w64' (n := (D.length : Int) + (b : Int)) (by omega) (by omega), show D ++ (Y ++ (Y' ++ ys'')) = D ++ Y ++ Y' ++ ys'' by simp, g]
          simp only [Option.bind_some]
          rw [w64' (n := 2 * (b : Int)) (by omega) (by omega), w64' (by omega) (by omega)]
          exact g1
      cases hr' with
      | cons X' Y' xs'' ys'' h2 p2 s2 hb2 => exact two X' Y' xs'' ys'' rfl rfl h2 p2 s2 hb2
      | last _ _ h2 p2 s2 =>
        by_cases c1 : xs'.length = b
        · have := two xs' ys' [] [] (by simp) (by simp) c1 p2 s2 (Blk.last [] [] (by simp) (List.Perm.refl _) List.Pairwise.nil)
          exact this
        by_cases c2 : xs' = []
        · subst c2
          obtain rfl : ys' = [] := List.length_eq_zero_iff.1 (by simpa using p2.length_eq)
          exact ⟨Y ++ [], Blk.last _ _ (by simp; omega) (by simpa using p) (by simpa using s), stop _ (by simp at hn; omega)⟩
        have hpos : 0 < xs'.length := List.length_pos_iff.2 c2
        have hl2 := p2.length_eq
        obtain ⟨Q, q1, q2, K0, hK0⟩ := merge_all _ Y ys' rfl (by omega) (by omega) s s2 hbel D [] (by simp; omega)
        refine ⟨Q, Blk.last _ _ (by simp; omega) (q1.trans (List.Perm.append p p2)) q2, fun r K hk => ⟨K0 + K + 1, fun k hk' => ?_⟩⟩
        obtain ⟨k, rfl⟩ : ∃ m, k = m + 1 := ⟨k - 1, by omega⟩
        have g := hK0 k (by omega) u
        have e3 : (Y.length : Int) = (b : Int) := by omega
        have e4 : (D.length : Int) + (b : Int) + (ys'.length : Int) = (D.length : Int) + (n : Int) := by omega
        rw [e3, e4] at g
        simp only [List.append_nil] at g
        simp only [share_rest_56.l2]
        rw [if_neg (by omega), w64' (n := (D.length : Int) + (b : Int)) (by omega) (by omega), if_pos (by omega), show D ++ (Y ++ ys') = D ++ Y ++ ys' by simp, g]
        simp only [Option.bind_some]
        rw [w64' (by omega) (by omega)]
        have := hk k (by omega)
        have e : ((2 * b : Nat) : Int) = (b : Int) * 2 := by omega
        rw [e] at this
        exact this

theorem passes (u : Unit) (xs : List S66) (hr : Ris xs) (hn : xs.length ≤ 2147483648) : ∀ (d b : Nat) (ys : List S66), xs.length - b = d → 0 < b → b ≤ 4294967296 → Blk b xs ys → ∃ Q, Q.Perm xs ∧ Srt Q ∧ ∃ K, ∀ k, K ≤ k → share_rest_56.l1 k ys (xs.length : Int) u (b : Int) = some Q := by
  intro d
  induction d using Nat.strongRecOn with
  | _ d ih =>
    intro b ys hd hb0 hb1 hblk
    by_cases c : b < xs.length
    · obtain ⟨zs, b1, b2⟩ := pass1 u b hb0 hb1 _ xs ys rfl hblk hr [] (by simp; omega)
      obtain ⟨Q, q1, q2, K, hK⟩ := ih (xs.length - 2 * b) (by omega) (2 * b) zs rfl (by omega) (by omega) b1
      obtain ⟨K', hK'⟩ := b2 Q K (fun k hk => by have := hK k hk; simpa using this)
      refine ⟨Q, q1, q2, K' + 1, fun k hk => ?_⟩
      obtain ⟨k, rfl⟩ : ∃ m, k = m + 1 := ⟨k - 1, by omega⟩
      have g := hK' k (by omega)
      simp only [share_rest_56.l1]
      rw [if_pos (by omega), w64' (by omega) (by omega)]
      simpa using g
    · refine ⟨ys, hblk.perm, ?_, 1, fun k hk => ?_⟩
      · cases hblk with
        | last _ _ _ _ s => exact s
        | cons X Y xs' ys' h p s r =>
          simp only [List.length_append] at c
          have := r.perm.length_eq
          obtain rfl : ys' = [] := List.length_eq_zero_iff.1 (by omega)
          simpa using s
      · obtain ⟨k, rfl⟩ : ∃ m, k = m + 1 := ⟨k - 1, by omega⟩
        simp only [share_rest_56.l1]
        rw [if_neg (by omega)]
theorem sort_eq (l : List S66) (hr : Ris l) (hn : l.length ≤ 2147483648) : ∃ Q, Q.Perm l ∧ Srt Q ∧ ∃ K, ∀ k, K ≤ k → ∀ u, share_rest_47.f k l u = some Q := by
  obtain ⟨ys, b1, b2⟩ := pass0 () _ l rfl hr [] (by simp; omega)
  obtain ⟨Q, q1, q2, K, hK⟩ := passes () l hr hn _ 20 ys rfl (by omega) (by omega) b1
  obtain ⟨K', hK'⟩ := b2 Q K (fun k hk => by have := hK k hk; simpa using this)
  refine ⟨Q, q1, q2, K', fun k hk u => ?_⟩
  have g := hK' k hk
  simp only [share_rest_47.f, share_rest_56.f]
  simp at g
  cases u
  rw [g]
  rfl
end Go.Proofs.Ytjjlmmebkemlgaa.PS
