/- What the printed swapRange and rotate of package slices come to, over rests. -/
import Derived.Test.YtjjlmmebkemlgaaPSx0
import Derived.Test.YtjjlmmebkemlgaaPSx3
namespace Go.Proofs.Ytjjlmmebkemlgaa.PS
open Go.RowKit Go.Proofs.YtjjlmmebkemlgaaW.PrintWords Go.Proofs.YtjjlmmebkemlgaaW.PrintLast Go.Proofs.YtjjlmmebkemlgaaW.PrintMore

theorem w64' {n : Int} (h : -9223372036854775808 ≤ n) (h' : n ≤ 9223372036854775807) : wrap64 n = n := by unfold wrap64; omega
theorem rdT {l : List S66} {i : Nat} (h : i < l.length) : rd_T66 l (i : Int) = l[i] := by simp [rd_T66, List.getD_eq_getElem?_getD, h]
theorem rdT_app (A : List S66) (x : S66) (B : List S66) {i : Int} (hi : i = (A.length : Int)) : rd_T66 (A ++ x :: B) i = x := by
  subst hi
  rw [rdT (by simp)]
  simp
theorem set_app (A : List S66) (x y : S66) (B : List S66) {i : Nat} (hi : i = A.length) : (A ++ x :: B).set i y = A ++ y :: B := by
  subst hi
  simp
/-- Two elements change places. -/
theorem swap2 (A : List S66) (x : S66) (B : List S66) (y : S66) (C : List S66) {i j : Int} (hi : i = (A.length : Int)) (hj : j = (A.length : Int) + 1 + (B.length : Int)) :
    ((A ++ x :: (B ++ y :: C)).set i.toNat (⟨(rd_T66 (A ++ x :: (B ++ y :: C)) j).f0, (rd_T66 (A ++ x :: (B ++ y :: C)) j).f1⟩ : S66)).set j.toNat (⟨(rd_T66 (A ++ x :: (B ++ y :: C)) i).f0, (rd_T66 (A ++ x :: (B ++ y :: C)) i).f1⟩ : S66) = A ++ y :: (B ++ x :: C) := by
  have e1 : rd_T66 (A ++ x :: (B ++ y :: C)) i = x := rdT_app A x _ hi
  have e : A ++ x :: (B ++ y :: C) = (A ++ x :: B) ++ y :: C := by simp
  have e2 : rd_T66 (A ++ x :: (B ++ y :: C)) j = y := by
    rw [e]
    exact rdT_app _ y C (by simp; omega)
  rw [e1, e2]
  rw [set_app A x _ _ (by omega)]
  show (A ++ y :: (B ++ y :: C)).set _ x = _
  have e3 : A ++ y :: (B ++ y :: C) = (A ++ y :: B) ++ y :: C := by simp
  rw [e3, set_app _ y _ _ (by simp; omega)]
  simp

theorem swap_l0 (A Q S : List S66) : ∀ (U2 V2 U1 V1 : List S66) (k : Nat), U2.length = V2.length → U1.length = V1.length → A.length + (U1.length + U2.length) + Q.length + (U1.length + U2.length) + S.length ≤ 4611686018427387904 → U2.length + 1 ≤ k →
    share_rest_69.l0 k (A ++ V1 ++ U2 ++ Q ++ U1 ++ V2 ++ S) (A.length : Int) ((A.length : Int) + ((U1.length : Int) + (U2.length : Int)) + (Q.length : Int)) ((U1.length : Int) + (U2.length : Int)) (U1.length : Int) = some (A ++ V1 ++ V2 ++ Q ++ U1 ++ U2 ++ S)
  | [], [], U1, V1, k, _, _, _, hk => by
    obtain ⟨k, rfl⟩ : ∃ m, k = m + 1 := ⟨k - 1, by omega⟩
    simp only [share_rest_69.l0]
    rw [if_neg (by simp)]
  | u :: U2, v :: V2, U1, V1, k, h, h1, hb, hk => by
    obtain ⟨k, rfl⟩ : ∃ m, k = m + 1 := ⟨k - 1, by simp at hk; omega⟩
    simp only [List.length_cons] at h hb hk
    have ih := swap_l0 A Q S U2 V2 (U1 ++ [u]) (V1 ++ [v]) k (by omega) (by simp; omega) (by simp; omega) (by omega)
    have e : A ++ V1 ++ (u :: U2) ++ Q ++ U1 ++ (v :: V2) ++ S = (A ++ V1) ++ u :: ((U2 ++ Q ++ U1) ++ v :: (V2 ++ S)) := by simp
    simp only [share_rest_69.l0]
    rw [w64' (n := (A.length : Int) + ((U1.length : Int) + ((u :: U2).length : Int)) + (Q.length : Int) + (U1.length : Int)) (by simp; omega) (by simp; omega), w64' (n := (A.length : Int) + (U1.length : Int)) (by omega) (by omega), w64' (n := (U1.length : Int) + 1) (by omega) (by omega)]
    rw [if_pos (by simp; omega), if_pos (by omega), if_pos (by simp; omega), if_pos (by omega), if_pos (by simp; omega)]
    rw [e, swap2 (A ++ V1) u (U2 ++ Q ++ U1) v (V2 ++ S) (by simp; omega) (by simp; omega)]
    have e2 : (A ++ V1) ++ v :: ((U2 ++ Q ++ U1) ++ u :: (V2 ++ S)) = A ++ (V1 ++ [v]) ++ U2 ++ Q ++ (U1 ++ [u]) ++ V2 ++ S := by simp
    rw [e2]
    simp only [List.length_append, List.length_cons, List.length_nil] at ih ⊢
    have e3 : ((U1.length + (0 + 1) : Nat) : Int) = (U1.length : Int) + 1 := by omega
    rw [e3] at ih
    have e4 : (U1.length : Int) + 1 + (U2.length : Int) = (U1.length : Int) + ((U2.length + 1 : Nat) : Int) := by omega
    rw [e4] at ih
    rw [ih]
    simp
/-- Two stretches of one length change places. -/
theorem swapRange_eq (A U Q V S : List S66) (h : U.length = V.length) (hb : A.length + U.length + Q.length + U.length + S.length ≤ 4611686018427387904) {a b n : Int} (ha : a = (A.length : Int)) (hb' : b = (A.length : Int) + (U.length : Int) + (Q.length : Int)) (hn : n = (U.length : Int)) (u : Unit) {k : Nat} (hk : U.length + 1 ≤ k) :
    share_rest_69.f k (A ++ U ++ Q ++ V ++ S) a b n u = some (A ++ V ++ Q ++ U ++ S) := by
  subst ha hb' hn
  have := swap_l0 A Q S U V [] [] k h rfl (by simp; omega) hk
  simpa [share_rest_69.f] using this

theorem rotate_l0 (u : Unit) : ∀ (n : Nat) (A X Y B : List S66) (k : Nat), X.length + Y.length = n → 0 < X.length → 0 < Y.length → A.length + X.length + Y.length + B.length ≤ 1152921504606846976 → n + 2 ≤ k →
    share_rest_67.l0 k (A ++ X ++ Y ++ B) ((A.length : Int) + (X.length : Int)) u (X.length : Int) (Y.length : Int) = some (A ++ Y ++ X ++ B) := by
  intro n
  induction n using Nat.strongRecOn with
  | _ n ih =>
    intro A X Y B k hn hx hy hb hk
    obtain ⟨k, rfl⟩ : ∃ m, k = m + 1 := ⟨k - 1, by omega⟩
    have ew : wrap64 ((A.length : Int) + (X.length : Int) - (X.length : Int)) = (A.length : Int) := by rw [w64' (by omega) (by omega)]; omega
    simp only [share_rest_67.l0]
    rw [ew]
    clear ew
    by_cases c : (X.length : Int) = (Y.length : Int)
    · rw [if_pos c]
      have h := swapRange_eq A X [] Y B (by omega) (by simp; omega) (a := (A.length : Int)) (b := (A.length : Int) + (X.length : Int)) (n := (X.length : Int)) rfl (by simp) rfl u (k := k) (by omega)
      simp only [List.append_nil] at h
      rw [h]
      rfl
    · rw [if_neg c]
      by_cases c2 : (X.length : Int) > (Y.length : Int)
      · rw [if_pos c2]
        obtain ⟨X1, X2, rfl, h1⟩ : ∃ X1 X2, X = X1 ++ X2 ∧ X1.length = Y.length := ⟨X.take Y.length, X.drop Y.length, (List.take_append_drop _ _).symm, by simp; omega⟩
        simp only [List.length_append] at hn hx hb c2 c ⊢
        have h := swapRange_eq A X1 X2 Y B h1 (by omega) (a := (A.length : Int)) (b := (A.length : Int) + ((X1.length + X2.length : Nat) : Int)) (n := (Y.length : Int)) rfl (by omega) (by omega) u (k := k) (by omega)
        rw [show A ++ (X1 ++ X2) ++ Y ++ B = A ++ X1 ++ X2 ++ Y ++ B by simp, h]
        simp only [Option.bind_some]
        have g := ih (X2.length + X1.length) (by omega) (A ++ Y) X2 X1 B k rfl (by omega) (by omega) (by simp; omega) (by omega)
        rw [w64' (n := ((X1.length + X2.length : Nat) : Int) - (Y.length : Int)) (by omega) (by omega)]
        have e1 : ((X1.length + X2.length : Nat) : Int) - (Y.length : Int) = (X2.length : Int) := by omega
        have e2 : (A.length : Int) + ((X1.length + X2.length : Nat) : Int) = ((A ++ Y).length : Int) + (X2.length : Int) := by simp; omega
        have e3 : (Y.length : Int) = (X1.length : Int) := by omega
        rw [e1, e2, e3, g]
        simp
      · rw [if_neg c2]
        obtain ⟨Y1, Y2, rfl, h1⟩ : ∃ Y1 Y2, Y = Y1 ++ Y2 ∧ Y2.length = X.length := ⟨Y.take (Y.length - X.length), Y.drop (Y.length - X.length), (List.take_append_drop _ _).symm, by simp; omega⟩
        simp only [List.length_append] at hn hy hb c2 c ⊢
        have h := swapRange_eq A X Y1 Y2 B h1.symm (by omega) (a := (A.length : Int)) (b := (A.length : Int) + (X.length : Int) + (Y1.length : Int)) (n := (X.length : Int)) rfl (by omega) rfl u (k := k) (by omega)
        have e0 : wrap64 (wrap64 ((A.length : Int) + (X.length : Int) + ((Y1.length + Y2.length : Nat) : Int)) - (X.length : Int)) = (A.length : Int) + (X.length : Int) + (Y1.length : Int) := by
          rw [w64' (n := (A.length : Int) + (X.length : Int) + ((Y1.length + Y2.length : Nat) : Int)) (by omega) (by omega), w64' (by omega) (by omega)]
          omega
        rw [e0, show A ++ X ++ (Y1 ++ Y2) ++ B = A ++ X ++ Y1 ++ Y2 ++ B by simp, h]
        clear e0
        simp only [Option.bind_some]
        have g := ih (Y2.length + Y1.length) (by omega) A Y2 Y1 (X ++ B) k rfl (by omega) (by omega) (by simp; omega) (by omega)
        rw [w64' (n := ((Y1.length + Y2.length : Nat) : Int) - (X.length : Int)) (by omega) (by omega)]
        have e1 : ((Y1.length + Y2.length : Nat) : Int) - (X.length : Int) = (Y1.length : Int) := by omega
        have e3 : (X.length : Int) = (Y2.length : Int) := by omega
        rw [e1, e3, show A ++ Y2 ++ Y1 ++ X ++ B = A ++ Y2 ++ Y1 ++ (X ++ B) by simp, g]
        simp
/-- Two neighbouring stretches change places. -/
theorem rotate_eq (A X Y B : List S66) (hx : 0 < X.length) (hy : 0 < Y.length) (hb : A.length + X.length + Y.length + B.length ≤ 1152921504606846976) {a m b : Int} (ha : a = (A.length : Int)) (hm : m = (A.length : Int) + (X.length : Int)) (hb' : b = (A.length : Int) + (X.length : Int) + (Y.length : Int)) (u : Unit) {k : Nat} (hk : X.length + Y.length + 2 ≤ k) :
    share_rest_67.f k (A ++ X ++ Y ++ B) a m b u = some (A ++ Y ++ X ++ B) := by
  subst ha hm hb'
  have h := rotate_l0 u _ A X Y B k rfl hx hy hb hk
  simp only [share_rest_67.f]
  have e1 : wrap64 ((A.length : Int) + (X.length : Int) - (A.length : Int)) = (X.length : Int) := by rw [w64' (by omega) (by omega)]; omega
  have e2 : wrap64 ((A.length : Int) + (X.length : Int) + (Y.length : Int) - ((A.length : Int) + (X.length : Int))) = (Y.length : Int) := by rw [w64' (by omega) (by omega)]; omega
  rw [e1, e2]
  exact h
end Go.Proofs.Ytjjlmmebkemlgaa.PS
