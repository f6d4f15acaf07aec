/-
FlexFrozen answers true: round by round, each ask with its numbers unknown.
-/
import Derived.Test.YtjjlmmebkemlgaaFrozen0
import Derived.Test.YtjjlmmebkemlgaaFrozen1
import Derived.Test.YtjjlmmebkemlgaaFrozen2
set_option linter.unusedVariables false
set_option linter.unusedSimpArgs false
namespace Go.Proofs.Ytjjlmmebkemlgaa.Frozen
open Go.RowKit Go.Ai
/-- The asks' numbers, gap and room; what each of them is within 1000. -/
structure Nums where
  n : Nat
  gap : Nat → Int
  room : Nat → Int
  wg : Nat → Int
  wr : Nat → Int
def envOf (d : Nums) : Nat → Int := fun v => if v = 100 then d.n else if v % 4 = 0 then d.gap (v / 4) else if v % 4 = 1 then d.wg (v / 4) / 2 else if v % 4 = 2 then d.room (v / 4) else d.wr (v / 4)
structure NumsOk (d : Nums) : Prop where
  n : d.n ≤ 9223372036854775807
  gap : ∀ i, i < d.n → i < 10 → (-9223372036854775808 ≤ d.gap i ∧ d.gap i ≤ 9223372036854775807) ∧ (0 ≤ d.wg i ∧ d.wg i < 1000) ∧ IsWithin Try.prog 21 (d.gap i) 1000 (d.wg i)
  room : ∀ i, i < d.n → i < 10 → (-9223372036854775808 ≤ d.room i ∧ d.room i ≤ 9223372036854775807) ∧ (0 ≤ d.wr i ∧ d.wr i < 1000) ∧ IsWithin Try.prog 21 (d.room i) 1000 (d.wr i)
section
variable {d : Nums} (hd : NumsOk d)
theorem env100 : envOf d 100 = d.n := rfl
theorem env0 {i : Nat} (hi : i < 10) : envOf d (4 * i) = d.gap i := by
  unfold envOf
  rw [if_neg (by omega), if_pos (by omega), show 4 * i / 4 = i by omega]
theorem env1 {i : Nat} (hi : i < 10) : envOf d (4 * i + 1) = d.wg i / 2 := by
  unfold envOf
  rw [if_neg (by omega), if_neg (by omega), if_pos (by omega), show (4 * i + 1) / 4 = i by omega]
theorem env2 {i : Nat} (hi : i < 10) : envOf d (4 * i + 2) = d.room i := by
  unfold envOf
  rw [if_neg (by omega), if_neg (by omega), if_neg (by omega), if_pos (by omega), show (4 * i + 2) / 4 = i by omega]
theorem env3 {i : Nat} (hi : i < 10) : envOf d (4 * i + 3) = d.wr i := by
  unfold envOf
  rw [if_neg (by omega), if_neg (by omega), if_neg (by omega), if_neg (by omega), show (4 * i + 3) / 4 = i by omega]
theorem E_eval : E.eval (envOf d) = d.n := by unfold E; rw [uk_eval, env100]
include hd
theorem E_ok : E.ok (envOf d) := uk_ok (by rw [env100]; have := hd.n; omega)
theorem kn_ok {i : Nat} (hi : i < 10) (hn : i < d.n) {r : Int} (hr : d.wg i % 2 = r) : KnOk Try.prog (envOf d) (kn i r) := by
  obtain ⟨g1, g2, g3⟩ := hd.gap i hn hi
  obtain ⟨q1, q2, q3⟩ := hd.room i hn hi
  refine within_ok body (fun v n e he => ?_) (fun f hf => ?_) (fun _ h => by cases h)
  · simp only [List.mem_cons, List.not_mem_nil, or_false, Prod.mk.injEq] at he
    rcases he with ⟨rfl, rfl, rfl⟩ | ⟨rfl, rfl, rfl⟩
    · have e : (ukc 2 (4 * i + 1) 0 499 r).eval (envOf d) = d.wg i := by rw [ukc_eval, env1 hi]; omega
      rw [e, env0 hi, wrap_id g1.1 (by omega)]
      exact ⟨ukc_ok (by rw [env1 hi]; omega), by omega, g3⟩
    · have e : (uk (4 * i + 3) 0 999).eval (envOf d) = d.wr i := by rw [uk_eval, env3 hi]
      rw [e, env2 hi, wrap_id q1.1 (by omega)]
      exact ⟨uk_ok (by rw [env3 hi]; omega), by omega, q3⟩
  · simp only [List.mem_cons, List.not_mem_nil, or_false] at hf
    subst hf
    exact ⟨Lin.ok_sub (E_ok hd) (Lin.ok_num _), by rw [Lin.eval_sub, E_eval, Lin.eval_num]; omega⟩
theorem knX_ok {i : Nat} (hn : d.n = i) : KnOk Try.prog (envOf d) (knX i) := by
  refine ⟨fun _ _ _ h => (by cases h), fun f hf => ?_, fun _ h => by cases h⟩
  simp only [knX, List.mem_cons, List.not_mem_nil, or_false] at hf
  subst hf
  exact ⟨Lin.ok_sub (Lin.ok_num _) (E_ok hd), by rw [Lin.eval_sub, E_eval, Lin.eval_num]; omega⟩
theorem kn10_ok (hn : 10 < d.n) : KnOk Try.prog (envOf d) kn10 := by
  refine ⟨fun _ _ _ h => (by cases h), fun f hf => ?_, fun _ h => by cases h⟩
  simp only [kn10, List.mem_cons, List.not_mem_nil, or_false] at hf
  subst hf
  exact ⟨Lin.ok_sub (E_ok hd) (Lin.ok_num _), by rw [Lin.eval_sub, E_eval, Lin.eval_num]; omega⟩
end
/-- What the asks' cells hold. -/
def CellsAt (w : World) (rt : Rt) (d : Nums) : Prop := ∀ i, i < d.n → i < 10 → (∀ j, j < 3 * i → ∃ v, w.cell? ⟨rt.blk 0, rt.sh 0 + j, none⟩ = some v ∧ v.oneCell' = true) ∧ (∃ a n c, w.cell? ⟨rt.blk 0, rt.sh 0 + 3 * i, none⟩ = some (.slice a n c)) ∧
  w.cell? ⟨rt.blk 0, rt.sh 0 + (3 * i + 1), none⟩ = some (.int .i64 (d.gap i)) ∧ w.cell? ⟨rt.blk 0, rt.sh 0 + (3 * i + 2), none⟩ = some (.int .i64 (d.room i))
theorem cells_at {w : World} {rt : Rt} {d : Nums} (hd : NumsOk d) (hc : CellsAt w rt d) {i : Nat} (hi : i < 10) (hn : i < d.n) (j : Nat) (x : S) (hx : (cells i)[j]? = some x) : ∃ v, w.cell? ⟨rt.blk 0, rt.sh 0 + j, none⟩ = some v ∧ ∀ ι : Inj, ι.env = envOf d → SR ι x v := by
  obtain ⟨h1, ⟨a, n, c, h2⟩, h3, h4⟩ := hc i hn hi
  unfold cells at hx
  by_cases hj : j < 3 * i
  · rw [List.getElem?_append_left (by simpa using hj)] at hx
    simp [hj] at hx
    subst hx
    obtain ⟨v, e1, e2⟩ := h1 j hj
    exact ⟨v, e1, fun ι _ => e2⟩
  · rw [List.getElem?_append_right (by simp; omega)] at hx
    simp only [List.length_replicate] at hx
    have : j = 3 * i ∨ j = 3 * i + 1 ∨ j = 3 * i + 2 := by
      have := (List.getElem?_eq_some_iff.1 hx).1
      simp at this; omega
    rcases this with rfl | rfl | rfl
    · rw [Nat.sub_self] at hx; simp at hx; subst hx; exact ⟨_, h2, fun ι _ => ⟨a, n, c, rfl⟩⟩
    · rw [show 3 * i + 1 - 3 * i = 1 by omega] at hx; simp at hx; subst hx
      exact ⟨_, h3, fun ι he => raw_rel (hd.gap i hn hi).1 (by rw [he, env0 hi])⟩
    · rw [show 3 * i + 2 - 3 * i = 2 by omega] at hx; simp at hx; subst hx
      exact ⟨_, h4, fun ι he => raw_rel (hd.room i hn hi).1 (by rw [he, env2 hi])⟩
section
variable {d : Nums} (hd : NumsOk d) {w : World} {rt : Rt} (h1 : rt.n = 1) (hb : rt.blk 0 < w.heap.size) (hc : CellsAt w rt d)
abbrev Go_ (d : Nums) (w : World) (rt : Rt) (c : Code) (p : Pt) (e : Ex) (q : Pt) : Prop := Goes Try.prog rt (envOf d) Kn.none 77 w c p e q
include h1 in
theorem seen {c : Code} {p q : Pt} {e : Ex} {k : Kn} (hk : KnOk Try.prog (envOf d) k) (hx : (p.run k fun T0 h => endsAt 1 e q [0] (execF Try.prog (runK Try.prog 100) 77 100 c none T0 h)) = true) : Go_ d w rt c p e q :=
  Goes.know hk (Goes.seen (runF_calls orders names 100) (runF_draws orders names 100 77 (by omega)) (by omega) (by rw [h1]; exact hx))
include h1 hd in
theorem round_goes {i : Nat} (hi : i < 10) (hn : i < d.n) : Go_ d w rt B (ptA i) .normal (ptB i) := by
  have hr : d.wg i % 2 = 0 ∨ d.wg i % 2 = 1 := by omega
  have hi' : i = 0 ∨ i = 1 ∨ i = 2 ∨ i = 3 ∨ i = 4 ∨ i = 5 ∨ i = 6 ∨ i = 7 ∨ i = 8 ∨ i = 9 := by omega
  rcases hi' with rfl | rfl | rfl | rfl | rfl | rfl | rfl | rfl | rfl | rfl
  · rcases hr with hr | hr
    · exact seen h1 (kn_ok hd hi hn hr) round_0_0
    · exact seen h1 (kn_ok hd hi hn hr) round_0_1
  · rcases hr with hr | hr
    · exact seen h1 (kn_ok hd hi hn hr) round_1_0
    · exact seen h1 (kn_ok hd hi hn hr) round_1_1
  · rcases hr with hr | hr
    · exact seen h1 (kn_ok hd hi hn hr) round_2_0
    · exact seen h1 (kn_ok hd hi hn hr) round_2_1
  · rcases hr with hr | hr
    · exact seen h1 (kn_ok hd hi hn hr) round_3_0
    · exact seen h1 (kn_ok hd hi hn hr) round_3_1
  · rcases hr with hr | hr
    · exact seen h1 (kn_ok hd hi hn hr) round_4_0
    · exact seen h1 (kn_ok hd hi hn hr) round_4_1
  · rcases hr with hr | hr
    · exact seen h1 (kn_ok hd hi hn hr) round_5_0
    · exact seen h1 (kn_ok hd hi hn hr) round_5_1
  · rcases hr with hr | hr
    · exact seen h1 (kn_ok hd hi hn hr) round_6_0
    · exact seen h1 (kn_ok hd hi hn hr) round_6_1
  · rcases hr with hr | hr
    · exact seen h1 (kn_ok hd hi hn hr) round_7_0
    · exact seen h1 (kn_ok hd hi hn hr) round_7_1
  · rcases hr with hr | hr
    · exact seen h1 (kn_ok hd hi hn hr) round_8_0
    · exact seen h1 (kn_ok hd hi hn hr) round_8_1
  · rcases hr with hr | hr
    · exact seen h1 (kn_ok hd hi hn hr) round_9_0
    · exact seen h1 (kn_ok hd hi hn hr) round_9_1
include h1 hd in
theorem exit_goes {i : Nat} (hi : i ≤ 10) (hn : i = d.n ∨ (i = 10 ∧ 10 < d.n)) : Go_ d w rt B (ptX i) (.exit 0) ptE := by
  rcases hn with hn | ⟨rfl, hn⟩
  · have hi' : i = 0 ∨ i = 1 ∨ i = 2 ∨ i = 3 ∨ i = 4 ∨ i = 5 ∨ i = 6 ∨ i = 7 ∨ i = 8 ∨ i = 9 ∨ i = 10 := by omega
    rcases hi' with rfl | rfl | rfl | rfl | rfl | rfl | rfl | rfl | rfl | rfl | rfl
    · exact seen h1 (knX_ok hd hn.symm) exit_0
    · exact seen h1 (knX_ok hd hn.symm) exit_1
    · exact seen h1 (knX_ok hd hn.symm) exit_2
    · exact seen h1 (knX_ok hd hn.symm) exit_3
    · exact seen h1 (knX_ok hd hn.symm) exit_4
    · exact seen h1 (knX_ok hd hn.symm) exit_5
    · exact seen h1 (knX_ok hd hn.symm) exit_6
    · exact seen h1 (knX_ok hd hn.symm) exit_7
    · exact seen h1 (knX_ok hd hn.symm) exit_8
    · exact seen h1 (knX_ok hd hn.symm) exit_9
    · exact seen h1 (knX_ok hd hn.symm) exit_10
  · exact seen h1 (kn10_ok hd hn) exit_11
include h1 hd hb hc in
theorem rounds : ∀ (k i : Nat), i + k = min d.n 10 → ∀ (ι : Inj) (a : Act) (w' : World) (Q : Exit → Act → World → Prop), At Try.prog rt (envOf d) Kn.none 77 w (ptX i).tt ((ptX i).hh Kn.none) ι a w' →
    (∀ ι' a' w'', At Try.prog rt (envOf d) Kn.none 77 w ptE.tt (ptE.hh Kn.none) ι' a' w'' → Q (.exit 0) a' w'') → wpRound Try.prog B Q a w'
  | 0, i, hk, ι, a, w', Q, k, K => by
    refine wpRound_of (exit_goes hd h1 (i := i) (by omega) (by omega) ι a w' _ k fun ι' a' w'' k' => K ι' a' w'' k')
  | k0 + 1, i, hk, ι, a, w', Q, k, K => by
    have hi : i < 10 := by omega
    have hn : i < d.n := by omega
    have kA : At Try.prog rt (envOf d) Kn.none 77 w (ptA i).tt ((ptA i).hh Kn.none) ι a w' :=
      k.widen (m' := i + 1) (l' := cells i) (fun p hp => by simp only [List.mem_cons, List.not_mem_nil, or_false] at hp; rcases hp with rfl | rfl <;> simp) (by rw [E_eval]; omega) (by omega) hb (cells_at hd hc hi hn)
    refine wpRound_of (round_goes hd h1 hi hn ι a w' _ kA fun ι' a' w'' kB => ?_)
    have kX : At Try.prog rt (envOf d) Kn.none 77 w (ptX (i + 1)).tt ((ptX (i + 1)).hh Kn.none) ι' a' w'' :=
      kB.widen (m' := 0) (l' := []) (fun p hp => by simp only [List.mem_cons, List.not_mem_nil, or_false] at hp; rcases hp with rfl | rfl <;> simp) (by rw [E_eval]; omega) (by omega) hb (fun j x hx => by simp at hx)
    exact rounds k0 (i + 1) (by omega) ι' a' w'' Q kX K
include h1 hd hb hc in
theorem goes : Go_ d w rt C pt0 .ret ptQ := by
  have hC : C = .seq (fstC C) (.seq (.seq (fstC (fstC (sndC C))) (.block 0 (.loop B))) (sndC (sndC C))) := by kernel_rfl
  rw [hC]
  refine Goes.seq (seen h1 (Kn.none_ok _ _) begin_0) (Goes.seq (q := ptE) (Goes.seq (seen h1 (Kn.none_ok _ _) begin_1) (Goes.block (Goes.loop ?_))) (seen h1 (Kn.none_ok _ _) rest))
  exact fun ι a w' Q k K => rounds hd h1 hb hc (min d.n 10) 0 (by omega) ι a w' Q k K
end
theorem calls_some {d : Nums} (hd : NumsOk d) {w : World} {ad : Addr} (hs : ad.spot = none) {cap : Nat} (h0 : 0 < d.n) (hb : ad.block < w.heap.size) (hc : CellsAt w ⟨1, fun _ => ad.block, fun _ => ad.off⟩ d) : Calls Try.prog 11 #[.slice (some ad) d.n cap] w fun e w' => e = .returned (.bool true) ∧ Below w.heap.size w w' := by
  have ha : All2 (VR (Inj.rows (envOf d) ([[]] : List (List S)).length (fun _ => ad.block) fun _ => ad.off)) [V.one (.slx 0 0 0 E)] [.slice (some ad) d.n cap] :=
    .cons ⟨Nat.zero_lt_one, E_ok hd, ad, cap, d.n, rfl, rfl, hs, rfl, E_eval.symm, Nat.zero_le _⟩ .nil
  have hf : Try.prog.funcs[11]? = some (fnAt Try.prog 11) := by kernel_rfl
  have hb' : (fnAt Try.prog 11).body = some C := by kernel_rfl
  have hnt : (fnAt Try.prog 11).ntmps = 77 := by kernel_rfl
  refine calls_pieces hf hb' (Kn.none_ok Try.prog (envOf d)) w (fun b xs hx => ?_) ha (by rw [hnt]; decide) (e := .ret) (q := ptQ) (.inr rfl) (by kernel_rfl) (rt := ⟨1, fun _ => ad.block, fun _ => ad.off⟩) ⟨Nat.le_refl _, rfl, rfl⟩ (by rw [hnt]; exact goes hd rfl hb hc)
  cases b with
  | zero => simp at hx; subst hx; exact ⟨hb, fun j x h => by simp at h⟩
  | succ b => simp at hx
theorem calls_none {w : World} {A : Option Addr} {cap : Nat} : Calls Try.prog 11 #[.slice A 0 cap] w fun e w' => e = .returned (.bool true) ∧ Below w.heap.size w w' := by
  have ha : All2 (VR (Inj.none fun _ => 0)) [V.one (.lsl (Lin.num 0))] [.slice A 0 cap] := .cons ⟨Lin.ok_num _, A, cap, 0, rfl, by rw [Lin.eval_num]; rfl⟩ .nil
  have := empty
  rw [runK_eq] at this
  exact run_true' orders names 100 (Kn.none_ok _ _) ha this w
end Go.Proofs.Ytjjlmmebkemlgaa.Frozen
