/-
LayoutShares answers true: its pieces join.
-/
import Derived.Test.YthacbaagffpkoaaShares0
import Derived.Test.YthacbaagffpkoaaShares1
import Derived.Test.YthacbaagffpkoaaShares2
import Derived.Test.YthacbaagffpkoaaShares3
import Derived.Test.YthacbaagffpkoaaShares4
import Derived.Test.YthacbaagffpkoaaShares5
import Derived.Test.YthacbaagffpkoaaShares6
import Derived.Test.YthacbaagffpkoaaShares7
import Derived.Test.YthacbaagffpkoaaShares8
import Derived.Test.YthacbaagffpkoaaShares9
import Derived.Test.YthacbaagffpkoaaShares10
import Derived.Test.YthacbaagffpkoaaShares11
import Derived.Test.YthacbaagffpkoaaShares12
import Derived.Test.YthacbaagffpkoaaShares13
import Derived.Test.YthacbaagffpkoaaSharesA
set_option linter.unusedVariables false
set_option linter.unusedSimpArgs false
set_option maxRecDepth 100000
namespace Go.Proofs.Ythacbaagffpkoaa.Shares
open Go.RowKit Go.Ai Go.Proofs.Ythacbaagffpkoaa.RowTwo Go.Proofs.YthacbaagffpkoaaW.PrintWords
theorem orders : Try.prog.follows .mixedOrders = true := by kernel_rfl
theorem names : namesB Try.prog = true := by kernel_rfl
theorem body : HasBody Try.prog 18 := hasBodyB (by kernel_rfl)
theorem within5000 : withinB Try.prog 18 5000 := ⟨by kernel_rfl, by kernel_rfl⟩
theorem within100000 : withinB Try.prog 18 100000 := ⟨by kernel_rfl, by kernel_rfl⟩
structure Nums where
  lw : Nat
  g : Int
  wd : Int
  l : List Int
  ww : Int
  f : Int → Int
def Nums.n (d : Nums) : Nat := 1 + d.lw % 10
def Nums.h (d : Nums) (i : Nat) : Int := if i < d.l.length then d.f (d.l.getD i 0) else 0
def Nums.M (d : Nums) : Nat → Int
  | 0 => 0
  | i + 1 => max (d.M i) (d.h i)
def Nums.w (d : Nums) : Int := 1000 + d.ww
def envOf (d : Nums) : Nat → Int := fun v => if v = 100 then d.l.length else if v = 101 then d.lw / 10 else if v = 0 then d.g else if v = 2 then d.wd else if v = 60 then d.w else if v = 61 then d.n else if v = 62 then d.w / d.n
  else if 70 ≤ v ∧ v < 90 then d.M (v - 70) else if v % 2 = 0 then d.l.getD ((v - 10) / 2) 0 else d.h ((v - 11) / 2)
structure NumsOk (d : Nums) : Prop where
  lw : d.lw ≤ 9223372036854775807
  g : -9223372036854775808 ≤ d.g ∧ d.g ≤ 9223372036854775807
  wd : -9223372036854775808 ≤ d.wd ∧ d.wd ≤ 9223372036854775807
  n : d.l.length ≤ 9223372036854775807
  l : ∀ y ∈ d.l, -9223372036854775808 ≤ y ∧ y ≤ 9223372036854775807
  ww : (0 ≤ d.ww ∧ d.ww < 100000) ∧ IsWithin Try.prog 18 d.wd 100000 d.ww
  f : ∀ y, -9223372036854775808 ≤ y ∧ y ≤ 9223372036854775807 → (0 ≤ d.f y ∧ d.f y < 5000) ∧ IsWithin Try.prog 18 y 5000 (d.f y)
section
variable {d : Nums}
theorem getD_mem {l : List Int} {i : Nat} (hi : i < l.length) : l.getD i 0 ∈ l ∧ l[i]? = some (l.getD i 0) := by
  have e : l[i]? = some (l.getD i 0) := by rw [List.getD_eq_getElem?_getD, List.getElem?_eq_getElem hi]; rfl
  exact ⟨List.mem_of_getElem? e, e⟩
theorem h_ok (hd : NumsOk d) (i : Nat) : 0 ≤ d.h i ∧ d.h i ≤ 4999 := by
  unfold Nums.h
  split
  · rename_i hi; have := (hd.f _ (hd.l _ (getD_mem hi).1)).1; omega
  · omega
theorem M_ok (hd : NumsOk d) : ∀ i, 0 ≤ d.M i ∧ d.M i ≤ 4999
  | 0 => by unfold Nums.M; omega
  | i + 1 => by
    have h1 := M_ok hd i
    have h2 := h_ok hd i
    unfold Nums.M
    rcases Int.le_total (d.M i) (d.h i) with q | q
    · rw [Int.max_eq_right q]; exact h2
    · rw [Int.max_eq_left q]; exact h1
theorem M_succ (i : Nat) : d.M (i + 1) = max (d.M i) (d.h i) := rfl
theorem M_one (hd : NumsOk d) : d.M 1 = d.h 0 := by
  show max 0 (d.h 0) = d.h 0
  exact Int.max_eq_right (h_ok hd 0).1
theorem h_le (i : Nat) : ∀ k, i < k → d.h i ≤ d.M k
  | 0, h => by omega
  | k + 1, h => by
    rw [M_succ]
    rcases Nat.lt_or_ge i k with q | q
    · exact Int.le_trans (h_le i k q) (Int.le_max_left ..)
    · have : i = k := by omega
      subst this; exact Int.le_max_right ..
theorem n_ok : 1 ≤ d.n ∧ d.n ≤ 10 := by unfold Nums.n; omega
theorem eE : envOf d 100 = d.l.length := rfl
theorem eN : envOf d 61 = d.n := rfl
theorem eW : envOf d 60 = d.w := rfl
theorem eQ : envOf d 62 = d.w / d.n := rfl
theorem eR {i : Nat} (hi : i < 10) : envOf d (10 + 2 * i) = d.l.getD i 0 := by
  unfold envOf
  rw [if_neg (by omega), if_neg (by omega), if_neg (by omega), if_neg (by omega), if_neg (by omega), if_neg (by omega), if_neg (by omega), if_neg (by omega), if_pos (by omega), show (10 + 2 * i - 10) / 2 = i by omega]
theorem eH {i : Nat} (hi : i < 10) : envOf d (11 + 2 * i) = d.h i := by
  unfold envOf
  rw [if_neg (by omega), if_neg (by omega), if_neg (by omega), if_neg (by omega), if_neg (by omega), if_neg (by omega), if_neg (by omega), if_neg (by omega), if_neg (by omega), show (11 + 2 * i - 11) / 2 = i by omega]
theorem eM {i : Nat} (hi : i < 20) : envOf d (70 + i) = d.M i := by
  unfold envOf
  rw [if_neg (by omega), if_neg (by omega), if_neg (by omega), if_neg (by omega), if_neg (by omega), if_neg (by omega), if_neg (by omega), if_pos (by omega), show 70 + i - 70 = i by omega]
variable (hd : NumsOk d)
include hd
theorem w_ok : 1000 ≤ d.w ∧ d.w ≤ 100999 := by have := hd.ww.1; unfold Nums.w; omega
theorem kE : E.ok (envOf d) ∧ E.eval (envOf d) = d.l.length := ⟨uk_ok (by rw [eE]; have := hd.n; omega), by unfold E; rw [uk_eval, eE]⟩
omit hd in
theorem kN : Nn.ok (envOf d) ∧ Nn.eval (envOf d) = d.n := ⟨uk_ok (by rw [eN]; have := n_ok (d := d); omega), by unfold Nn; rw [uk_eval, eN]⟩
theorem kW : Wd.ok (envOf d) ∧ Wd.eval (envOf d) = d.w := ⟨uk_ok (by rw [eW]; exact w_ok hd), by unfold Wd; rw [uk_eval, eW]⟩
theorem kH {i : Nat} (hi : i < 10) : (hh i).ok (envOf d) ∧ (hh i).eval (envOf d) = d.h i := ⟨uk_ok (by rw [eH hi]; exact h_ok hd i), by unfold hh; rw [uk_eval, eH hi]⟩
theorem kM {i : Nat} (hi : i < 20) : (Shares.M i).ok (envOf d) ∧ (Shares.M i).eval (envOf d) = d.M i := ⟨uk_ok (by rw [eM hi]; exact M_ok hd i), by unfold Shares.M; rw [uk_eval, eM hi]⟩
theorem wq_eq {k : Nat} (hk : d.n = k) {r : Int} (hr : d.w % k = r) : (wq k r).ok (envOf d) ∧ (wq k r).eval (envOf d) = d.w := by
  have hn := n_ok (d := d)
  have hw := w_ok hd
  have h1 : (k : Int) * (d.w / k) + d.w % k = d.w := Int.mul_ediv_add_emod d.w k
  have h0 : 0 ≤ r ∧ r < k := ⟨by rw [← hr]; exact Int.emod_nonneg _ (by omega), by rw [← hr]; exact Int.emod_lt_of_pos _ (by omega)⟩
  rw [hr] at h1
  refine ⟨ukc_ok ?_, by unfold wq; rw [ukc_eval, eQ, hk]; exact h1⟩
  rw [eQ, hk]
  have hkp : (0 : Int) < k := by omega
  constructor
  · have : (1000 - r + k - 1) / k < d.w / k + 1 := Int.ediv_lt_of_lt_mul hkp (by rw [Int.add_mul, Int.one_mul, Int.mul_comm]; omega)
    omega
  · exact (Int.le_ediv_iff_mul_le hkp).2 (by rw [Int.mul_comm]; omega)
theorem knA_ok {k : Nat} (hk : d.n = k) : KnOk Try.prog (envOf d) (knA k) := by
  refine within_ok body (fun v n e he => ?_) (fun f hf => ?_) (fun _ h => by cases h)
  · simp only [List.mem_cons, List.not_mem_nil, or_false, Prod.mk.injEq] at he
    obtain ⟨rfl, rfl, rfl⟩ := he
    have hw := w_ok hd
    have e : (ukc 1 60 1000 100999 (-1000)).eval (envOf d) = d.ww := by rw [ukc_eval, eW]; unfold Nums.w; omega
    rw [e, show envOf d 2 = d.wd from rfl, wrap_id hd.wd.1 (by have := hd.wd; omega)]
    exact ⟨ukc_ok (by rw [eW]; exact hw), by have := hd.ww.1; omega, hd.ww.2⟩
  · simp only [List.mem_cons, List.not_mem_nil, or_false] at hf
    obtain ⟨n1, n2⟩ := kN (d := d)
    obtain ⟨w1, w2⟩ := kW hd
    have hw := w_ok hd
    rcases hf with rfl | rfl | rfl
    · exact ⟨Lin.ok_sub n1 (Lin.ok_num _), by rw [Lin.eval_sub, n2, Lin.eval_num]; omega⟩
    · exact ⟨Lin.ok_sub (Lin.ok_num _) n1, by rw [Lin.eval_sub, n2, Lin.eval_num]; omega⟩
    · exact ⟨Lin.ok_sub w1 (Lin.ok_num _), by rw [Lin.eval_sub, w2, Lin.eval_num]; omega⟩
theorem knX_ok {k : Nat} (hk : d.n = k) : KnOk Try.prog (envOf d) (knX k) := by
  have _ := hd.lw
  refine ⟨fun _ _ _ h => (by cases h), fun f hf => ?_, fun _ h => by cases h⟩
  simp only [knX, List.mem_cons, List.not_mem_nil, or_false] at hf
  obtain ⟨n1, n2⟩ := kN (d := d)
  rcases hf with rfl | rfl
  · exact ⟨Lin.ok_sub n1 (Lin.ok_num _), by rw [Lin.eval_sub, n2, Lin.eval_num]; omega⟩
  · exact ⟨Lin.ok_sub (Lin.ok_num _) n1, by rw [Lin.eval_sub, n2, Lin.eval_num]; omega⟩
theorem mEq_ok (i : Nat) : ∀ f ∈ mEq i, f.ok (envOf d) ∧ 0 ≤ f.eval (envOf d) := by
  intro f hf
  unfold mEq at hf
  cases hi : Nat.beq i 0 with
  | false => rw [hi] at hf; cases hf
  | true =>
    rw [hi] at hf
    simp only [cond_true, List.mem_cons, List.not_mem_nil, or_false] at hf
    obtain ⟨a1, a2⟩ := kM hd (i := 1) (by omega)
    obtain ⟨b1, b2⟩ := kH hd (i := 0) (by omega)
    have := M_one hd
    rcases hf with rfl | rfl
    · exact ⟨Lin.ok_sub a1 b1, by rw [Lin.eval_sub, a2, b2]; omega⟩
    · exact ⟨Lin.ok_sub b1 a1, by rw [Lin.eval_sub, a2, b2]; omega⟩
theorem knH_ok {i : Nat} (hi : i < 10) (hn : i < d.n) (hl : i < d.l.length) : KnOk Try.prog (envOf d) (knH i) := by
  have hr := hd.l _ (getD_mem hl).1
  have hf0 := hd.f _ hr
  have hh0 : d.h i = d.f (d.l.getD i 0) := by unfold Nums.h; rw [if_pos hl]
  refine within_ok body (fun v n e he => ?_) (fun f hf => ?_) (fun p hp => ?_)
  · simp only [List.mem_cons, List.not_mem_nil, or_false, Prod.mk.injEq] at he
    obtain ⟨rfl, rfl, rfl⟩ := he
    obtain ⟨a1, a2⟩ := kH hd hi
    rw [a2, eR hi, wrap_id hr.1 (by omega), hh0]
    exact ⟨a1, by omega, hf0.2⟩
  · rcases List.mem_append.1 hf with hf | hf
    · simp only [List.mem_cons, List.not_mem_nil, or_false] at hf
      obtain ⟨n1, n2⟩ := kN (d := d)
      obtain ⟨e1, e2⟩ := kE hd
      rcases hf with rfl | rfl
      · exact ⟨Lin.ok_sub e1 (Lin.ok_num _), by rw [Lin.eval_sub, e2, Lin.eval_num]; omega⟩
      · exact ⟨Lin.ok_sub n1 (Lin.ok_num _), by rw [Lin.eval_sub, n2, Lin.eval_num]; omega⟩
    · exact mEq_ok hd i f hf
  · have hp : p ∈ mxOf i := hp
    unfold mxOf at hp
    cases hb : Nat.beq i 0 with
    | true => rw [hb] at hp; cases hp
    | false =>
      rw [hb] at hp
      simp only [cond_false, List.mem_cons, List.not_mem_nil, or_false] at hp
      subst hp
      obtain ⟨a1, a2⟩ := kM hd (i := i + 1) (by omega)
      exact ⟨a1, by rw [a2, (kM hd (i := i) (by omega)).2, (kH hd hi).2]; rfl⟩
theorem knM_ok {i : Nat} (hi : i < 10) (hn : i < d.n) (hl : d.l.length ≤ i) : KnOk Try.prog (envOf d) (knM i) := by
  have hh0 : d.h i = 0 := by unfold Nums.h; rw [if_neg (by omega)]
  refine ⟨fun _ _ _ h => (by cases h), fun f hf => ?_, fun _ h => by cases h⟩
  rcases List.mem_append.1 hf with hf | hf
  · simp only [List.mem_cons, List.not_mem_nil, or_false] at hf
    obtain ⟨n1, n2⟩ := kN (d := d)
    obtain ⟨e1, e2⟩ := kE hd
    obtain ⟨a1, a2⟩ := kH hd hi
    rcases hf with rfl | rfl | rfl
    · exact ⟨Lin.ok_sub (Lin.ok_num _) e1, by rw [Lin.eval_sub, e2, Lin.eval_num]; omega⟩
    · exact ⟨Lin.ok_sub n1 (Lin.ok_num _), by rw [Lin.eval_sub, n2, Lin.eval_num]; omega⟩
    · exact ⟨Lin.ok_sub (Lin.ok_num _) a1, by rw [Lin.eval_sub, a2, Lin.eval_num]; omega⟩
  · unfold mEq0 at hf
    obtain ⟨a1, a2⟩ := kM hd (i := i) (by omega)
    obtain ⟨b1, b2⟩ := kM hd (i := i + 1) (by omega)
    have hM : d.M (i + 1) = d.M i := by rw [M_succ, hh0]; exact Int.max_eq_left (M_ok hd i).1
    cases hb : Nat.beq i 0 with
    | true =>
      rw [hb] at hf
      have := Nat.eq_of_beq_eq_true hb
      subst this
      simp only [cond_true, List.mem_cons, List.not_mem_nil, or_false] at hf
      subst hf
      have h0 : d.M 0 = 0 := rfl
      exact ⟨Lin.ok_sub (Lin.ok_num _) b1, by rw [Lin.eval_sub, b2, Lin.eval_num]; omega⟩
    | false =>
      rw [hb] at hf
      simp only [cond_false, List.mem_cons, List.not_mem_nil, or_false] at hf
      rcases hf with rfl | rfl
      · exact ⟨Lin.ok_sub b1 a1, by rw [Lin.eval_sub, a2, b2]; omega⟩
      · exact ⟨Lin.ok_sub a1 b1, by rw [Lin.eval_sub, a2, b2]; omega⟩
theorem knD_ok {k : Nat} (hk : d.n = k) {r : Int} (hr : d.w % k = r) : KnOk Try.prog (envOf d) (knD k r) := by
  have hn := n_ok (d := d)
  refine ⟨fun _ _ _ h => (by cases h), fun f hf => ?_, fun p hp => ?_⟩
  · rcases List.mem_append.1 hf with hf | hf
    · simp only [List.mem_cons, List.not_mem_nil, or_false] at hf
      obtain ⟨n1, n2⟩ := kN (d := d)
      obtain ⟨w1, w2⟩ := kW hd
      obtain ⟨q1, q2⟩ := wq_eq hd hk hr
      obtain ⟨a1, a2⟩ := kM hd (i := 1) (by omega)
      obtain ⟨b1, b2⟩ := kH hd (i := 0) (by omega)
      have := M_one hd
      rcases hf with rfl | rfl | rfl | rfl | rfl | rfl
      · exact ⟨Lin.ok_sub n1 (Lin.ok_num _), by rw [Lin.eval_sub, n2, Lin.eval_num]; omega⟩
      · exact ⟨Lin.ok_sub (Lin.ok_num _) n1, by rw [Lin.eval_sub, n2, Lin.eval_num]; omega⟩
      · exact ⟨Lin.ok_sub w1 q1, by rw [Lin.eval_sub, w2, q2]; omega⟩
      · exact ⟨Lin.ok_sub q1 w1, by rw [Lin.eval_sub, w2, q2]; omega⟩
      · exact ⟨Lin.ok_sub a1 b1, by rw [Lin.eval_sub, a2, b2]; omega⟩
      · exact ⟨Lin.ok_sub b1 a1, by rw [Lin.eval_sub, a2, b2]; omega⟩
    · obtain ⟨i, hi, rfl⟩ := List.mem_map.1 hf
      have hi : i < k := by simpa using hi
      obtain ⟨a1, a2⟩ := kM hd (i := k) (by omega)
      obtain ⟨b1, b2⟩ := kH hd (i := i) (by omega)
      have := h_le (d := d) i k hi
      exact ⟨Lin.ok_sub a1 b1, by rw [Lin.eval_sub, a2, b2]; omega⟩
  · have hp : p ∈ mxAll k := hp
    unfold mxAll at hp
    rcases List.mem_cons.1 hp with rfl | hp
    · obtain ⟨a1, a2⟩ := kM hd (i := 2) (by omega)
      exact ⟨a1, by rw [a2, (kH hd (i := 0) (by omega)).2, (kH hd (i := 1) (by omega)).2, M_succ, M_one hd]⟩
    · obtain ⟨i, hi, hp⟩ := List.mem_flatMap.1 hp
      simp only [List.mem_cons, List.not_mem_nil, or_false] at hp
      subst hp
      have hi : i < k - 1 := by simpa using hi
      obtain ⟨a1, a2⟩ := kM hd (i := i + 2) (by omega)
      exact ⟨a1, by rw [a2, (kM hd (i := i + 1) (by omega)).2, (kH hd (i := i + 1) (by omega)).2]; rfl⟩
end
def rt0 : Rt := ⟨0, fun _ => 0, fun _ => 0⟩
theorem slots_rel {ι : Inj} : ∀ {l l' : List (Nat × V)}, All2 (fun p p' => p.1 = p'.1 ∧ ∀ v, VR ι p.2 v → VR ι p'.2 v) l l' → ∀ {t t' : Sl}, (∀ k x', t'.get k = some x' → ∃ x, t.get k = some x ∧ ∀ v, VR ι x v → VR ι x' v) → ∀ k x', (slotsT l' t').get k = some x' → ∃ x, (slotsT l t).get k = some x ∧ ∀ v, VR ι x v → VR ι x' v
  | _, _, .nil, _, _, h, k, x', hx => h k x' hx
  | _, _, .cons hp hl, t, t', h, k, x', hx => slots_rel hl (fun j y' hy => by
      rw [Sl.get_set'] at hy ⊢
      rw [← hp.1] at hy
      split at hy
      · rename_i e; rw [if_pos e]; cases hy; exact ⟨_, rfl, hp.2⟩
      · rename_i e; rw [if_neg e]; exact h j y' hy) k x' hx
theorem _root_.Go.Ai.At.slots {P : Program} {rt : Rt} {env : Nat → Int} {kn : Kn} {nt : Nat} {w0 : World} {ι : Inj} {a : Act} {w : World} {p : Pt} (k : At P rt env kn nt w0 p.tt (p.hh kn) ι a w) {sl' : List (Nat × V)} (h : All2 (fun p p' => p.1 = p'.1 ∧ ∀ v, VR ι p.2 v → VR ι p'.2 v) p.sl sl') : At P rt env kn nt w0 (Pt.tt ⟨sl', p.bl⟩) (p.hh kn) ι a w :=
  ⟨⟨k.rel.hr, fun t x hx => by
    obtain ⟨y, hy, hv⟩ := slots_rel h (t := Sl.new) (t' := Sl.new) (fun k x' h => by rw [Sl.get_new] at h; cases h) t x hx
    exact hv _ (k.rel.tr t y hy), k.rel.defers, k.rel.size⟩, k.env, k.kn, k.size, k.os, k.tape, k.output, k.own, k.same, k.flat, k.root⟩
abbrev hc := runF_calls (P := Try.prog) orders names 300
abbrev hD := runF_draws (P := Try.prog) orders names 300 146 (by omega)
abbrev A_ (rt : Rt) (d : Nums) (kn : Kn) (w0 : World) (p : Pt) (ι : Inj) (a : Act) (w : World) : Prop := At Try.prog rt (envOf d) kn 146 w0 p.tt (p.hh kn) ι a w
section
variable {d : Nums} (hd : NumsOk d) {w0 : World} {rt : Rt}
/-- A piece, with knowledge of its own. -/
theorem piece {kn : Kn} (hk : KnOk Try.prog (envOf d) kn) {c : Code} {p q : Pt} {e : Ex} {ρ : List Nat} {ι : Inj} {a : Act} {w : World} {Q : Exit → Act → World → Prop} (hx : (p.run kn fun T0 h => endsAt rt.n e q ρ (execF Try.prog (runK Try.prog 300) 146 300 c none T0 h)) = true) (k : A_ rt d Kn.none w0 p ι a w)
    (K : ∀ ι' a' w', A_ rt d Kn.none w0 q ι' a' w' → Q e.out a' w') : c.wp Try.prog Q a w :=
  Goes.seen hc hD (by omega) hx ι a w Q (k.know hk) fun ι' a' w' k' => K ι' a' w' (k'.know (Kn.none_ok _ _))
include hd in
theorem has {i : Nat} (hi : i < 10) (hn : i < d.n) (hl : i < d.l.length) (h1 : rt.n = 1) {ι : Inj} {a : Act} {w : World} {Q : Exit → Act → World → Prop} (k : A_ rt d Kn.none w0 (wid E (i + 1) (rowOf i) (pb i)) ι a w)
    (K : ∀ ι' a' w', A_ rt d Kn.none w0 (wid E (i + 1) (rowOf i) (pb (i + 1))) ι' a' w' → Q .normal a' w') : B.wp Try.prog Q a w := by
  have hk := knH_ok hd hi hn hl
  have hi' : i = 0 ∨ i = 1 ∨ i = 2 ∨ i = 3 ∨ i = 4 ∨ i = 5 ∨ i = 6 ∨ i = 7 ∨ i = 8 ∨ i = 9 := by omega
  rcases hi' with rfl | rfl | rfl | rfl | rfl | rfl | rfl | rfl | rfl | rfl
  · exact piece hk (by rw [h1]; exact has_0) k K
  · exact piece hk (by rw [h1]; exact has_1) k K
  · exact piece hk (by rw [h1]; exact has_2) k K
  · exact piece hk (by rw [h1]; exact has_3) k K
  · exact piece hk (by rw [h1]; exact has_4) k K
  · exact piece hk (by rw [h1]; exact has_5) k K
  · exact piece hk (by rw [h1]; exact has_6) k K
  · exact piece hk (by rw [h1]; exact has_7) k K
  · exact piece hk (by rw [h1]; exact has_8) k K
  · exact piece hk (by rw [h1]; exact has_9) k K
include hd in
theorem miss {i : Nat} (hi : i < 10) (hn : i < d.n) (hl : d.l.length ≤ i) {ι : Inj} {a : Act} {w : World} {Q : Exit → Act → World → Prop} (k : A_ rt0 d Kn.none w0 (pl i) ι a w)
    (K : ∀ ι' a' w', A_ rt0 d Kn.none w0 (pl (i + 1)) ι' a' w' → Q .normal a' w') : B.wp Try.prog Q a w := by
  have hk := knM_ok hd hi hn hl
  have hi' : i = 0 ∨ i = 1 ∨ i = 2 ∨ i = 3 ∨ i = 4 ∨ i = 5 ∨ i = 6 ∨ i = 7 ∨ i = 8 ∨ i = 9 := by omega
  rcases hi' with rfl | rfl | rfl | rfl | rfl | rfl | rfl | rfl | rfl | rfl
  · exact piece (rt := rt0) hk miss_0 k K
  · exact piece (rt := rt0) hk miss_1 k K
  · exact piece (rt := rt0) hk miss_2 k K
  · exact piece (rt := rt0) hk miss_3 k K
  · exact piece (rt := rt0) hk miss_4 k K
  · exact piece (rt := rt0) hk miss_5 k K
  · exact piece (rt := rt0) hk miss_6 k K
  · exact piece (rt := rt0) hk miss_7 k K
  · exact piece (rt := rt0) hk miss_8 k K
  · exact piece (rt := rt0) hk miss_9 k K
include hd in
theorem leave {k0 : Nat} (hn : d.n = k0) {ι : Inj} {a : Act} {w : World} {Q : Exit → Act → World → Prop} (k : A_ rt0 d Kn.none w0 (pl k0) ι a w)
    (K : ∀ ι' a' w', A_ rt0 d Kn.none w0 (px k0) ι' a' w' → Q (.exit 0) a' w') : B.wp Try.prog Q a w := by
  have hk := knX_ok hd hn
  have := n_ok (d := d)
  have hi' : k0 = 1 ∨ k0 = 2 ∨ k0 = 3 ∨ k0 = 4 ∨ k0 = 5 ∨ k0 = 6 ∨ k0 = 7 ∨ k0 = 8 ∨ k0 = 9 ∨ k0 = 10 := by omega
  rcases hi' with rfl | rfl | rfl | rfl | rfl | rfl | rfl | rfl | rfl | rfl
  · exact piece (rt := rt0) hk exit_1 k K
  · exact piece (rt := rt0) hk exit_2 k K
  · exact piece (rt := rt0) hk exit_3 k K
  · exact piece (rt := rt0) hk exit_4 k K
  · exact piece (rt := rt0) hk exit_5 k K
  · exact piece (rt := rt0) hk exit_6 k K
  · exact piece (rt := rt0) hk exit_7 k K
  · exact piece (rt := rt0) hk exit_8 k K
  · exact piece (rt := rt0) hk exit_9 k K
  · exact piece (rt := rt0) hk exit_10 k K
theorem toL {i : Nat} (hi : i ≤ 10) {ι : Inj} {a : Act} {w : World} (k : A_ rt d Kn.none w0 (wid E 0 [] (pb i)) ι a w) : ∃ ι', A_ rt0 d Kn.none w0 (pl i) ι' a w := by
  have k := k.unroot (rt' := rt0) rfl
  have hi' : i = 0 ∨ i = 1 ∨ i = 2 ∨ i = 3 ∨ i = 4 ∨ i = 5 ∨ i = 6 ∨ i = 7 ∨ i = 8 ∨ i = 9 ∨ i = 10 := by omega
  rcases hi' with rfl | rfl | rfl | rfl | rfl | rfl | rfl | rfl | rfl | rfl | rfl
  · exact ⟨_, k.see toL_0⟩
  · exact ⟨_, k.see toL_1⟩
  · exact ⟨_, k.see toL_2⟩
  · exact ⟨_, k.see toL_3⟩
  · exact ⟨_, k.see toL_4⟩
  · exact ⟨_, k.see toL_5⟩
  · exact ⟨_, k.see toL_6⟩
  · exact ⟨_, k.see toL_7⟩
  · exact ⟨_, k.see toL_8⟩
  · exact ⟨_, k.see toL_9⟩
  · exact ⟨_, k.see toL_10⟩
include hd in
theorem roundsL : ∀ (k i : Nat), i + k = d.n → d.l.length ≤ i ∨ i = d.n → ∀ (ι : Inj) (a : Act) (w : World) (Q : Exit → Act → World → Prop), A_ rt0 d Kn.none w0 (pl i) ι a w → (∀ ι' a' w', A_ rt0 d Kn.none w0 (px d.n) ι' a' w' → Q (.exit 0) a' w') → wpRound Try.prog B Q a w
  | 0, i, hk, _, ι, a, w, Q, k, K => by
    have : i = d.n := by omega
    subst this
    exact wpRound_of (leave hd rfl k fun ι' a' w' k' => K ι' a' w' k')
  | k0 + 1, i, hk, hl, ι, a, w, Q, k, K => by
    have hn := n_ok (d := d)
    exact wpRound_of (miss hd (by omega) (by omega) (by omega) k fun ι' a' w' k' => roundsL k0 (i + 1) (by omega) (by omega) ι' a' w' Q k' K)
variable (h1 : rt.n = 1) (hb : rt.blk 0 < w0.heap.size) (hc0 : ∀ i, i < d.l.length → w0.cell? ⟨rt.blk 0, rt.sh 0 + i, none⟩ = some (.int .i64 (d.l.getD i 0)))
include hd hc0 in
theorem row_at {i : Nat} (hi : i < 10) (hl : i < d.l.length) (j : Nat) (x : S) (hx : (rowOf i)[j]? = some x) : ∃ v, w0.cell? ⟨rt.blk 0, rt.sh 0 + j, none⟩ = some v ∧ ∀ ι : Inj, ι.env = envOf d → SR ι x v := by
  unfold rowOf at hx
  by_cases hj : j < i
  · rw [List.getElem?_append_left (by simpa using hj)] at hx
    simp [hj] at hx
    subst hx
    exact ⟨_, hc0 j (by omega), fun ι _ => rfl⟩
  · rw [List.getElem?_append_right (by simp; omega)] at hx
    simp only [List.length_replicate] at hx
    have : j = i := by
      have := (List.getElem?_eq_some_iff.1 hx).1
      simp at this; omega
    subst this
    rw [Nat.sub_self] at hx; simp at hx; subst hx
    exact ⟨_, hc0 j hl, fun ι he => raw_rel (hd.l _ (getD_mem hl).1) (by rw [he, eR hi])⟩
include hd h1 hb hc0 in
theorem roundsB : ∀ (k i : Nat), i + k = min d.n d.l.length → ∀ (ι : Inj) (a : Act) (w : World) (Q : Exit → Act → World → Prop), A_ rt d Kn.none w0 (wid E 0 [] (pb i)) ι a w → (∀ ι' a' w', A_ rt0 d Kn.none w0 (px d.n) ι' a' w' → Q (.exit 0) a' w') → wpRound Try.prog B Q a w
  | 0, i, hk, ι, a, w, Q, k, K => by
    have hn := n_ok (d := d)
    obtain ⟨ι', k'⟩ := toL (i := i) (by omega) k
    exact roundsL hd (d.n - i) i (by omega) (by omega) ι' a w Q k' K
  | k0 + 1, i, hk, ι, a, w, Q, k, K => by
    have hn := n_ok (d := d)
    have hi : i < 10 := by omega
    have hl : i < d.l.length := by omega
    have kA : A_ rt d Kn.none w0 (wid E (i + 1) (rowOf i) (pb i)) ι a w := k.wid (m' := i + 1) (l' := rowOf i) (by rw [(kE hd).2]; omega) (by omega) hb (row_at hd hc0 hi hl)
    refine wpRound_of (has hd hi (by omega) hl h1 kA fun ι' a' w' k' => ?_)
    have kB : A_ rt d Kn.none w0 (wid E 0 [] (pb (i + 1))) ι' a' w' := k'.wid (m' := 0) (l' := []) (by rw [(kE hd).2]; omega) (by omega) hb (fun j x hx => by simp at hx)
    exact roundsB k0 (i + 1) (by omega) ι' a' w' Q kB K
include hd in
theorem rest {ι : Inj} {a : Act} {w : World} {Q : Exit → Act → World → Prop} (k : A_ rt0 d Kn.none w0 (px d.n) ι a w) (K : ∀ ι' a' w', A_ rt0 d Kn.none w0 ptQ ι' a' w' → Q .ret a' w') : REST.wp Try.prog Q a w := by
  have hn := n_ok (d := d)
  have go : ∀ (k0 : Nat) (r : Int) (ρ' : List Nat), d.n = k0 → d.w % k0 = r → (px k0).sl[2]? = some (3, .one (.yi .i64 Nn)) → (px k0).sl[3]? = some (4, .one (.yi .i64 Wd)) → (∃ a b c1 c2 e f, (px k0).sl = [a, b, c1, c2, e, f] ∧ (pc k0 r).sl = [a, b, (3, .one (n k0)), (4, .one (.yi .i64 (wq k0 r))), e, f]) → ((pc k0 r).run (knD k0 r) fun T0 h => endsAt 0 .ret ptQ ρ' (execF Try.prog (runK Try.prog 300) 146 300 REST none T0 h)) = true → REST.wp Try.prog Q a w := by
    intro k0 r ρ' h1 h2 h3 h3' ⟨a', b', c1, c2, e', f', e1, e2⟩ h4
    have hk := knD_ok hd h1 h2
    obtain ⟨q1, q2⟩ := wq_eq hd h1 h2
    rw [e1] at h3 h3'
    simp at h3 h3'
    subst h3 h3'
    have k1 : A_ rt0 d Kn.none w0 (pc k0 r) ι a w := by
      rw [h1] at k
      have k := k.slots (sl' := (pc k0 r).sl) (by
        rw [e1, e2]
        refine .cons ⟨rfl, fun v h => h⟩ (.cons ⟨rfl, fun v h => h⟩ (.cons ⟨rfl, fun v h => ?_⟩ (.cons ⟨rfl, fun v h => ?_⟩ (.cons ⟨rfl, fun v h => h⟩ (.cons ⟨rfl, fun v h => h⟩ .nil)))))
        · obtain ⟨_, h⟩ := h
          rw [k.env, (kN (d := d)).2, h1, wrap_id (by omega) (by omega)] at h
          exact h
        · obtain ⟨_, h⟩ := h
          rw [k.env, (kW hd).2] at h
          exact ⟨by rw [k.env]; exact q1, by rw [k.env, q2]; exact h⟩)
      exact k
    exact piece (rt := rt0) hk h4 k1 K
  have hr0 : ∀ k0 : Nat, 0 < k0 → 0 ≤ d.w % k0 ∧ d.w % k0 < k0 := fun k0 h => ⟨Int.emod_nonneg _ (by omega), Int.emod_lt_of_pos _ (by omega)⟩
  have hi' : d.n = 1 ∨ d.n = 2 ∨ d.n = 3 ∨ d.n = 4 ∨ d.n = 5 ∨ d.n = 6 ∨ d.n = 7 ∨ d.n = 8 ∨ d.n = 9 ∨ d.n = 10 := by omega
  rcases hi' with hm | hm | hm | hm | hm | hm | hm | hm | hm | hm
  · have := hr0 1 (by omega)
    have hr : d.w % ((1 : Nat) : Int) = 0 := by omega
    exact go 1 0 _ hm hr rfl rfl ⟨_, _, _, _, _, _, rfl, rfl⟩ d_1_0
  · have := hr0 2 (by omega)
    have hr : d.w % ((2 : Nat) : Int) = 0 ∨ d.w % ((2 : Nat) : Int) = 1 := by omega
    rcases hr with hr | hr
    · exact go 2 0 _ hm hr rfl rfl ⟨_, _, _, _, _, _, rfl, rfl⟩ d_2_0
    · exact go 2 1 _ hm hr rfl rfl ⟨_, _, _, _, _, _, rfl, rfl⟩ d_2_1
  · have := hr0 3 (by omega)
    have hr : d.w % ((3 : Nat) : Int) = 0 ∨ d.w % ((3 : Nat) : Int) = 1 ∨ d.w % ((3 : Nat) : Int) = 2 := by omega
    rcases hr with hr | hr | hr
    · exact go 3 0 _ hm hr rfl rfl ⟨_, _, _, _, _, _, rfl, rfl⟩ d_3_0
    · exact go 3 1 _ hm hr rfl rfl ⟨_, _, _, _, _, _, rfl, rfl⟩ d_3_1
    · exact go 3 2 _ hm hr rfl rfl ⟨_, _, _, _, _, _, rfl, rfl⟩ d_3_2
  · have := hr0 4 (by omega)
    have hr : d.w % ((4 : Nat) : Int) = 0 ∨ d.w % ((4 : Nat) : Int) = 1 ∨ d.w % ((4 : Nat) : Int) = 2 ∨ d.w % ((4 : Nat) : Int) = 3 := by omega
    rcases hr with hr | hr | hr | hr
    · exact go 4 0 _ hm hr rfl rfl ⟨_, _, _, _, _, _, rfl, rfl⟩ d_4_0
    · exact go 4 1 _ hm hr rfl rfl ⟨_, _, _, _, _, _, rfl, rfl⟩ d_4_1
    · exact go 4 2 _ hm hr rfl rfl ⟨_, _, _, _, _, _, rfl, rfl⟩ d_4_2
    · exact go 4 3 _ hm hr rfl rfl ⟨_, _, _, _, _, _, rfl, rfl⟩ d_4_3
  · have := hr0 5 (by omega)
    have hr : d.w % ((5 : Nat) : Int) = 0 ∨ d.w % ((5 : Nat) : Int) = 1 ∨ d.w % ((5 : Nat) : Int) = 2 ∨ d.w % ((5 : Nat) : Int) = 3 ∨ d.w % ((5 : Nat) : Int) = 4 := by omega
    rcases hr with hr | hr | hr | hr | hr
    · exact go 5 0 _ hm hr rfl rfl ⟨_, _, _, _, _, _, rfl, rfl⟩ d_5_0
    · exact go 5 1 _ hm hr rfl rfl ⟨_, _, _, _, _, _, rfl, rfl⟩ d_5_1
    · exact go 5 2 _ hm hr rfl rfl ⟨_, _, _, _, _, _, rfl, rfl⟩ d_5_2
    · exact go 5 3 _ hm hr rfl rfl ⟨_, _, _, _, _, _, rfl, rfl⟩ d_5_3
    · exact go 5 4 _ hm hr rfl rfl ⟨_, _, _, _, _, _, rfl, rfl⟩ d_5_4
  · have := hr0 6 (by omega)
    have hr : d.w % ((6 : Nat) : Int) = 0 ∨ d.w % ((6 : Nat) : Int) = 1 ∨ d.w % ((6 : Nat) : Int) = 2 ∨ d.w % ((6 : Nat) : Int) = 3 ∨ d.w % ((6 : Nat) : Int) = 4 ∨ d.w % ((6 : Nat) : Int) = 5 := by omega
    rcases hr with hr | hr | hr | hr | hr | hr
    · exact go 6 0 _ hm hr rfl rfl ⟨_, _, _, _, _, _, rfl, rfl⟩ d_6_0
    · exact go 6 1 _ hm hr rfl rfl ⟨_, _, _, _, _, _, rfl, rfl⟩ d_6_1
    · exact go 6 2 _ hm hr rfl rfl ⟨_, _, _, _, _, _, rfl, rfl⟩ d_6_2
    · exact go 6 3 _ hm hr rfl rfl ⟨_, _, _, _, _, _, rfl, rfl⟩ d_6_3
    · exact go 6 4 _ hm hr rfl rfl ⟨_, _, _, _, _, _, rfl, rfl⟩ d_6_4
    · exact go 6 5 _ hm hr rfl rfl ⟨_, _, _, _, _, _, rfl, rfl⟩ d_6_5
  · have := hr0 7 (by omega)
    have hr : d.w % ((7 : Nat) : Int) = 0 ∨ d.w % ((7 : Nat) : Int) = 1 ∨ d.w % ((7 : Nat) : Int) = 2 ∨ d.w % ((7 : Nat) : Int) = 3 ∨ d.w % ((7 : Nat) : Int) = 4 ∨ d.w % ((7 : Nat) : Int) = 5 ∨ d.w % ((7 : Nat) : Int) = 6 := by omega
    rcases hr with hr | hr | hr | hr | hr | hr | hr
    · exact go 7 0 _ hm hr rfl rfl ⟨_, _, _, _, _, _, rfl, rfl⟩ d_7_0
    · exact go 7 1 _ hm hr rfl rfl ⟨_, _, _, _, _, _, rfl, rfl⟩ d_7_1
    · exact go 7 2 _ hm hr rfl rfl ⟨_, _, _, _, _, _, rfl, rfl⟩ d_7_2
    · exact go 7 3 _ hm hr rfl rfl ⟨_, _, _, _, _, _, rfl, rfl⟩ d_7_3
    · exact go 7 4 _ hm hr rfl rfl ⟨_, _, _, _, _, _, rfl, rfl⟩ d_7_4
    · exact go 7 5 _ hm hr rfl rfl ⟨_, _, _, _, _, _, rfl, rfl⟩ d_7_5
    · exact go 7 6 _ hm hr rfl rfl ⟨_, _, _, _, _, _, rfl, rfl⟩ d_7_6
  · have := hr0 8 (by omega)
    have hr : d.w % ((8 : Nat) : Int) = 0 ∨ d.w % ((8 : Nat) : Int) = 1 ∨ d.w % ((8 : Nat) : Int) = 2 ∨ d.w % ((8 : Nat) : Int) = 3 ∨ d.w % ((8 : Nat) : Int) = 4 ∨ d.w % ((8 : Nat) : Int) = 5 ∨ d.w % ((8 : Nat) : Int) = 6 ∨ d.w % ((8 : Nat) : Int) = 7 := by omega
    rcases hr with hr | hr | hr | hr | hr | hr | hr | hr
    · exact go 8 0 _ hm hr rfl rfl ⟨_, _, _, _, _, _, rfl, rfl⟩ d_8_0
    · exact go 8 1 _ hm hr rfl rfl ⟨_, _, _, _, _, _, rfl, rfl⟩ d_8_1
    · exact go 8 2 _ hm hr rfl rfl ⟨_, _, _, _, _, _, rfl, rfl⟩ d_8_2
    · exact go 8 3 _ hm hr rfl rfl ⟨_, _, _, _, _, _, rfl, rfl⟩ d_8_3
    · exact go 8 4 _ hm hr rfl rfl ⟨_, _, _, _, _, _, rfl, rfl⟩ d_8_4
    · exact go 8 5 _ hm hr rfl rfl ⟨_, _, _, _, _, _, rfl, rfl⟩ d_8_5
    · exact go 8 6 _ hm hr rfl rfl ⟨_, _, _, _, _, _, rfl, rfl⟩ d_8_6
    · exact go 8 7 _ hm hr rfl rfl ⟨_, _, _, _, _, _, rfl, rfl⟩ d_8_7
  · have := hr0 9 (by omega)
    have hr : d.w % ((9 : Nat) : Int) = 0 ∨ d.w % ((9 : Nat) : Int) = 1 ∨ d.w % ((9 : Nat) : Int) = 2 ∨ d.w % ((9 : Nat) : Int) = 3 ∨ d.w % ((9 : Nat) : Int) = 4 ∨ d.w % ((9 : Nat) : Int) = 5 ∨ d.w % ((9 : Nat) : Int) = 6 ∨ d.w % ((9 : Nat) : Int) = 7 ∨ d.w % ((9 : Nat) : Int) = 8 := by omega
    rcases hr with hr | hr | hr | hr | hr | hr | hr | hr | hr
    · exact go 9 0 _ hm hr rfl rfl ⟨_, _, _, _, _, _, rfl, rfl⟩ d_9_0
    · exact go 9 1 _ hm hr rfl rfl ⟨_, _, _, _, _, _, rfl, rfl⟩ d_9_1
    · exact go 9 2 _ hm hr rfl rfl ⟨_, _, _, _, _, _, rfl, rfl⟩ d_9_2
    · exact go 9 3 _ hm hr rfl rfl ⟨_, _, _, _, _, _, rfl, rfl⟩ d_9_3
    · exact go 9 4 _ hm hr rfl rfl ⟨_, _, _, _, _, _, rfl, rfl⟩ d_9_4
    · exact go 9 5 _ hm hr rfl rfl ⟨_, _, _, _, _, _, rfl, rfl⟩ d_9_5
    · exact go 9 6 _ hm hr rfl rfl ⟨_, _, _, _, _, _, rfl, rfl⟩ d_9_6
    · exact go 9 7 _ hm hr rfl rfl ⟨_, _, _, _, _, _, rfl, rfl⟩ d_9_7
    · exact go 9 8 _ hm hr rfl rfl ⟨_, _, _, _, _, _, rfl, rfl⟩ d_9_8
  · have := hr0 10 (by omega)
    have hr : d.w % ((10 : Nat) : Int) = 0 ∨ d.w % ((10 : Nat) : Int) = 1 ∨ d.w % ((10 : Nat) : Int) = 2 ∨ d.w % ((10 : Nat) : Int) = 3 ∨ d.w % ((10 : Nat) : Int) = 4 ∨ d.w % ((10 : Nat) : Int) = 5 ∨ d.w % ((10 : Nat) : Int) = 6 ∨ d.w % ((10 : Nat) : Int) = 7 ∨ d.w % ((10 : Nat) : Int) = 8 ∨ d.w % ((10 : Nat) : Int) = 9 := by omega
    rcases hr with hr | hr | hr | hr | hr | hr | hr | hr | hr | hr
    · exact go 10 0 _ hm hr rfl rfl ⟨_, _, _, _, _, _, rfl, rfl⟩ d_10_0
    · exact go 10 1 _ hm hr rfl rfl ⟨_, _, _, _, _, _, rfl, rfl⟩ d_10_1
    · exact go 10 2 _ hm hr rfl rfl ⟨_, _, _, _, _, _, rfl, rfl⟩ d_10_2
    · exact go 10 3 _ hm hr rfl rfl ⟨_, _, _, _, _, _, rfl, rfl⟩ d_10_3
    · exact go 10 4 _ hm hr rfl rfl ⟨_, _, _, _, _, _, rfl, rfl⟩ d_10_4
    · exact go 10 5 _ hm hr rfl rfl ⟨_, _, _, _, _, _, rfl, rfl⟩ d_10_5
    · exact go 10 6 _ hm hr rfl rfl ⟨_, _, _, _, _, _, rfl, rfl⟩ d_10_6
    · exact go 10 7 _ hm hr rfl rfl ⟨_, _, _, _, _, _, rfl, rfl⟩ d_10_7
    · exact go 10 8 _ hm hr rfl rfl ⟨_, _, _, _, _, _, rfl, rfl⟩ d_10_8
    · exact go 10 9 _ hm hr rfl rfl ⟨_, _, _, _, _, _, rfl, rfl⟩ d_10_9
include hd in
theorem tailL {ι : Inj} {a : Act} {w : World} {Q : Exit → Act → World → Prop} (k : A_ rt0 d Kn.none w0 pal ι a w) (K : ∀ ι' a' w', A_ rt0 d Kn.none w0 ptQ ι' a' w' → Q .ret a' w') (h0 : d.l.length = 0) : (Code.seq (.seq (fstC (fstC X)) (.block 0 (.loop B))) REST).wp Try.prog Q a w := by
  refine wp_seq (wp_seq (piece (rt := rt0) (Kn.none_ok _ _) r5l k fun ι' a' w' k' => ?_))
  refine wp_block (wp_loop_of (roundsL hd d.n 0 (by omega) (by omega) ι' a' w' _ k' fun ι2 a2 w2 k2 => ?_))
  show Exit.inBlock 0 _ (.exit 0) a2 w2
  simp only [Exit.inBlock, if_true]
  exact rest hd k2 K
include hd h1 hb hc0 in
theorem tailB {ι : Inj} {a : Act} {w : World} {Q : Exit → Act → World → Prop} (k : A_ rt d Kn.none w0 (wid E 0 [] pa) ι a w) (K : ∀ ι' a' w', A_ rt0 d Kn.none w0 ptQ ι' a' w' → Q .ret a' w') : (Code.seq (.seq (fstC (fstC X)) (.block 0 (.loop B))) REST).wp Try.prog Q a w := by
  refine wp_seq (wp_seq (piece (Kn.none_ok _ _) (by rw [h1]; exact r5b) k fun ι' a' w' k' => ?_))
  refine wp_block (wp_loop_of (roundsB hd h1 hb hc0 (min d.n d.l.length) 0 (by omega) ι' a' w' _ k' fun ι2 a2 w2 k2 => ?_))
  show Exit.inBlock 0 _ (.exit 0) a2 w2
  simp only [Exit.inBlock, if_true]
  exact rest hd k2 K
theorem code : C = seqL pre (.seq (.seq (fstC (fstC X)) (.block 0 (.loop B))) REST) := by kernel_rfl
include hd in
theorem beginB (h1 : rt.n = 1) {x : Code} {ι : Inj} {a : Act} {w : World} {Q : Exit → Act → World → Prop} (k : A_ rt d Kn.none w0 (startB2 d.n) ι a w) (K : ∀ ι' a' w', A_ rt d Kn.none w0 (wid E 0 [] pa) ι' a' w' → x.wp Try.prog Q a' w') : (seqL pre x).wp Try.prog Q a w := by
  have hn := n_ok (d := d)
  have go : ∀ (k0 : Nat) (ρ : List Nat), d.n = k0 → ((startB2 k0).run (knA k0) fun T0 h => endsAt 1 .normal (wid E 0 [] pa) ρ (execF Try.prog (runK Try.prog 300) 146 300 (seqL pre .skip) none T0 h)) = true → (seqL pre x).wp Try.prog Q a w := by
    intro k0 ρ h2 h3
    have hk := knA_ok hd h2
    subst h2
    exact At.pre hc hD (by omega) (by rw [h1]; exact h3) (k.know hk) fun ι' a' w' k' => K ι' a' w' (k'.know (Kn.none_ok _ _))
  have hi' : d.n = 1 ∨ d.n = 2 ∨ d.n = 3 ∨ d.n = 4 ∨ d.n = 5 ∨ d.n = 6 ∨ d.n = 7 ∨ d.n = 8 ∨ d.n = 9 ∨ d.n = 10 := by omega
  rcases hi' with hm | hm | hm | hm | hm | hm | hm | hm | hm | hm
  · exact go 1 _ hm a2_1
  · exact go 2 _ hm a2_2
  · exact go 3 _ hm a2_3
  · exact go 4 _ hm a2_4
  · exact go 5 _ hm a2_5
  · exact go 6 _ hm a2_6
  · exact go 7 _ hm a2_7
  · exact go 8 _ hm a2_8
  · exact go 9 _ hm a2_9
  · exact go 10 _ hm a2_10
include hd in
theorem beginL {x : Code} {ι : Inj} {a : Act} {w : World} {Q : Exit → Act → World → Prop} (k : A_ rt0 d Kn.none w0 (startL2 d.n) ι a w) (K : ∀ ι' a' w', A_ rt0 d Kn.none w0 pal ι' a' w' → x.wp Try.prog Q a' w') : (seqL pre x).wp Try.prog Q a w := by
  have hn := n_ok (d := d)
  have go : ∀ (k0 : Nat) (ρ : List Nat), d.n = k0 → ((startL2 k0).run (knA k0) fun T0 h => endsAt 0 .normal pal ρ (execF Try.prog (runK Try.prog 300) 146 300 (seqL pre .skip) none T0 h)) = true → (seqL pre x).wp Try.prog Q a w := by
    intro k0 ρ h2 h3
    have hk := knA_ok hd h2
    subst h2
    exact At.pre (rt := rt0) hc hD (by omega) h3 (k.know hk) fun ι' a' w' k' => K ι' a' w' (k'.know (Kn.none_ok _ _))
  have hi' : d.n = 1 ∨ d.n = 2 ∨ d.n = 3 ∨ d.n = 4 ∨ d.n = 5 ∨ d.n = 6 ∨ d.n = 7 ∨ d.n = 8 ∨ d.n = 9 ∨ d.n = 10 := by omega
  rcases hi' with hm | hm | hm | hm | hm | hm | hm | hm | hm | hm
  · exact go 1 _ hm al2_1
  · exact go 2 _ hm al2_2
  · exact go 3 _ hm al2_3
  · exact go 4 _ hm al2_4
  · exact go 5 _ hm al2_5
  · exact go 6 _ hm al2_6
  · exact go 7 _ hm al2_7
  · exact go 8 _ hm al2_8
  · exact go 9 _ hm al2_9
  · exact go 10 _ hm al2_10
end
theorem Wl_rel {ι : Inj} {d : Nums} (hd : NumsOk d) (he : ι.env = envOf d) {A : Option Addr} {c : Nat} : SR ι (Wl2 d.n) (.slice A d.lw c) := by
  refine ⟨?_, A, c, d.lw, rfl, ?_⟩
  · rw [he]
    exact ukc_ok (by show 0 ≤ (d.lw : Int) / 10 ∧ (d.lw : Int) / 10 ≤ (9223372036854775808 - (d.n : Int)) / 10; have := hd.lw; unfold Nums.n; omega)
  · rw [he, ukc_eval]
    show (d.lw : Int) = 10 * ((d.lw : Int) / 10) + ((d.n : Int) - 1)
    unfold Nums.n
    omega
theorem calls (w : World) (v : Value) (l0 l1 : List Int) (g wd : Int) (h : IsRow w v l0 l1 g wd) (hs : ∀ A0 n0 c0 ad n1 c1 x y, v = .agg #[.slice A0 n0 c0, .slice (some ad) n1 c1, x, y] → ad.spot = none) : Calls Try.prog 5 #[v] w fun e w' => e = .returned (.bool true) ∧ Below w.heap.size w w' := by
  obtain ⟨A0, c0, A1, c1, rfl, _, hr⟩ := h.ex
  obtain ⟨ww, q1, q2, q3⟩ := within_of orders names (by omega) within100000 wd h.wd
  have hW : ∀ x : Int, ∃ m : Int, (-9223372036854775808 ≤ x ∧ x ≤ 9223372036854775807) → (0 ≤ m ∧ m < 5000) ∧ IsWithin Try.prog 18 x 5000 m := fun x => by
    by_cases hx : -9223372036854775808 ≤ x ∧ x ≤ 9223372036854775807
    · obtain ⟨m, h1, h2, h3⟩ := within_of orders names (by omega) within5000 x hx
      exact ⟨m, fun _ => ⟨⟨h1, by omega⟩, h3⟩⟩
    · exact ⟨0, fun h => absurd h hx⟩
  have hd : NumsOk ⟨l0.length, g, wd, l1, ww, fun x => Classical.choose (hW x)⟩ := ⟨h.n0, h.g, h.wd, h.n1, h.i1, ⟨⟨q1, by omega⟩, q3⟩, fun y hy => Classical.choose_spec (hW y) hy⟩
  generalize hdd : (⟨l0.length, g, wd, l1, ww, fun x => Classical.choose (hW x)⟩ : Nums) = d at hd
  have hl : l1 = d.l := by rw [← hdd]
  have hg : g = d.g := by rw [← hdd]
  have hwd : wd = d.wd := by rw [← hdd]
  have hlw : l0.length = d.lw := by rw [← hdd]
  subst hl hg hwd
  rw [hlw]
  have hf : Try.prog.funcs[5]? = some (fnAt Try.prog 5) := by kernel_rfl
  have hb' : (fnAt Try.prog 5).body = some C := by kernel_rfl
  have hnt : (fnAt Try.prog 5).ntmps = 146 := by kernel_rfl
  rcases Nat.eq_zero_or_pos d.l.length with h0 | h0
  · have ha : All2 (VR (Inj.rows (envOf d) ([] : List (List S)).length (fun _ => 0) fun _ => 0)) [V.agg [Wl2 d.n, .lsl E, raw 0, raw 2]] [Value.agg #[.slice A0 d.lw c0, .slice A1 d.l.length c1, .int .i64 d.g, .int .i64 d.wd]] :=
      .cons ⟨_, rfl, .cons (Wl_rel hd rfl) (.cons ⟨(kE hd).1, A1, c1, d.l.length, rfl, (kE hd).2.symm⟩ (.cons (raw_rel hd.g rfl) (.cons (raw_rel hd.wd rfl) .nil)))⟩ .nil
    refine calls_pieces2 hf hb' (Kn.none_ok Try.prog (envOf d)) w (fun b xs hx => by simp at hx) ha (by rw [hnt]; simp) (e := .ret) (q := ptQ) (.inr rfl) (by kernel_rfl) (rt := rt0) ⟨Nat.le_refl _, rfl, rfl⟩ ?_
    rw [hnt]
    intro ι a w' Q k K
    rw [code]
    exact beginL hd k fun ι' a' w2 k' => tailL hd k' K h0
  · obtain ⟨_, hn, hA⟩ := hr
    obtain ⟨ad, rfl, hc1⟩ := hA h0
    have hspot := hs _ _ _ _ _ _ _ _ (by rw [hlw])
    have cell : ∀ i, i < d.l.length → w.cell? ⟨ad.block, ad.off + i, none⟩ = some (.int .i64 (d.l.getD i 0)) := fun i hi => by
      obtain ⟨c, _, hk, hcell⟩ := hc1 i _ (getD_mem hi).2
      have hk : c = [.int .i64 (d.l.getD i 0)] := hk
      subst hk
      have q0 := hcell 0 _ rfl
      have es : kint.sz = 1 := rfl
      rw [es] at q0
      have ea : ad.add (i * 1 + 0) = ⟨ad.block, ad.off + i, none⟩ := by
        unfold Addr.add
        split
        · rename_i h; have : i = 0 := by omega
          subst this; obtain ⟨b, o, s⟩ := ad; simp only at hspot; subst hspot; rfl
        · rw [show i * 1 + 0 = i by omega]
      rw [ea] at q0; exact q0
    have hblk : ad.block < w.heap.size := by
      have := cell 0 h0
      unfold World.cell? at this
      cases hh : w.heap[ad.block]? with
      | none => simp [hh] at this
      | some o => exact (Array.getElem?_eq_some_iff.1 hh).1
    have ha : All2 (VR (Inj.rows (envOf d) ([[]] : List (List S)).length (fun _ => ad.block) fun _ => ad.off)) [V.agg [Wl2 d.n, .slx 0 0 0 E, raw 0, raw 2]] [Value.agg #[.slice A0 d.lw c0, .slice (some ad) d.l.length c1, .int .i64 d.g, .int .i64 d.wd]] :=
      .cons ⟨_, rfl, .cons (Wl_rel hd rfl) (.cons ⟨Nat.zero_lt_one, (kE hd).1, ad, c1, d.l.length, rfl, rfl, hspot, rfl, (kE hd).2.symm, Nat.zero_le _⟩ (.cons (raw_rel hd.g rfl) (.cons (raw_rel hd.wd rfl) .nil)))⟩ .nil
    have hrow : RowsOk (Inj.rows (envOf d) ([[]] : List (List S)).length (fun _ => ad.block) fun _ => ad.off) w [[]] := by
      intro b xs hb
      cases b with
      | succ b => simp at hb
      | zero => simp at hb; subst hb; exact ⟨hblk, fun j x h => by simp at h⟩
    refine calls_pieces2 hf hb' (Kn.none_ok Try.prog (envOf d)) w hrow ha (by rw [hnt]; simp) (e := .ret) (q := ptQ) (.inr rfl) (by kernel_rfl) (rt := ⟨1, fun _ => ad.block, fun _ => ad.off⟩) ⟨Nat.le_refl _, rfl, rfl⟩ ?_
    rw [hnt]
    intro ι a w' Q k K
    rw [code]
    exact beginB hd rfl k fun ι' a' w2 k' => tailB hd rfl hblk cell k' fun ι3 a3 w3 k3 => K ι3 a3 w3 (k3.unroot rfl)
end Go.Proofs.Ythacbaagffpkoaa.Shares
