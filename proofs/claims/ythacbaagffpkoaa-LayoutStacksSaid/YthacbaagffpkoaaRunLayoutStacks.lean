/-
LayoutStacks answers true.
-/
import Derived.Test.YthacbaagffpkoaaStacks0
import Derived.Test.YthacbaagffpkoaaStacks1
import Derived.Test.YthacbaagffpkoaaStacks2
import Derived.Test.YthacbaagffpkoaaStacks3
import Derived.Test.YthacbaagffpkoaaStacks4
import Derived.Test.YthacbaagffpkoaaStacks5
import Derived.Test.YthacbaagffpkoaaStacks6
import Derived.Test.YthacbaagffpkoaaStacks7
import Derived.Test.YthacbaagffpkoaaStacks8
import Derived.Test.YthacbaagffpkoaaStacks9
set_option linter.unusedVariables false
set_option linter.unusedSimpArgs false
namespace Go.Proofs.Ythacbaagffpkoaa.Stacks
open Go.RowKit Go.Ai Go.Proofs.Ythacbaagffpkoaa.RowTwo Go.Proofs.YthacbaagffpkoaaW.PrintWords
/-- The numbers: gap, width, heights; what each is within its bound. -/
structure Nums where
  g : Int
  wd : Int
  l : List Int
  wg : Int
  ww : Int
  f : Int → Int
def envOf (d : Nums) : Nat → Int := fun v => if v = 100 then d.l.length else if v = 0 then d.g else if v = 1 then d.wg else if v = 2 then d.wd else if v = 3 then d.ww else if v % 2 = 0 then d.l.getD ((v - 10) / 2) 0 else d.f (d.l.getD ((v - 11) / 2) 0)
structure NumsOk (d : Nums) : Prop where
  g : -9223372036854775808 ≤ d.g ∧ d.g ≤ 9223372036854775807
  wd : -9223372036854775808 ≤ d.wd ∧ d.wd ≤ 9223372036854775807
  n : d.l.length ≤ 9223372036854775807
  l : ∀ y ∈ d.l, -9223372036854775808 ≤ y ∧ y ≤ 9223372036854775807
  wg : (0 ≤ d.wg ∧ d.wg < 500) ∧ IsWithin Try.prog 18 d.g 500 d.wg
  ww : (0 ≤ d.ww ∧ d.ww < 100000) ∧ IsWithin Try.prog 18 d.wd 100000 d.ww
  f : ∀ y, -9223372036854775808 ≤ y ∧ y ≤ 9223372036854775807 → (0 ≤ d.f y ∧ d.f y < 5000) ∧ IsWithin Try.prog 18 y 5000 (d.f y)
section
variable {d : Nums}
theorem envH {i : Nat} (hi : i < 21) : envOf d (10 + 2 * i) = d.l.getD i 0 := by
  unfold envOf
  rw [if_neg (by omega), if_neg (by omega), if_neg (by omega), if_neg (by omega), if_neg (by omega), if_pos (by omega), show (10 + 2 * i - 10) / 2 = i by omega]
theorem envF {i : Nat} (hi : i < 21) : envOf d (11 + 2 * i) = d.f (d.l.getD i 0) := by
  unfold envOf
  rw [if_neg (by omega), if_neg (by omega), if_neg (by omega), if_neg (by omega), if_neg (by omega), if_neg (by omega), show (11 + 2 * i - 11) / 2 = i by omega]
theorem tabH_mem : ∀ {m v n : Nat} {e : Lin}, (v, n, e) ∈ tabH m → ∃ i, i < m ∧ v = 10 + 2 * i ∧ n = 5000 ∧ e = uk (11 + 2 * i) 0 4999
  | 0, _, _, _, h => by cases h
  | m + 1, v, n, e, h => by
    unfold tabH at h
    rcases List.mem_append.1 h with h | h
    · obtain ⟨i, h1, h2⟩ := tabH_mem h; exact ⟨i, by omega, h2⟩
    · simp only [List.mem_cons, List.not_mem_nil, or_false, Prod.mk.injEq] at h
      exact ⟨m, by omega, h.1, h.2.1, h.2.2⟩
theorem getD_mem {l : List Int} {i : Nat} (hi : i < l.length) : l.getD i 0 ∈ l ∧ l[i]? = some (l.getD i 0) := by
  have e : l[i]? = some (l.getD i 0) := by rw [List.getD_eq_getElem?_getD, List.getElem?_eq_getElem hi]; rfl
  exact ⟨List.mem_of_getElem? e, e⟩
theorem kn_ok (hd : NumsOk d) {m : Nat} (hm : m ≤ 21) (hl : m ≤ d.l.length) : KnOk Try.prog (envOf d) (kn m) := by
  refine within_ok body (fun v n e he => ?_) (fun _ h => by cases h) (fun _ h => by cases h)
  rcases List.mem_cons.1 he with he | he
  · cases he
    have e : (uk 1 0 499).eval (envOf d) = d.wg := by rw [uk_eval]; rfl
    rw [e, show envOf d 0 = d.g from rfl, wrap_id hd.g.1 (by have := hd.g; omega)]
    exact ⟨uk_ok (by show 0 ≤ d.wg ∧ d.wg ≤ 499; have := hd.wg.1; omega), by have := hd.wg.1; omega, hd.wg.2⟩
  · rcases List.mem_cons.1 he with he | he
    · cases he
      have e : (uk 3 0 99999).eval (envOf d) = d.ww := by rw [uk_eval]; rfl
      rw [e, show envOf d 2 = d.wd from rfl, wrap_id hd.wd.1 (by have := hd.wd; omega)]
      exact ⟨uk_ok (by show 0 ≤ d.ww ∧ d.ww ≤ 99999; have := hd.ww.1; omega), by have := hd.ww.1; omega, hd.ww.2⟩
    · obtain ⟨i, hi, rfl, rfl, rfl⟩ := tabH_mem he
      have hr := hd.l _ (getD_mem (l := d.l) (i := i) (by omega)).1
      have hf := hd.f _ hr
      have e : (uk (11 + 2 * i) 0 4999).eval (envOf d) = d.f (d.l.getD i 0) := by rw [uk_eval, envF (by omega)]
      rw [e, envH (by omega), wrap_id hr.1 (by omega)]
      exact ⟨uk_ok (by rw [envF (by omega)]; omega), by omega, hf.2⟩
end
theorem calls (w : World) (v : Value) (l0 l1 : List Int) (g wd : Int) (h : IsRow w v l0 l1 g wd) (hs : ∀ A0 n0 c0 ad n1 c1 x y, v = .agg #[.slice A0 n0 c0, .slice (some ad) n1 c1, x, y] → ad.spot = none) : Calls Try.prog 4 #[v] w fun e w' => e = .returned (.bool true) ∧ Below w.heap.size w w' := by
  obtain ⟨A0, c0, A1, c1, rfl, _, hr⟩ := h.ex
  obtain ⟨wg, g1, g2, g3⟩ := within_of orders names (by omega) within500 g h.g
  obtain ⟨ww, q1, q2, q3⟩ := within_of orders names (by omega) within100000 wd h.wd
  have hW : ∀ x : Int, ∃ m : Int, (-9223372036854775808 ≤ x ∧ x ≤ 9223372036854775807) → (0 ≤ m ∧ m < 5000) ∧ IsWithin Try.prog 18 x 5000 m := fun x => by
    by_cases hx : -9223372036854775808 ≤ x ∧ x ≤ 9223372036854775807
    · obtain ⟨m, h1, h2, h3⟩ := within_of orders names (by omega) within5000 x hx
      exact ⟨m, fun _ => ⟨⟨h1, by omega⟩, h3⟩⟩
    · exact ⟨0, fun h => absurd h hx⟩
  have hd : NumsOk ⟨g, wd, l1, wg, ww, fun x => Classical.choose (hW x)⟩ := ⟨h.g, h.wd, h.n1, h.i1, ⟨⟨g1, by omega⟩, g3⟩, ⟨⟨q1, by omega⟩, q3⟩, fun y hy => Classical.choose_spec (hW y) hy⟩
  generalize hdd : (⟨g, wd, l1, wg, ww, fun x => Classical.choose (hW x)⟩ : Nums) = d at hd
  have hl : l1 = d.l := by rw [← hdd]
  have hg : g = d.g := by rw [← hdd]
  have hwd : wd = d.wd := by rw [← hdd]
  subst hl hg hwd
  rcases Nat.eq_zero_or_pos d.l.length with h0 | h0
  · have ha : All2 (VR (Inj.none (envOf d))) [V.agg [.anysl, .lsl (Lin.num 0), raw 0, raw 2]] [Value.agg #[.slice A0 l0.length c0, .slice A1 d.l.length c1, .int .i64 d.g, .int .i64 d.wd]] :=
      .cons ⟨_, rfl, .cons anysl_rel (.cons ⟨Lin.ok_num _, A1, c1, d.l.length, rfl, by rw [Lin.eval_num, h0]; rfl⟩ (.cons (raw_rel hd.g rfl) (.cons (raw_rel hd.wd rfl) .nil)))⟩ .nil
    have hx := run_0
    unfold go0 at hx
    rw [runK_eq] at hx
    exact run_true' orders names 300 (kn_ok hd (by omega) (Nat.zero_le _)) ha hx w
  · obtain ⟨_, hn, hA⟩ := hr
    obtain ⟨ad, rfl, hc⟩ := hA h0
    have hspot := hs _ _ _ _ _ _ _ _ rfl
    have cell : ∀ i, i < d.l.length → w.cell? ⟨ad.block, ad.off + i, none⟩ = some (.int .i64 (d.l.getD i 0)) := fun i hi => by
      obtain ⟨c, _, hk, hcell⟩ := hc i _ (getD_mem hi).2
      have hk : c = [.int .i64 (d.l.getD i 0)] := hk
      subst hk
      have q0 := hcell 0 _ rfl
      have es : kint.sz = 1 := rfl
      rw [es] at q0
      have ea : ad.add (i * 1 + 0) = ⟨ad.block, ad.off + i, none⟩ := by
        unfold Addr.add
        split
        · rename_i h; have : i = 0 := by omega
          subst this; obtain ⟨b, o, s⟩ := ad; simp only at hspot; subst hspot; rfl
        · rw [show i * 1 + 0 = i by omega]
      rw [ea] at q0; exact q0
    have hblk : ad.block < w.heap.size := by
      have := cell 0 h0
      unfold World.cell? at this
      cases hh : w.heap[ad.block]? with
      | none => simp [hh] at this
      | some o => exact (Array.getElem?_eq_some_iff.1 hh).1
    have fin : ∀ (m : Nat) (e : Lin), m ≤ 21 → m ≤ d.l.length → e.ok (envOf d) → e.eval (envOf d) = d.l.length → go m e = true → Calls Try.prog 4 #[.agg #[.slice A0 l0.length c0, .slice (some ad) d.l.length c1, .int .i64 d.g, .int .i64 d.wd]] w fun e w' => e = .returned (.bool true) ∧ Below w.heap.size w w' := by
      intro m e hm hml he1 he2 hx
      unfold go at hx
      rw [runK_eq] at hx
      have hrow : RowsOk (Inj.rows (envOf d) ([rowOf m] : List (List S)).length (fun _ => ad.block) fun _ => ad.off) w [rowOf m] := by
        intro b xs hb
        cases b with
        | succ b => simp at hb
        | zero =>
          simp at hb; subst hb
          refine ⟨hblk, fun j x hj => ?_⟩
          have hjl : j < m := by have := (List.getElem?_eq_some_iff.1 hj).1; simpa [rowOf] using this
          have : x = raw (10 + 2 * j) := by simp [rowOf, hjl] at hj; exact hj.symm
          subst this
          exact ⟨_, cell j (by omega), raw_rel (hd.l _ (getD_mem (by omega)).1) (envH (by omega))⟩
      have ha : All2 (VR (Inj.rows (envOf d) ([rowOf m] : List (List S)).length (fun _ => ad.block) fun _ => ad.off)) [V.agg [.anysl, slice m e, raw 0, raw 2]] [Value.agg #[.slice A0 l0.length c0, .slice (some ad) d.l.length c1, .int .i64 d.g, .int .i64 d.wd]] :=
        .cons ⟨_, rfl, .cons anysl_rel (.cons ⟨Nat.zero_lt_one, he1, ad, c1, d.l.length, rfl, rfl, hspot, rfl, he2.symm, hml⟩ (.cons (raw_rel hd.g rfl) (.cons (raw_rel hd.wd rfl) .nil)))⟩ .nil
      exact run_rows orders names 300 (kn_ok hd hm hml) w hrow ha hx
    have hcs : d.l.length = 1 ∨ d.l.length = 2 ∨ d.l.length = 3 ∨ d.l.length = 4 ∨ d.l.length = 5 ∨ d.l.length = 6 ∨ d.l.length = 7 ∨ d.l.length = 8 ∨ d.l.length = 9 ∨ d.l.length = 10 ∨ d.l.length = 11 ∨ d.l.length = 12 ∨ d.l.length = 13 ∨ d.l.length = 14 ∨ d.l.length = 15 ∨ d.l.length = 16 ∨ d.l.length = 17 ∨ d.l.length = 18 ∨ d.l.length = 19 ∨ d.l.length = 20 ∨ 21 ≤ d.l.length := by omega
    have num : ∀ m : Nat, d.l.length = m → (Lin.num (m : Int)).eval (envOf d) = d.l.length := fun m h => by rw [Lin.eval_num, h]
    rcases hcs with hm | hm | hm | hm | hm | hm | hm | hm | hm | hm | hm | hm | hm | hm | hm | hm | hm | hm | hm | hm | hm
    · exact fin 1 _ (by omega) (by omega) (Lin.ok_num _) (num 1 hm) run_1
    · exact fin 2 _ (by omega) (by omega) (Lin.ok_num _) (num 2 hm) run_2
    · exact fin 3 _ (by omega) (by omega) (Lin.ok_num _) (num 3 hm) run_3
    · exact fin 4 _ (by omega) (by omega) (Lin.ok_num _) (num 4 hm) run_4
    · exact fin 5 _ (by omega) (by omega) (Lin.ok_num _) (num 5 hm) run_5
    · exact fin 6 _ (by omega) (by omega) (Lin.ok_num _) (num 6 hm) run_6
    · exact fin 7 _ (by omega) (by omega) (Lin.ok_num _) (num 7 hm) run_7
    · exact fin 8 _ (by omega) (by omega) (Lin.ok_num _) (num 8 hm) run_8
    · exact fin 9 _ (by omega) (by omega) (Lin.ok_num _) (num 9 hm) run_9
    · exact fin 10 _ (by omega) (by omega) (Lin.ok_num _) (num 10 hm) run_10
    · exact fin 11 _ (by omega) (by omega) (Lin.ok_num _) (num 11 hm) run_11
    · exact fin 12 _ (by omega) (by omega) (Lin.ok_num _) (num 12 hm) run_12
    · exact fin 13 _ (by omega) (by omega) (Lin.ok_num _) (num 13 hm) run_13
    · exact fin 14 _ (by omega) (by omega) (Lin.ok_num _) (num 14 hm) run_14
    · exact fin 15 _ (by omega) (by omega) (Lin.ok_num _) (num 15 hm) run_15
    · exact fin 16 _ (by omega) (by omega) (Lin.ok_num _) (num 16 hm) run_16
    · exact fin 17 _ (by omega) (by omega) (Lin.ok_num _) (num 17 hm) run_17
    · exact fin 18 _ (by omega) (by omega) (Lin.ok_num _) (num 18 hm) run_18
    · exact fin 19 _ (by omega) (by omega) (Lin.ok_num _) (num 19 hm) run_19
    · exact fin 20 _ (by omega) (by omega) (Lin.ok_num _) (num 20 hm) run_20
    · exact fin 21 _ (by omega) hm (uk_ok (by show 21 ≤ (d.l.length : Int) ∧ (d.l.length : Int) ≤ 9223372036854775807; have := hd.n; omega)) (by rw [uk_eval]; rfl) run_21
end Go.Proofs.Ythacbaagffpkoaa.Stacks
