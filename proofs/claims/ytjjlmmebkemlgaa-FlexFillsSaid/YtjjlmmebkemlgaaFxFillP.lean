/-
FlexFills, the plain law: parts of what is free are all that is free.
-/
import Derived.Test.YtjjlmmebkemlgaaFxOnce
set_option linter.unusedVariables false
set_option linter.unusedSimpArgs false
namespace Go.Ai
open Go.Proofs
/-- Items as the law makes them. -/
structure FillL (L : List Itm) : Prop where
  it : ∀ y ∈ L, ∃ m g : Int, (0 ≤ m ∧ m < 100) ∧ (0 ≤ g ∧ g < 9) ∧ y = ⟨64 * (1 + m), 0, -1, 1 + g, 1⟩
  len : L.length ≤ 64
  ne : L ≠ []
def bases (L : List Itm) : Int := Lf.sumI (L.map Itm.base)
theorem sat_small {a : Int} (h0 : 0 ≤ a) (h1 : a ≤ 1099511627776) : satI a = a := by unfold satI; omega
theorem FillL.plains {L : List Itm} (k : FillL L) : plains L = L.map Itm.base := by
  unfold Go.Ai.plains
  refine List.map_congr_left fun y hy => ?_
  obtain ⟨m, g, hm, hg, rfl⟩ := k.it y hy
  unfold Itm.plain clampI
  simp only [if_true]
  omega
theorem bases_bd : ∀ (L : List Itm), (∀ y ∈ L, ∃ m g : Int, (0 ≤ m ∧ m < 100) ∧ (0 ≤ g ∧ g < 9) ∧ y = ⟨64 * (1 + m), 0, -1, 1 + g, 1⟩) → 64 * (L.length : Int) ≤ bases L ∧ bases L ≤ 6400 * (L.length : Int)
  | [], _ => by simp [bases, Lf.sumI]
  | y :: L, h => by
    have ih := bases_bd L fun z hz => h z (by simp [hz])
    obtain ⟨m, g, hm, hg, rfl⟩ := h y (by simp)
    unfold bases at *
    simp only [List.map_cons, Lf.sumI, List.length_cons]
    omega
theorem taken_false : ∀ (L : List Itm) (ss : List Int), ss.length = L.length → taken L ss (List.replicate L.length false) = bases L
  | [], ss, _ => by simp [taken, bases, Lf.sumI]
  | y :: L, [], h => by simp at h
  | y :: L, s :: ss, h => by
    have ih := taken_false L ss (by simpa using h)
    show (if false = true then s else y.base) + taken L ss (List.replicate L.length false) = y.base + bases L
    rw [ih]; rfl
theorem fold_small {gap : Int} (hg : 0 ≤ gap ∧ gap < 10) : ∀ (l : List Int) (a : Int), (∀ x ∈ l, 0 ≤ x ∧ x ≤ 6400) → 0 ≤ a → a + 6410 * (l.length : Int) ≤ 1099511627776 → (l.foldl (lineF gap) (true, a)).2 = a + Lf.sumI l + gap * (l.length : Int)
  | [], a, _, _, _ => by simp [Lf.sumI]
  | x :: l, a, h, h0, h1 => by
    have hx := h x (by simp)
    simp only [List.length_cons] at h1
    have hlen : (0 : Int) ≤ (l.length : Int) := by omega
    have e : lineF gap (true, a) x = (true, a + gap + x) := by
      unfold lineF
      simp only [if_true]
      rw [sat_small (a := a + gap) (by omega) (by omega), sat_small (by omega) (by omega)]
    rw [List.foldl_cons, e, fold_small hg l _ (fun y hy => h y (by simp [hy])) (by omega) (by omega)]
    simp only [Lf.sumI, List.length_cons]
    have : gap * ((l.length + 1 : Nat) : Int) = gap * (l.length : Int) + gap := by
      rw [Int.natCast_add, Int.mul_add]; simp
    omega
theorem sum_small {gap : Int} (hg : 0 ≤ gap ∧ gap < 10) {l : List Int} (h : ∀ x ∈ l, 0 ≤ x ∧ x ≤ 6400) (hl : l.length ≤ 64) (hne : l ≠ []) : sumI l gap = Lf.sumI l + gap * ((l.length : Int) - 1) := by
  cases l with
  | nil => exact absurd rfl hne
  | cons x l =>
    have hx := h x (by simp)
    simp only [List.length_cons] at hl
    have e : lineF gap (false, 0) x = (true, x) := by
      unfold lineF
      simp only [Bool.false_eq_true, if_false]
      rw [sat_small (by omega) (by omega), Int.zero_add]
    unfold sumI
    rw [List.foldl_cons, e, fold_small hg l x (fun y hy => h y (by simp [hy])) (by omega) (by omega)]
    simp only [Lf.sumI, List.length_cons]
    rw [show ((l.length + 1 : Nat) : Int) - 1 = (l.length : Int) by omega]
theorem FillL.at {L : List Itm} (k : FillL L) {y : Itm} (hy : y ∈ L) : ∃ m g : Int, (0 ≤ m ∧ m < 100) ∧ (0 ≤ g ∧ g < 9) ∧ y = ⟨64 * (1 + m), 0, -1, 1 + g, 1⟩ := k.it y hy
theorem FillL.sum {L : List Itm} (k : FillL L) {gap : Int} (hg : 0 ≤ gap ∧ gap < 10) : sumI (Go.Ai.plains L) gap = bases L + gap * ((L.length : Int) - 1) := by
  rw [k.plains, sum_small hg (fun x hx => ?_) (by simpa using k.len) (by simpa using k.ne), List.length_map]
  · rfl
  · obtain ⟨y, hy, rfl⟩ := List.mem_map.1 hx
    obtain ⟨m, g, hm, _, rfl⟩ := k.it y hy
    show 0 ≤ 64 * (1 + m) ∧ 64 * (1 + m) ≤ 6400
    omega
theorem FillL.weight {L : List Itm} (k : FillL L) {y : Itm} (hy : y ∈ L) (G : Bool) : 0 < y.weight G ∧ y.weight G ≤ 100 ∧ (G = false → y.base = 64 * y.weight G) := by
  obtain ⟨m, g, hm, hg, rfl⟩ := k.it y hy
  unfold Itm.weight
  cases G
  · simp only [Bool.false_eq_true, if_false, Int.one_mul]
    have : (64 * (1 + m) + 63) / 64 = 1 + m := by omega
    rw [this]
    omega
  · simp only [if_true]
    exact ⟨by omega, by omega, fun h => (by cases h)⟩
theorem FillL.open_ {L : List Itm} (k : FillL L) (G : Bool) : L.map (Itm.fixed0 G) = List.replicate L.length false := by
  refine List.ext_getElem? fun i => ?_
  rw [List.getElem?_map, List.getElem?_replicate]
  by_cases hi : i < L.length
  · rw [List.getElem?_eq_getElem hi, if_pos hi]
    have hy := List.getElem_mem hi
    have hw := k.weight hy G
    obtain ⟨m, g, hm, hg, e⟩ := k.it _ hy
    have hp : (L[i]).plain = (L[i]).base := by
      rw [e]; unfold Itm.plain clampI; simp only [if_true]; omega
    unfold Itm.fixed0
    simp only [Option.map_some]
    rw [hp]
    simp only [Int.lt_irrefl, decide_false, Bool.and_false, Bool.or_false]
    rw [decide_eq_false (by omega)]
  · rw [List.getElem?_eq_none (by omega), if_neg hi]; rfl
theorem sumI_zip {f : Nat → Int → Int} (s : Int) : ∀ (bs xs : List Int) (k : Nat), bs.length = xs.length → (∀ i b x, bs[i]? = some b → xs[i]? = some x → f (k + i) x = b + s * x) → Lf.sumI (List.zipWith f ((List.range bs.length).map (k + ·)) xs) = Lf.sumI bs + s * Lf.sumI xs
  | [], [], k, _, _ => by simp [Lf.sumI]
  | b :: bs, x :: xs, k, hl, h => by
    have ih := sumI_zip (f := f) s bs xs (k + 1) (by simpa using hl) fun i b x hb hx => by
      have := h (i + 1) b x (by simpa using hb) (by simpa using hx)
      rw [show k + 1 + i = k + (i + 1) by omega]; exact this
    have h0 := h 0 b x rfl rfl
    rw [List.length_cons, List.range_succ_eq_map, List.map_cons, List.map_map, List.zipWith_cons_cons]
    have e : (List.range bs.length).map ((fun x => k + x) ∘ Nat.succ) = (List.range bs.length).map (k + 1 + ·) := List.map_congr_left fun i _ => by simp only [Function.comp]; omega
    rw [e]
    simp only [Lf.sumI]
    rw [ih, h0, Int.mul_add]
    omega
/-- More room: each has its base and its part. -/
theorem fill_grow {L : List Itm} (k : FillL L) {gap r : Int} (hg : 0 ≤ gap ∧ gap < 10) (hr : 0 ≤ r ∧ r < 100000) : ∃ X, solveI prtI L gap (bases L + gap * ((L.length : Int) - 1) + 1 + r) = X ∧ X.length = L.length ∧ Lf.sumI X = bases L + 1 + r ∧ ∀ (i : Nat) (y : Itm) (x : Int), L[i]? = some y → X[i]? = some x → y.base ≤ x ∧ x ≤ 1099511627776 := by
  have hlen := k.len
  have hpos : 0 < L.length := List.length_pos_iff.2 k.ne
  have hbd := bases_bd L k.it
  have hG : grows0 L gap (bases L + gap * ((L.length : Int) - 1) + 1 + r) = true := by
    unfold grows0; rw [k.sum hg]; exact decide_eq_true (by omega)
  have hfree : freeN L gap (bases L + gap * ((L.length : Int) - 1) + 1 + r) true (plains L) (List.replicate L.length false) = 1 + r := by
    unfold freeN
    rw [if_pos rfl, taken_false L _ (by simp [plains]), show max 0 ((L.length : Int) - 1) = (L.length : Int) - 1 by omega]
    omega
  have hw : ∀ x ∈ wtsI L true (List.range L.length), 0 < x ∧ x ≤ 1048576 := fun x hx => by
    obtain ⟨i, hi, rfl⟩ := List.mem_map.1 hx
    have hi : i < L.length := List.mem_range.1 hi
    have hy : L.getD i default ∈ L := by rw [List.getD_eq_getElem?_getD, List.getElem?_eq_getElem hi]; exact List.getElem_mem hi
    have := k.weight hy true
    omega
  have hwl : (wtsI L true (List.range L.length)).length = L.length := by simp [wtsI]
  have hm : Lf.May (1 + r) (wtsI L true (List.range L.length)) := may_of (by omega) (by omega) (List.ne_nil_of_length_pos (by omega)) (by omega) hw
  have hps := prtI_sum hm
  have hpl := prtI_len (1 + r) (wtsI L true (List.range L.length))
  have hpn : ∀ p ∈ prtI (1 + r) (wtsI L true (List.range L.length)), 0 ≤ p ∧ p ≤ 1 + r := fun p hp => ⟨prtI_nn p hp, by
    have := (le_sumI _ fun x hx => prtI_nn x hx).2 p hp; omega⟩
  have hS : sharedI prtI L gap (bases L + gap * ((L.length : Int) - 1) + 1 + r) true (plains L) (List.replicate L.length false) (List.range L.length) = List.zipWith (newI L true) (List.range L.length) (prtI (1 + r) (wtsI L true (List.range L.length))) := by
    unfold sharedI
    rw [hfree, show min (1 + r) 1099511627776 = 1 + r by omega]
  generalize prtI (1 + r) (wtsI L true (List.range L.length)) = ps at *
  have hnew : ∀ (i : Nat) (y : Itm) (p : Int), L[i]? = some y → ps[i]? = some p → newI L true i p = y.base + p := fun i y p hy hp => by
    have hpp := hpn p (List.mem_of_getElem? hp)
    have hD : L.getD i default = y := by rw [List.getD_eq_getElem?_getD, hy]; rfl
    obtain ⟨m, g, hm, _, e⟩ := k.it y (List.mem_of_getElem? hy)
    unfold newI
    rw [if_pos rfl, hD]
    have : y.base = 64 * (1 + m) := by rw [e]
    omega
  have hXi : ∀ i, (List.zipWith (newI L true) (List.range L.length) ps)[i]? = (ps[i]?).map (newI L true i) := fun i => by
    rw [show L.length = ps.length by omega]; exact zipWith_range
  have hX : ∀ (i : Nat) (y : Itm) (x : Int), L[i]? = some y → (List.zipWith (newI L true) (List.range L.length) ps)[i]? = some x → y.base ≤ x ∧ x ≤ 1099511627776 := fun i y x hy hx => by
    rw [hXi] at hx
    cases hp : ps[i]? with
    | none => rw [hp] at hx; cases hx
    | some p =>
      rw [hp] at hx
      cases hx
      have hpp := hpn p (List.mem_of_getElem? hp)
      rw [hnew i y p hy hp]
      obtain ⟨m, g, hm, _, e⟩ := k.it y (List.mem_of_getElem? hy)
      have : y.base = 64 * (1 + m) := by rw [e]
      omega
  refine ⟨_, once (by rw [hG]; exact k.open_ true) (by rw [hG]; exact hS) (by simp; omega) k.ne fun i x hx => ?_, by simp; omega, ?_, hX⟩
  · have hi : i < L.length := by have := (List.getElem?_eq_some_iff.1 hx).1; simp at this; omega
    have hy := List.getElem?_eq_getElem hi
    have hb := hX i _ x hy hx
    obtain ⟨m, g, hm, _, e⟩ := k.it _ (List.getElem_mem hi)
    have hD : L.getD i default = L[i] := by rw [List.getD_eq_getElem?_getD, hy]; rfl
    have h0 : (L[i]).base = 64 * (1 + m) := by rw [e]
    unfold clampAt
    rw [hD, show (L[i]).mn = 0 by rw [e], show (L[i]).mx = -1 by rw [e]]
    unfold clampI
    rw [if_pos rfl]
    omega
  · have hz := sumI_zip (f := newI L true) 1 (L.map Itm.base) ps 0 (by simp; omega) fun i b x hb hx => by
      rw [List.getElem?_map] at hb
      cases hy : L[i]? with
      | none => rw [hy] at hb; cases hb
      | some y => rw [hy] at hb; cases hb; rw [Nat.zero_add, hnew i y x hy hx, Int.one_mul]
    rw [List.length_map] at hz
    have e0 : (List.range L.length).map (0 + ·) = List.range L.length := by simp
    rw [e0] at hz
    rw [hz]
    show bases L + 1 * Lf.sumI ps = _
    omega
theorem sum_scale : ∀ (L : List Itm) (f : Itm → Int), (∀ y ∈ L, y.base = 64 * f y) → bases L = 64 * Lf.sumI (L.map f)
  | [], f, _ => by simp [bases, Lf.sumI]
  | y :: L, f, h => by
    have ih := sum_scale L f fun z hz => h z (by simp [hz])
    have h0 := h y (by simp)
    unfold bases at *
    simp only [List.map_cons, Lf.sumI]
    omega
theorem wts_map (L : List Itm) (G : Bool) : wtsI L G (List.range L.length) = L.map (Itm.weight · G) := by
  refine List.ext_getElem? fun i => ?_
  unfold wtsI
  rw [List.getElem?_map, List.getElem?_map]
  by_cases hi : i < L.length
  · rw [List.getElem?_range hi, List.getElem?_eq_getElem hi]
    simp only [Option.map_some]
    rw [List.getD_eq_getElem?_getD, List.getElem?_eq_getElem hi]; rfl
  · rw [List.getElem?_eq_none (by simp; omega), List.getElem?_eq_none (by omega)]; rfl
/-- Less room: each gives its part. -/
theorem fill_shrink {L : List Itm} (k : FillL L) {gap r : Int} (hg : 0 ≤ gap ∧ gap < 10) (hr : 0 ≤ r ∧ r < bases L / 2) : ∃ X, solveI prtI L gap (gap * ((L.length : Int) - 1) + bases L - r) = X ∧ X.length = L.length ∧ Lf.sumI X = bases L - r ∧ ∀ (i : Nat) (y : Itm) (x : Int), L[i]? = some y → X[i]? = some x → 0 ≤ x ∧ x ≤ y.base := by
  have hlen := k.len
  have hpos : 0 < L.length := List.length_pos_iff.2 k.ne
  have hbd := bases_bd L k.it
  have hG : grows0 L gap (gap * ((L.length : Int) - 1) + bases L - r) = false := by
    unfold grows0; rw [k.sum hg]; exact decide_eq_false (by omega)
  have hfree : freeN L gap (gap * ((L.length : Int) - 1) + bases L - r) false (plains L) (List.replicate L.length false) = r := by
    unfold freeN
    rw [if_neg (by decide), taken_false L _ (by simp [plains]), show max 0 ((L.length : Int) - 1) = (L.length : Int) - 1 by omega]
    omega
  have hwm := wts_map L false
  have hws := sum_scale L (Itm.weight · false) fun y hy => (k.weight hy false).2.2 rfl
  rw [← hwm] at hws
  have hw : ∀ x ∈ wtsI L false (List.range L.length), 0 < x ∧ x ≤ 1048576 := fun x hx => by
    rw [hwm] at hx
    obtain ⟨y, hy, rfl⟩ := List.mem_map.1 hx
    have := k.weight hy false
    omega
  have hwl : (wtsI L false (List.range L.length)).length = L.length := by simp [wtsI]
  have hm : Lf.May r (wtsI L false (List.range L.length)) := may_of (by omega) (by omega) (List.ne_nil_of_length_pos (by omega)) (by omega) hw
  have hps := prtI_sum hm
  have hpl := prtI_len r (wtsI L false (List.range L.length))
  have hpb : ∀ (i : Nat) (y : Itm) (p : Int), L[i]? = some y → (prtI r (wtsI L false (List.range L.length)))[i]? = some p → 0 ≤ p ∧ p ≤ y.base := fun i y p hy hp => by
    refine ⟨prtI_nn p (List.mem_of_getElem? hp), ?_⟩
    obtain ⟨Q, q1, q2, _⟩ := prtI_of hm
    have hi := (List.getElem?_eq_some_iff.1 hy).1
    have hr' := Lf.partsL_rd hm q1 (i := i) (by omega)
    have e : Lf.rd (Lf.partsL r (wtsI L false (List.range L.length)) Q) (i : Int) = p := by
      rw [q2] at hp
      unfold Lf.rd
      rw [Int.toNat_natCast, List.getD_eq_getElem?_getD, hp]; rfl
    have hwi : (wtsI L false (List.range L.length))[i]'(by omega) = y.weight false := by
      have : (wtsI L false (List.range L.length))[i]? = some (y.weight false) := by rw [hwm, List.getElem?_map, hy]; rfl
      exact (List.getElem?_eq_some_iff.1 this).2
    rw [e, hwi] at hr'
    have hy' := k.weight (List.mem_of_getElem? hy) false
    have hb := hy'.2.2 rfl
    have hW := hm.pos
    have hlt : r * y.weight false < 32 * y.weight false * Lf.sumI (wtsI L false (List.range L.length)) := by
      have h1 : r < 32 * Lf.sumI (wtsI L false (List.range L.length)) := by omega
      have h2 := Int.mul_lt_mul_of_pos_right h1 hy'.1
      have h3 : 32 * Lf.sumI (wtsI L false (List.range L.length)) * y.weight false = 32 * y.weight false * Lf.sumI (wtsI L false (List.range L.length)) := by
        rw [Int.mul_assoc, Int.mul_assoc, Int.mul_comm (Lf.sumI _)]
      omega
    have hq := Int.ediv_lt_of_lt_mul hW hlt
    rcases Lf.got_01 (Q.take (Lf.left r (wtsI L false (List.range L.length))).toNat) i with g | g <;> rw [g] at hr' <;> omega
  have hS : sharedI prtI L gap (gap * ((L.length : Int) - 1) + bases L - r) false (plains L) (List.replicate L.length false) (List.range L.length) = List.zipWith (newI L false) (List.range L.length) (prtI r (wtsI L false (List.range L.length))) := by
    unfold sharedI
    rw [hfree, show min r 1099511627776 = r by omega]
  clear hws hwm hw hm
  generalize prtI r (wtsI L false (List.range L.length)) = ps at *
  have hnew : ∀ (i : Nat) (y : Itm) (p : Int), L[i]? = some y → ps[i]? = some p → newI L false i p = y.base - p := fun i y p hy hp => by
    have hpp := hpb i y p hy hp
    have hD : L.getD i default = y := by rw [List.getD_eq_getElem?_getD, hy]; rfl
    unfold newI
    rw [if_neg (by decide), hD]
    omega
  have hXi : ∀ i, (List.zipWith (newI L false) (List.range L.length) ps)[i]? = (ps[i]?).map (newI L false i) := fun i => by
    rw [show L.length = ps.length by omega]; exact zipWith_range
  have hX : ∀ (i : Nat) (y : Itm) (x : Int), L[i]? = some y → (List.zipWith (newI L false) (List.range L.length) ps)[i]? = some x → 0 ≤ x ∧ x ≤ y.base := fun i y x hy hx => by
    rw [hXi] at hx
    cases hp : ps[i]? with
    | none => rw [hp] at hx; cases hx
    | some p =>
      rw [hp] at hx
      cases hx
      have hpp := hpb i y p hy hp
      rw [hnew i y p hy hp]
      omega
  refine ⟨_, once (by rw [hG]; exact k.open_ false) (by rw [hG]; exact hS) (by simp; omega) k.ne fun i x hx => ?_, by simp; omega, ?_, hX⟩
  · have hi : i < L.length := by have := (List.getElem?_eq_some_iff.1 hx).1; simp at this; omega
    have hy := List.getElem?_eq_getElem hi
    have hb := hX i _ x hy hx
    obtain ⟨m, g, hm, _, e⟩ := k.it _ (List.getElem_mem hi)
    have hD : L.getD i default = L[i] := by rw [List.getD_eq_getElem?_getD, hy]; rfl
    unfold clampAt
    rw [hD, show (L[i]).mn = 0 by rw [e], show (L[i]).mx = -1 by rw [e]]
    unfold clampI
    rw [if_pos rfl]
    omega
  · have hz := sumI_zip (f := newI L false) (-1) (L.map Itm.base) ps 0 (by simp; omega) fun i b x hb hx => by
      rw [List.getElem?_map] at hb
      cases hy : L[i]? with
      | none => rw [hy] at hb; cases hb
      | some y => rw [hy] at hb; cases hb; rw [Nat.zero_add, hnew i y x hy hx]; omega
    rw [List.length_map] at hz
    have e0 : (List.range L.length).map (0 + ·) = List.range L.length := by simp
    rw [e0] at hz
    rw [hz]
    show bases L + -1 * Lf.sumI ps = _
    omega
end Go.Ai
