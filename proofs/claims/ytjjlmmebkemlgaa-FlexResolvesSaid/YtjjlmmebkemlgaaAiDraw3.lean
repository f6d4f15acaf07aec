/-
Regions that draw: what holds between the steps of ANY order, told by the run in the one order.
-/
import Derived.Test.YtjjlmmebkemlgaaAiDraw2
set_option linter.unusedVariables false
set_option linter.unusedSimpArgs false
set_option linter.unusedSectionVars false
namespace Go.Ai
def MadeAt (f : Nat → St) (E : Nat → Prop) (c b : Nat) : Prop := (c = 0 ∧ b < (f 0).h.next) ∨ ∃ p, c = p + 1 ∧ E p ∧ (f p).h.next ≤ b ∧ b < (f (p + 1)).h.next
/-- What a block holds, of those that are there. -/
def Cur (f : Nat → St) (E : Nat → Prop) (m b : Nat) (o : O) : Prop := ∃ c, MadeAt f E c b ∧ (f (max m c)).h.get b = some o
structure Inv (P : Program) (nt : Nat) (L : List (It × Bool)) (f : Nat → St) (ι0 : Inj) (w0 : World) (E : Nat → Prop) (m : Nat) (ι : Inj) (a : Act) (w : World) : Prop where
  lt : ∀ p, E p → p < L.length
  cl : ∀ p x r y, E p → L[p]? = some x → L[r]? = some y → Nat.testBit x.1.m y.1.i = true → E r
  loud : ∀ p x, p < m → L[p]? = some x → x.1.c.isLoud = true → E p
  bar : ∀ p x, m ≤ p → L[p]? = some x → x.2 = true → ¬ E p
  mN : m ≤ L.length
  ext : Ext ι0 ι
  dom : ∀ b, ι.dom b → ∃ c, MadeAt f E c b
  obj : ∀ b o, Cur f E m b o → ι.dom b ∧ ORel P ι b w o
  bel : ∀ c b o k, MadeAt f E c b → c ≤ k → k ≤ max m c → (f k).h.get b = some o → o.below (f k).h.next
  inj : ∀ b b' o o', Cur f E m b o → Cur f E m b' o' → o.real = true → o'.ghostly = false → b ≠ b' → ι.blk b ≠ ι.blk b'
  blk : ∀ b o, Cur f E m b o → o.ghostly = false → ι.blk b < w.heap.size
  size : w0.heap.size ≤ w.heap.size
  os : w.os = w0.os
  tape : w.tape = w0.tape
  output : w.output = w0.output
  wr : ∀ b o, Cur f E m b o → o.real = true → ((f 0).h.floor ≤ b ∧ hidden (f 0).h.frz b = false) → ι.blk b < w0.heap.size → Wr ι0 (f 0).h (ι.blk b)
  fr : ∀ c, c < w0.heap.size → ¬ Wr ι0 (f 0).h c → w.heap[c]? = w0.heap[c]?
  old : ∀ b o, Cur f E m b o → b < (f 0).h.next → ∃ o0, (f 0).h.get b = some o0 ∧ o.real = o0.real ∧ o.ghostly = o0.ghostly
  fresh : ∀ b o, Cur f E m b o → (f 0).h.next ≤ b → o.real = true ∨ o.ghostly = true ∨ w0.heap.size ≤ ι.blk b
  new : ∀ b, ι.dom b → ι0.dom b ∨ (f 0).h.next ≤ b
  slot1 : ∀ p x d v, E p → L[p]? = some x → x.1.o.dst = some d → (f (p + 1)).t.get d = some v → VR ι v (a.tmps.getD d undef) ∧ v.below (f (p + 1)).h.next
  slot0 : ∀ d v, (∀ p x, E p → L[p]? = some x → x.1.o.dst ≠ some d) → (f 0).t.get d = some v → VR ι v (a.tmps.getD d undef) ∧ v.below (f 0).h.next
  defers : a.defers = []
  tmps : a.tmps.size = nt
  kn : KnOk P ι0.env (f 0).h.kn
section
variable {P : Program} {call : CallF} {nt : Nat} {ops : Array Oper} {L : List (It × Bool)} {f : Nat → St} (R : Ran P call nt ops L f)
include R
theorem nx_mono {p q : Nat} (h : p ≤ q) : (f p).h.next ≤ (f q).h.next := (R.low p q h).next
theorem same_upto {b i k : Nat} (hik : i ≤ k) (h : ∀ j x, i ≤ j → j < k → L[j]? = some x → (f (j + 1)).h.get b = (f j).h.get b) : (f k).h.get b = (f i).h.get b := by
  induction k with
  | zero => have : i = 0 := by omega
            subst this; rfl
  | succ k ih =>
    rcases Nat.lt_or_ge i (k + 1) with q | q
    · rw [← ih (by omega) fun j x h1 h2 h3 => h j x h1 (by omega) h3]
      rcases Nat.lt_or_ge k L.length with r | r
      · exact h k _ (by omega) (by omega) (List.getElem?_eq_getElem r)
      · rw [R.stay k r]
    · have : i = k + 1 := by omega
      subst this; rfl
theorem find_made {b : Nat} : ∀ {q : Nat}, b < (f q).h.next → b < (f 0).h.next ∨ ∃ p, p < q ∧ (f p).h.next ≤ b ∧ b < (f (p + 1)).h.next
  | 0, h => .inl h
  | q + 1, h => by
    rcases Nat.lt_or_ge b (f q).h.next with r | r
    · rcases find_made r with h1 | ⟨p, h1, h2⟩
      · exact .inl h1
      · exact .inr ⟨p, by omega, h2⟩
    · exact .inr ⟨q, by omega, r, h⟩
theorem made_lt {E : Nat → Prop} {c b : Nat} (h : MadeAt f E c b) {j : Nat} (hj : c ≤ j) : b < (f j).h.next := by
  rcases h with ⟨rfl, h⟩ | ⟨p, rfl, _, _, h⟩
  · exact Nat.lt_of_lt_of_le h (nx_mono R hj)
  · exact Nat.lt_of_lt_of_le h (nx_mono R hj)
theorem step_nonbar {j : Nat} {x : It × Bool} {b : Nat} (hj : L[j]? = some x) (hb : x.2 = false) (hl : b < (f j).h.next) : (f (j + 1)).h.get b = (f j).h.get b := by
  obtain ⟨hv, h1, v, d⟩ := R.did hj
  exact d.nonbar hb b hl
theorem step_hid {j r : Nat} {x y : It × Bool} {b : Nat} (hj : L[j]? = some x) (hr : L[r]? = some y) (hrj : r < j) (h1 : (f r).h.next ≤ b) (h2 : b < (f (r + 1)).h.next) (hm : Nat.testBit x.1.m y.1.i = false) : (f (j + 1)).h.get b = (f j).h.get b := by
  obtain ⟨hv, g1, v, d⟩ := R.did hj
  refine d.hidb b (Nat.lt_of_lt_of_le h2 (nx_mono R (by omega))) ?_
  rw [hidden_append, unseen_hidden (R.rg hrj hr h1 h2) hm h1 h2, Bool.or_true]
theorem step_ld {j r : Nat} {x y : It × Bool} {b : Nat} (hj : L[j]? = some x) (hrj : r < j) (hd : (y.1.i, b, b + 1) ∈ (f (r + 1)).ld) (hm : Nat.testBit x.1.m y.1.i = false) (hl : b < (f j).h.next) : (f (j + 1)).h.get b = (f j).h.get b := by
  obtain ⟨hv, g1, v, d⟩ := R.did hj
  refine d.hidb b hl ?_
  rw [hidden_append, unseen_hidden (R.ld (show r + 1 ≤ j by omega) hd) hm (Nat.le_refl _) (Nat.lt_succ_self _), Bool.true_or]
theorem idx_ne {p q : Nat} {x y : It × Bool} (h : p ≠ q) (hp : L[p]? = some x) (hq : L[q]? = some y) : x.1.i ≠ y.1.i ∧ ∀ d, x.1.o.dst = some d → y.1.o.dst ≠ some d := by
  have aux : ∀ {p q : Nat} {x y : It × Bool}, p < q → L[p]? = some x → L[q]? = some y → x.1.i ≠ y.1.i ∧ ∀ d, x.1.o.dst = some d → y.1.o.dst ≠ some d := fun {p q x y} h hp hq => by
    have := R.laid.pair h hp hq
    simp only [pairB, Bool.and_eq_true, Bool.not_eq_true'] at this
    obtain ⟨⟨⟨_, h2⟩, h3⟩, _⟩ := this
    refine ⟨fun e => (by rw [e, beq_self] at h2; cases h2), fun d h4 h5 => ?_⟩
    unfold dstB at h3
    rw [h4, h5] at h3
    simp at h3
  rcases Nat.lt_or_ge p q with r | r
  · exact aux r hp hq
  · obtain ⟨h1, h2⟩ := aux (show q < p by omega) hq hp
    exact ⟨fun e => h1 e.symm, fun d h3 h4 => h2 d h4 h3⟩
variable {ι0 ι : Inj} {w0 w : World} {E : Nat → Prop} {m : Nat} {a : Act} (I : Inv P nt L f ι0 w0 E m ι a w)
variable {q : Nat} {x : It × Bool} (hq : L[q]? = some x) (hun : ¬ E q) (hwait : ∀ r y, L[r]? = some y → Nat.testBit x.1.m y.1.i = true → E r) {hv h1 : H} {v : V} (D : Did P call nt ops.toList x.1 x.2 (f q) (f (q + 1)) hv h1 v)
include I hq hun in
theorem not_waits {j : Nat} {y : It × Bool} (hj : L[j]? = some y) (he : E j) : Nat.testBit y.1.m x.1.i = false := by
  cases h : Nat.testBit y.1.m x.1.i with
  | false => rfl
  | true => exact absurd (I.cl j y q x he hj hq h) hun
include D in
theorem view_lt {b : Nat} {o : O} (hg : hv.get b = some o) : b < (f q).h.next := (R.neat q).get (D.sub b o hg)
include I hq hun hwait D in
theorem view_cur {b : Nat} {o : O} (hg : hv.get b = some o) : ∃ c, MadeAt f E c b ∧ c ≤ q ∧ (f (max m c)).h.get b = some o := by
  have hlt := view_lt R D hg
  have hqN : q < L.length := (List.getElem?_eq_some_iff.1 hq).1
  have hc : ∃ c, MadeAt f E c b ∧ c ≤ q := by
    rcases find_made R hlt with h | ⟨p, h0, h2, h3⟩
    · exact ⟨0, .inl ⟨rfl, h⟩, Nat.zero_le _⟩
    · have hp : L[p]? = some L[p] := List.getElem?_eq_getElem (by omega)
      refine ⟨p + 1, .inr ⟨p, rfl, ?_, h2, h3⟩, by omega⟩
      refine hwait p _ hp ?_
      cases hb : Nat.testBit x.1.m L[p].1.i with
      | true => rfl
      | false =>
        have := D.seen b o hg
        rw [unseen_hidden (R.rg h0 hp h2 h3) hb h2 h3] at this; cases this
  obtain ⟨c, hc, hcq⟩ := hc
  refine ⟨c, hc, hcq, ?_⟩
  have hkind := D.kind b o hg
  rcases Nat.lt_or_ge q (max m c) with h | h
  · have hmq : q < m := by omega
    have hmc : max m c = m := by omega
    rw [hmc]
    rcases hkind with hk | ⟨hk, hld⟩
    · exact absurd (I.loud q x hmq hq hk) hun
    · rw [same_upto R (show q ≤ m by omega) fun j y hj1 hj2 hj => ?_]
      · exact D.sub b o hg
      · have hlj : b < (f j).h.next := Nat.lt_of_lt_of_le hlt (nx_mono R hj1)
        rcases Nat.lt_or_ge q j with hqj | hqj
        · cases hb : y.2 with
          | false => exact step_nonbar R hj hb hlj
          | true => exact step_ld R hj hqj hld (not_waits R I hq hun hj (I.loud j y hj2 hj (R.laid.bar hj hb))) hlj
        · have : j = q := by omega
          subst this
          rw [hq] at hj; cases hj
          cases hb : x.2 with
          | false => exact step_nonbar R hq hb hlj
          | true =>
            have := R.laid.bar hq hb
            cases hcl : x.1.c <;> rw [hcl] at this hk <;> simp [Cls.isLoad, Cls.isLoud] at this hk
  · rw [← same_upto R h fun j y hj1 hj2 hj => ?_]
    · exact D.sub b o hg
    · refine step_nonbar R hj ?_ (made_lt R hc (by omega))
      cases hb : y.2 with
      | false => rfl
      | true =>
        have hbit := R.laid.barAfter hj2 hj hq hb (by rcases hkind with hk | ⟨hk, _⟩ <;> simp [hk])
        exact absurd (hwait j y hj hbit) (I.bar j y (by omega) hj hb)
include I hq hun hwait D in
theorem view_hr : HR P (ι.upto (f q).h.next) hv w := by
  refine ⟨fun b hb => by rw [D.next]; exact hb.2, fun b o hg => ?_, fun b b' o o' hg hg' hr hgh hne => ?_, fun b hb => D.hid b (by rw [← D.next]; exact hb), fun b o hg hgh => ?_, fun b hb => D.frz b (by rw [← D.next]; exact hb), by
    have e : hv.kn = (f 0).h.kn := D.kn.trans (R.low 0 q (Nat.zero_le _)).kn
    rw [e]; show KnOk P ι.env _; rw [I.ext.env]; exact I.kn⟩
  · obtain ⟨c, h2, h3, h4⟩ := view_cur R I hq hun hwait D hg
    obtain ⟨h5, h6⟩ := I.obj b o ⟨c, h2, h4⟩
    refine ⟨⟨h5, view_lt R D hg⟩, ORel.upto h6 ?_⟩
    rcases Nat.lt_or_ge q (max m c) with h | h
    · exact I.bel c b o q h2 h3 (by omega) (D.sub b o hg)
    · exact O.below.mono (nx_mono R h) (I.bel c b o (max m c) h2 (by omega) (Nat.le_refl _) h4)
  · obtain ⟨c, h2, h3, h4⟩ := view_cur R I hq hun hwait D hg
    obtain ⟨c', h2', h3', h4'⟩ := view_cur R I hq hun hwait D hg'
    exact I.inj b b' o o' ⟨c, h2, h4⟩ ⟨c', h2', h4'⟩ hr hgh hne
  · obtain ⟨c, h2, h3, h4⟩ := view_cur R I hq hun hwait D hg
    exact I.blk b o ⟨c, h2, h4⟩ hgh
omit R in
theorem putT_get (hnt : nt ≤ 1024) {T0 T1 : Sl} {d : Option Tmp} {v : V} (h : putT nt T0 d v = some T1) (t : Nat) : T1.get t = if d = some t then some v else T0.get t := by
  unfold putT at h
  cases d with
  | none => simp at h; subst h; simp
  | some d =>
    simp only [Bool.cond_eq_ite] at h
    split at h
    · rename_i hb
      rw [Sl.setK_eq] at h
      cases h
      rw [Sl.get_set _ _ _ _ (by rw [Nat.blt_eq] at hb; omega)]
      by_cases e : t = d
      · subst e; simp
      · rw [if_neg e, if_neg (by intro q; cases q; exact e rfl)]
    · simp at h
theorem slot_same (hnt : nt ≤ 1024) {d i k : Nat} (hik : i ≤ k) (h : ∀ j y, i ≤ j → j < k → L[j]? = some y → y.1.o.dst ≠ some d) : (f k).t.get d = (f i).t.get d := by
  induction k with
  | zero => have : i = 0 := by omega
            subst this; rfl
  | succ k ih =>
    rcases Nat.lt_or_ge i (k + 1) with q | q
    · rw [← ih (by omega) fun j x h1 h2 h3 => h j x h1 (by omega) h3]
      rcases Nat.lt_or_ge k L.length with r | r
      · obtain ⟨hv, g1, v, dd⟩ := R.did (List.getElem?_eq_getElem r)
        rw [putT_get hnt dd.put, if_neg (h k _ (by omega) (by omega) (List.getElem?_eq_getElem r))]
      · rw [R.stay k r]
    · have : i = k + 1 := by omega
      subst this; rfl
include I hq hun hwait in
theorem view_slots (hnt : nt ≤ 1024) {d : Nat} {u : V} (hd : d ∈ x.1.o.looksAt ops) (hu : (f q).t.get d = some u) : VR (ι.upto (f q).h.next) u (a.tmps.getD d undef) := by
  have zero : (∀ p y, E p → L[p]? = some y → y.1.o.dst ≠ some d) → (∀ j y, j < q → L[j]? = some y → y.1.o.dst ≠ some d) → VR (ι.upto (f q).h.next) u (a.tmps.getD d undef) := fun h h2 => by
    rw [slot_same R hnt (Nat.zero_le q) fun j y _ hj hy => h2 j y hj hy] at hu
    obtain ⟨k1, k2⟩ := I.slot0 d u h hu
    exact VR.upto k1 (V.below.mono (nx_mono R (Nat.zero_le q)) k2)
  by_cases hex : ∃ (p : Nat) (y : It × Bool), L[p]? = some y ∧ y.1.o.dst = some d
  · obtain ⟨p, y, hp, hy⟩ := hex
    have only : ∀ j z, L[j]? = some z → j ≠ p → z.1.o.dst ≠ some d := fun j z hj hne => (idx_ne R (Ne.symm hne) hp hj).2 d hy
    rcases Nat.lt_trichotomy p q with h | h | h
    · have hpair := R.laid.pair h hp hq
      simp only [pairB, Bool.and_eq_true, Bool.or_eq_true] at hpair
      rcases hpair.2 with hb | hb
      · have he := hwait p y hp hb
        rw [slot_same R hnt (show p + 1 ≤ q by omega) fun j z h2 h3 hj => only j z hj (by omega)] at hu
        obtain ⟨k1, k2⟩ := I.slot1 p y d u he hp hy hu
        exact VR.upto k1 (V.below.mono (nx_mono R (by omega)) k2)
      · unfold slotsB at hb
        rw [hy] at hb
        simp only [Bool.and_eq_true, Bool.not_eq_true', List.contains_eq_mem, decide_eq_false_iff_not] at hb
        exact absurd hd hb.1
    · subst h
      refine zero (fun j z he hj e => ?_) fun j z h2 hj => only j z hj (by omega)
      by_cases hjp : j = p
      · subst hjp; exact hun he
      · exact only j z hj hjp e
    · have hpair := R.laid.pair h hq hp
      simp only [pairB, Bool.and_eq_true, Bool.or_eq_true] at hpair
      rcases hpair.2 with hb | hb
      · refine zero (fun j z he hj e => ?_) fun j z h2 hj => only j z hj (by omega)
        by_cases hjp : j = p
        · subst hjp
          rw [hp] at hj; cases hj
          have := not_waits R I hq hun hp he
          rw [hb] at this; cases this
        · exact only j z hj hjp e
      · unfold slotsB at hb
        rw [hy] at hb
        simp only [Bool.and_eq_true, Bool.not_eq_true', List.contains_eq_mem, decide_eq_false_iff_not] at hb
        exact absurd hd hb.2
  · exact zero (fun j z _ hj e => hex ⟨j, z, hj, e⟩) fun j z _ hj e => hex ⟨j, z, hj, e⟩
end
end Go.Ai
