/-
Regions that draw: one step of any order.
-/
import Derived.Test.YtjjlmmebkemlgaaAiDraw3
set_option linter.unusedVariables false
set_option linter.unusedSimpArgs false
set_option linter.unusedSectionVars false
namespace Go.Ai
def Inj.join (ι ι2 : Inj) (lo hi : Nat) : Inj where
  dom b := ι.dom b ∨ ι2.dom b
  blk b := if lo ≤ b ∧ b < hi then ι2.blk b else ι.blk b
  sh b := if lo ≤ b ∧ b < hi then ι2.sh b else ι.sh b
  lim b := if lo ≤ b ∧ b < hi then ι2.lim b else ι.lim b
  caps b := if lo ≤ b ∧ b < hi then ι2.caps b else ι.caps b
  rest b := if lo ≤ b ∧ b < hi then ι2.rest b else ι.rest b
  env := ι.env
theorem Inj.join_left {ι ι2 : Inj} {lo hi : Nat} (h : ∀ b, ι.dom b → ¬ (lo ≤ b ∧ b < hi)) : Ext ι (ι.join ι2 lo hi) :=
  ⟨fun _ hb => .inl hb, fun b hb => ⟨if_neg (h b hb), if_neg (h b hb), if_neg (h b hb), if_neg (h b hb), if_neg (h b hb)⟩, rfl⟩
theorem Inj.join_right {ι ι2 : Inj} {lo hi : Nat} (h : ∀ b, ι2.dom b → (lo ≤ b ∧ b < hi) ∨ ι.At ι2 b) (he : ι.env = ι2.env) : Ext ι2 (ι.join ι2 lo hi) :=
  ⟨fun _ hb => .inr hb, fun b hb => by
    by_cases hc : lo ≤ b ∧ b < hi
    · exact ⟨if_pos hc, if_pos hc, if_pos hc, if_pos hc, if_pos hc⟩
    · obtain ⟨k1, k2, k3, k4, k5⟩ := (h b hb).resolve_left hc
      exact ⟨(if_neg hc).trans k1.symm, (if_neg hc).trans k2.symm, (if_neg hc).trans k3.symm, (if_neg hc).trans k4.symm, (if_neg hc).trans k5.symm⟩, he⟩
section
variable {P : Program} {call : CallF} {nt : Nat} {ops : Array Oper} {L : List (It × Bool)} {f : Nat → St} (R : Ran P call nt ops L f)
variable {ι0 ι : Inj} {w0 w : World} {E : Nat → Prop} {m : Nat} {a : Act} (I : Inv P nt L f ι0 w0 E m ι a w)
variable {q : Nat} {x : It × Bool} (hq : L[q]? = some x) (hun : ¬ E q) (hwait : ∀ r y, L[r]? = some y → Nat.testBit x.1.m y.1.i = true → E r) {hv h1 : H} {v : V} (D : Did P call nt ops.toList x.1 x.2 (f q) (f (q + 1)) hv h1 v)
include R I hq hun
theorem bar_m (hb : x.2 = true) : m ≤ q := by
  rcases Nat.lt_or_ge q m with h | h
  · exact absurd (I.loud q x h hq (R.laid.bar hq hb)) hun
  · exact h
theorem new_content {b k : Nat} (h1 : (f q).h.next ≤ b) (h2 : b < (f (q + 1)).h.next) (hk1 : q + 1 ≤ k) (hk2 : k ≤ max m (q + 1)) : (f k).h.get b = (f (q + 1)).h.get b :=
  same_upto R hk1 fun j y hj1 hj2 hj => by
    have hlj : b < (f j).h.next := Nat.lt_of_lt_of_le h2 (nx_mono R hj1)
    cases hb : y.2 with
    | false => exact step_nonbar R hj hb hlj
    | true => exact step_hid R hj hq (by omega) h1 h2 (not_waits R I hq hun hj (I.loud j y (by omega) hj (R.laid.bar hj hb)))
include hwait
theorem bar_content (hb : x.2 = true) {c b k : Nat} (hc : MadeAt f E c b) (hk : max m c ≤ k) (hkq : k ≤ q) : (f k).h.get b = (f (max m c)).h.get b :=
  same_upto R hk fun j y hj1 hj2 hj => by
    refine step_nonbar R hj ?_ (made_lt R hc (by omega))
    cases hy : y.2 with
    | false => rfl
    | true =>
      have := hwait j y hj (R.laid.barBefore (by omega) hj hq hb (R.laid.bar hj hy))
      exact absurd this (I.bar j y (by omega) hj hy)
include D
theorem classify {b : Nat} {o : O} (h : Cur f (fun p => E p ∨ p = q) (cond x.2 (q + 1) m) b o) :
    (h1.get b = some o ∧ b < (f (q + 1)).h.next ∧ (x.2 = true ∨ (f q).h.next ≤ b)) ∨ (Cur f E m b o ∧ (x.2 = true → hv.get b = none)) := by
  obtain ⟨c, hc, hg⟩ := h
  have hcase : (c = q + 1 ∧ (f q).h.next ≤ b ∧ b < (f (q + 1)).h.next) ∨ MadeAt f E c b := by
    rcases hc with ⟨h0, h1⟩ | ⟨p, h0, h1, h2, h3⟩
    · exact .inr (.inl ⟨h0, h1⟩)
    · rcases h1 with h1 | h1
      · exact .inr (.inr ⟨p, h0, h1, h2, h3⟩)
      · subst h1; exact .inl ⟨h0, h2, h3⟩
  rcases hcase with ⟨rfl, k1, k2⟩ | hm
  · left
    refine ⟨?_, k2, .inr k1⟩
    refine D.newb b o k1 ?_
    cases hb : x.2 with
    | true => rw [hb] at hg; simpa using hg
    | false => rw [hb] at hg; simp only [cond_false] at hg; rw [← new_content R I hq hun k1 k2 (show q + 1 ≤ max m (q + 1) by omega) (Nat.le_refl _)]; exact hg
  · cases hb : x.2 with
    | false =>
      rw [hb] at hg
      exact .inr ⟨⟨c, hm, hg⟩, fun e => by cases e⟩
    | true =>
      rw [hb] at hg
      simp only [cond_true] at hg
      have hmq := bar_m R I hq hun hb
      rcases Nat.lt_or_ge q c with hcq | hcq
      · have hne : c ≠ q + 1 := fun e => by
          rcases hm with ⟨h0, _⟩ | ⟨p, h0, h1, _⟩
          · omega
          · have : p = q := by omega
            subst this; exact hun h1
        rw [show max (q + 1) c = c by omega] at hg
        refine .inr ⟨⟨c, hm, by rw [show max m c = c by omega]; exact hg⟩, fun _ => ?_⟩
        cases hgv : hv.get b with
        | none => rfl
        | some o' =>
          have := view_lt R D hgv
          rcases hm with ⟨h0, _⟩ | ⟨p, h0, _, h2, _⟩
          · omega
          · have := nx_mono R (show q ≤ p by omega); omega
      · rw [show max (q + 1) c = q + 1 by omega] at hg
        have hlt : b < (f q).h.next := made_lt R hm hcq
        rcases D.oldb hb b o hlt hg with k | ⟨k1, k2⟩
        · exact .inl ⟨k, Nat.lt_of_lt_of_le hlt (nx_mono R (Nat.le_succ q)), .inl rfl⟩
        · refine .inr ⟨⟨c, hm, ?_⟩, fun _ => k1⟩
          rw [← bar_content R I hq hun hwait hb hm (show max m c ≤ q by omega) (Nat.le_refl _)]
          exact k2
variable {ι2 : Inj} {w2 : World} (S : Step P (ι.upto (f q).h.next) hv w ι2 h1 w2)
include S
theorem join1 : Ext ι (ι.join ι2 (f q).h.next (f (q + 1)).h.next) := Inj.join_left fun b hb hc => by
  obtain ⟨c, hm⟩ := I.dom b hb
  rcases hm with ⟨_, h1⟩ | ⟨p, _, h1, h2, h3⟩
  · have := nx_mono R (Nat.zero_le q); omega
  · rcases Nat.lt_trichotomy p q with h | h | h
    · have := nx_mono R (show p + 1 ≤ q by omega); omega
    · subst h; exact hun h1
    · have := nx_mono R (show q + 1 ≤ p by omega); omega
theorem join2 : Ext ι2 (ι.join ι2 (f q).h.next (f (q + 1)).h.next) := Inj.join_right (fun b hb => by
  have hlt := S.hr.dom b hb
  rw [D.next1] at hlt
  rcases S.new b hb with h | h
  · exact .inr (S.ext.at_ b h |> fun k => ⟨k.blk, k.sh, k.lim, k.caps, k.rest⟩)
  · rw [D.next] at h; exact .inl ⟨h, hlt⟩) S.ext.env.symm
/-- What was there and is not looked at stays. -/
theorem untouched {b : Nat} {o : O} (h : Cur f E m b o) (hn : x.2 = true → hv.get b = none) (hgh : o.ghostly = false) : w2.heap[ι.blk b]? = w.heap[ι.blk b]? := by
  refine S.fr _ (I.blk b o h hgh) ?_
  rintro ⟨b1, o1, k1, k2, k3, k4⟩
  obtain ⟨c, h2, h3, h4⟩ := view_cur R I hq hun hwait D k1
  have hlt := view_lt R D k1
  have hne : b1 ≠ b := fun e => by
    rcases D.floor with ⟨d1, d2⟩ | ⟨d1, d2, d3⟩
    · have := k3.1; rw [d1] at this; omega
    · have := hn d1; rw [← e, k1] at this; cases this
  exact I.inj b1 b o1 o ⟨c, h2, h4⟩ h k2 hgh hne k4
theorem seen_old {b : Nat} {o : O} (h : h1.get b = some o) (hb : b < (f q).h.next) : ∃ o0, hv.get b = some o0 ∧ o.real = o0.real ∧ o.ghostly = o0.ghostly ∧ Cur f E m b o0 := by
  obtain ⟨o0, k1, k2, k3⟩ := S.old b o (by rw [D.next]; exact hb) h
  obtain ⟨c, h2, h3, h4⟩ := view_cur R I hq hun hwait D k1
  exact ⟨o0, k1, k2, k3, c, h2, h4⟩
theorem wr_back (hfl : (f 0).h.floor ≤ (f 0).h.next) {b : Nat} {o : O} (h : h1.get b = some o) (hx : x.2 = true ∨ (f q).h.next ≤ b) (hr : o.real = true) (hb : (f q).h.next ≤ b ∨ ((f 0).h.floor ≤ b ∧ hidden (f 0).h.frz b = false)) (hs : ι2.blk b < w.heap.size) :
    ∃ b1 o1, hv.get b1 = some o1 ∧ o1.real = true ∧ ((f 0).h.floor ≤ b1 ∧ hidden (f 0).h.frz b1 = false) ∧ ι.blk b1 = ι2.blk b ∧ Cur f E m b1 o1 ∧ x.2 = true := by
  have hflq : (f q).h.floor = (f 0).h.floor := (R.low 0 q (Nat.zero_le _)).floor
  have hfzq : (f q).h.frz = (f 0).h.frz := (R.low 0 q (Nat.zero_le _)).frz
  have hn0 := nx_mono R (Nat.zero_le q)
  rcases Nat.lt_or_ge b (f q).h.next with hlt | hge
  · have hx : x.2 = true := hx.resolve_right (by omega)
    obtain ⟨o0, k1, k2, k3, k4⟩ := seen_old R I hq hun hwait D S h hlt
    have hd : (ι.upto (f q).h.next).dom b := ⟨(I.obj b o0 k4).1, hlt⟩
    exact ⟨b, o0, k1, by rw [← k2]; exact hr, hb.resolve_left (by omega), (S.ext.at_ b hd).blk.symm, k4, hx⟩
  · have hw : Wr ι2 h1 (ι2.blk b) := by
      refine ⟨b, o, h, hr, ⟨?_, ?_⟩, rfl⟩
      · rw [S.floor]
        rcases D.floor with ⟨d1, d2⟩ | ⟨d1, d2, d3⟩
        · rw [d1]; exact hge
        · rw [d2, hflq]; omega
      · rw [S.frz]; exact D.frz b hge
    obtain ⟨b1, o1, k1, k2, k3, k4⟩ := S.wr _ hs hw
    obtain ⟨c, h2, h3, h4⟩ := view_cur R I hq hun hwait D k1
    have hlt := view_lt R D k1
    rcases D.floor with ⟨d1, d2⟩ | ⟨d1, d2, d3⟩
    · have := k3.1; rw [d1] at this; omega
    · exact ⟨b1, o1, k1, k2, ⟨by have := k3.1; rw [d2, hflq] at this; exact this, by rw [← hfzq]; exact d3 b1 k3.2⟩, k4, ⟨c, h2, h4⟩, d1⟩
theorem apart_old (hfl : (f 0).h.floor ≤ (f 0).h.next) {b b' : Nat} {o o' : O} (h : h1.get b = some o) (hx : x.2 = true ∨ (f q).h.next ≤ b) (h' : Cur f E m b' o') (hn : x.2 = true → hv.get b' = none) (hf : (o.real = true ∧ o'.ghostly = false) ∨ (o'.real = true ∧ o.ghostly = false)) (hne : b ≠ b') : ι2.blk b ≠ ι.blk b' := by
  have hdom := (S.hr.obj b o h).1
  rcases Nat.lt_or_ge b (f q).h.next with hlt | hge
  · have hb : x.2 = true := hx.resolve_right (by omega)
    obtain ⟨o0, k1, k2, k3, k4⟩ := seen_old R I hq hun hwait D S h hlt
    have hd : (ι.upto (f q).h.next).dom b := ⟨(I.obj b o0 k4).1, hlt⟩
    rw [(S.ext.at_ b hd).blk]
    show ι.blk b ≠ ι.blk b'
    rcases hf with ⟨f1, f2⟩ | ⟨f1, f2⟩
    · exact I.inj b b' o0 o' k4 h' (by rw [← k2]; exact f1) f2 hne
    · exact fun e => I.inj b' b o' o0 h' k4 f1 (by rw [← k3]; exact f2) (Ne.symm hne) e.symm
  · intro e
    have hfr := S.fresh b o (by rw [D.next]; exact hge) h

    have hog : o'.ghostly = false := by
      rcases hf with ⟨_, f2⟩ | ⟨f1, _⟩
      · exact f2
      · exact O.real_not f1
    have hlt9 := I.blk b' o' h' hog
    have hreal : o.real = true ∧ o'.ghostly = false := by
      rcases hf with hf | ⟨f1, f2⟩
      · exact hf
      · rcases hfr with q | q | q
        · exact ⟨q, O.real_not f1⟩
        · rw [f2] at q; simp at q
        · rw [e] at q; omega
    have hlt' := I.blk b' o' h' hreal.2
    have hn0 := nx_mono R (Nat.zero_le q)
    obtain ⟨b1, o1, k1, k2, k3, k4, k5, k6⟩ := wr_back R I hq hun hwait D S hfl h (.inr hge) hreal.1 (.inl hge) (by rw [e]; exact hlt')
    have hne1 : b1 ≠ b' := fun q => by have := hn k6; rw [← q, k1] at this; cases this
    exact I.inj b1 b' o1 o' k5 h' k2 hreal.2 hne1 (k4.trans e)
theorem inv_step (hnt : nt ≤ 1024) (hfl : (f 0).h.floor ≤ (f 0).h.next) {u : Value} (hvu : VR ι2 v u) :
    Inv P nt L f ι0 w0 (fun p => E p ∨ p = q) (cond x.2 (q + 1) m) (ι.join ι2 (f q).h.next (f (q + 1)).h.next) (a.put x.1.o.dst u) w2 := by
  have J1 := join1 R I hq hun hwait D S
  have J2 := join2 R I hq hun hwait D S
  have hqN : q < L.length := (List.getElem?_eq_some_iff.1 hq).1
  have C := @classify P call nt ops L f R ι0 ι w0 w E m a I q x hq hun hwait hv h1 v D
  have hn0 := nx_mono R (Nat.zero_le q)
  have B1 : ∀ {b o}, h1.get b = some o → (ι.join ι2 (f q).h.next (f (q + 1)).h.next).blk b = ι2.blk b := fun {b o} hg => (J2.at_ b (S.hr.obj b o hg).1).blk
  have B2 : ∀ {b o}, Cur f E m b o → (ι.join ι2 (f q).h.next (f (q + 1)).h.next).blk b = ι.blk b := fun {b o} hg => (J1.at_ b (I.obj b o hg).1).blk
  have dst : ∀ d, x.1.o.dst ≠ some d → (a.put x.1.o.dst u).tmps.getD d undef = a.tmps.getD d undef := fun d hd => by
    cases hx : x.1.o.dst with
    | none => rfl
    | some d' =>
      have : d' ≠ d := fun e => hd (by rw [hx, e])
      simp only [Act.put]
      rw [Array.getD_eq_getD_getElem?, Array.getElem?_setIfInBounds_ne this, ← Array.getD_eq_getD_getElem?]
  refine ⟨?_, ?_, ?_, ?_, ?_, I.ext.trans J1, ?_, ?_, ?_, ?_, ?_, Nat.le_trans I.size S.size, S.os.trans I.os, S.tape.trans I.tape, S.output.trans I.output, ?_, ?_, ?_, ?_, ?_, ?_, ?_, by rw [put_defers]; exact I.defers, by rw [put_size]; exact I.tmps, I.kn⟩
  · rintro p (h | rfl)
    · exact I.lt p h
    · exact hqN
  · rintro p y r z (h | rfl) hy hz hb
    · exact .inl (I.cl p y r z h hy hz hb)
    · rw [hq] at hy; cases hy
      exact .inl (hwait r z hz hb)
  · intro p y hp hy hl
    cases hb : x.2 with
    | false => rw [hb] at hp; exact .inl (I.loud p y hp hy hl)
    | true =>
      rw [hb] at hp
      simp only [cond_true] at hp
      rcases Nat.lt_or_ge p q with h | h
      · exact .inl (hwait p y hy (R.laid.barBefore h hy hq hb hl))
      · exact .inr (by omega)
  · rintro p y hp hy hb' (h | rfl)
    · cases hb : x.2 with
      | false => rw [hb] at hp; exact I.bar p y hp hy hb' h
      | true =>
        rw [hb] at hp
        simp only [cond_true] at hp
        exact I.bar p y (by have := bar_m R I hq hun hb; omega) hy hb' h
    · rw [hq] at hy; cases hy
      rw [hb'] at hp
      simp only [cond_true] at hp
      omega
  · cases x.2 with
    | false => exact I.mN
    | true => exact hqN
  · rintro b (h | h)
    · obtain ⟨c, hc⟩ := I.dom b h
      refine ⟨c, ?_⟩
      rcases hc with hc | ⟨p, k1, k2, k3⟩
      · exact .inl hc
      · exact .inr ⟨p, k1, .inl k2, k3⟩
    · have hlt := S.hr.dom b h
      rw [D.next1] at hlt
      rcases S.new b h with h | h
      · obtain ⟨c, hc⟩ := I.dom b h.1
        refine ⟨c, ?_⟩
        rcases hc with hc | ⟨p, k1, k2, k3⟩
        · exact .inl hc
        · exact .inr ⟨p, k1, .inl k2, k3⟩
      · rw [D.next] at h; exact ⟨q + 1, .inr ⟨q, rfl, .inr rfl, h, hlt⟩⟩
  · intro b o h
    rcases C h with ⟨k1, k2, k3⟩ | ⟨k1, k2⟩
    · obtain ⟨g1, g2⟩ := S.hr.obj b o k1
      exact ⟨.inr g1, ORel.ext J2 g1 rfl g2⟩
    · obtain ⟨g1, g2⟩ := I.obj b o k1
      exact ⟨.inl g1, ORel.ext J1 g1 rfl (g2.keep fun e => untouched R I hq hun hwait D S k1 k2 e)⟩
  · intro c b o k hc hk1 hk2 hg
    have hd2 : ∀ b, ι2.dom b → b < (f (q + 1)).h.next := fun b hb => by rw [← D.next1]; exact S.hr.dom b hb
    have fresh : h1.get b = some o → q + 1 ≤ k → o.below (f k).h.next := fun h hk => O.below.mono (nx_mono R hk) (ORel.below hd2 (S.hr.obj b o h).2)
    have hcase : (c = q + 1 ∧ (f q).h.next ≤ b ∧ b < (f (q + 1)).h.next) ∨ MadeAt f E c b := by
      rcases hc with ⟨h0, h1⟩ | ⟨p, h0, h1, h2, h3⟩
      · exact .inr (.inl ⟨h0, h1⟩)
      · rcases h1 with h1 | h1
        · exact .inr (.inr ⟨p, h0, h1, h2, h3⟩)
        · subst h1; exact .inl ⟨h0, h2, h3⟩
    rcases hcase with ⟨rfl, k1, k2⟩ | hm
    · refine fresh (D.newb b o k1 ?_) hk1
      cases hb : x.2 with
      | true =>
        rw [hb] at hk2
        have : k = q + 1 := by simp at hk2; omega
        rw [← this]; exact hg
      | false =>
        rw [hb] at hk2
        rw [← new_content R I hq hun k1 k2 hk1 hk2]; exact hg
    · cases hb : x.2 with
      | false => rw [hb] at hk2; exact I.bel c b o k hm hk1 hk2 hg
      | true =>
        rw [hb] at hk2
        simp only [cond_true] at hk2
        have hmq := bar_m R I hq hun hb
        rcases Nat.lt_or_ge (max m c) k with h | h
        · have hcq : c ≤ q := by omega
          have low : ∀ o, (f q).h.get b = some o → o.below (f q).h.next := fun o hg => by
            rw [bar_content R I hq hun hwait hb hm (show max m c ≤ q by omega) (Nat.le_refl _)] at hg
            exact O.below.mono (nx_mono R (show max m c ≤ q by omega)) (I.bel c b o (max m c) hm (by omega) (Nat.le_refl _) hg)
          rcases Nat.lt_or_ge q k with hkq | hkq
          · have : k = q + 1 := by omega
            subst this
            rcases D.oldb hb b o (made_lt R hm hcq) hg with g | ⟨g1, g2⟩
            · exact fresh g (Nat.le_refl _)
            · exact O.below.mono (nx_mono R (Nat.le_succ q)) (low o g2)
          · rw [bar_content R I hq hun hwait hb hm (show max m c ≤ k by omega) hkq] at hg
            exact O.below.mono (nx_mono R (show max m c ≤ k by omega)) (I.bel c b o (max m c) hm (by omega) (Nat.le_refl _) hg)
        · exact I.bel c b o k hm hk1 h hg
  · intro b b' o o' h h' hr hgh hne
    rcases C h with ⟨k1, k2, k3⟩ | ⟨k1, k2⟩ <;> rcases C h' with ⟨l1, l2, l3⟩ | ⟨l1, l2⟩
    · rw [B1 k1, B1 l1]; exact S.hr.inj b b' o o' k1 l1 hr hgh hne
    · rw [B1 k1, B2 l1]; exact apart_old R I hq hun hwait D S hfl k1 k3 l1 l2 (.inl ⟨hr, hgh⟩) hne
    · rw [B2 k1, B1 l1]; exact fun e => apart_old R I hq hun hwait D S hfl l1 l3 k1 k2 (.inr ⟨hr, hgh⟩) (Ne.symm hne) e.symm
    · rw [B2 k1, B2 l1]; exact I.inj b b' o o' k1 l1 hr hgh hne
  · intro b o h hgh
    rcases C h with ⟨k1, k2, k3⟩ | ⟨k1, k2⟩
    · rw [B1 k1]; exact S.hr.lt b o k1 hgh
    · rw [B2 k1]; exact Nat.lt_of_lt_of_le (I.blk b o k1 hgh) S.size
  · intro b o h hr hf hs
    rcases C h with ⟨k1, k2, k3⟩ | ⟨k1, k2⟩
    · rw [B1 k1] at hs ⊢
      obtain ⟨b1, o1, g1, g2, g3, g4, g5, _⟩ := wr_back R I hq hun hwait D S hfl k1 k3 hr (.inr hf) (Nat.lt_of_lt_of_le hs I.size)
      rw [← g4] at hs ⊢
      exact I.wr b1 o1 g5 g2 g3 hs
    · rw [B2 k1] at hs ⊢
      exact I.wr b o k1 hr hf hs
  · intro c hc hw
    rw [S.fr c (Nat.lt_of_lt_of_le hc I.size) ?_]
    · exact I.fr c hc hw
    · rintro ⟨b1, o1, k1, k2, k3, k4⟩
      obtain ⟨c', h2, h3, h4⟩ := view_cur R I hq hun hwait D k1
      have hlt := view_lt R D k1
      rcases D.floor with ⟨d1, d2⟩ | ⟨d1, d2, d3⟩
      · have := k3.1; rw [d1] at this; omega
      · have hfzq : (f q).h.frz = (f 0).h.frz := (R.low 0 q (Nat.zero_le _)).frz
        have hflq : (f q).h.floor = (f 0).h.floor := (R.low 0 q (Nat.zero_le _)).floor
        have k4 : ι.blk b1 = c := k4
        refine hw ?_
        rw [← k4]
        exact I.wr b1 o1 ⟨c', h2, h4⟩ k2 ⟨by have := k3.1; rw [d2, hflq] at this; exact this, by rw [← hfzq]; exact d3 b1 k3.2⟩ (by rw [k4]; exact hc)
  · intro b o h hb
    rcases C h with ⟨k1, k2, k3⟩ | ⟨k1, k2⟩
    · obtain ⟨o0, g1, g2, g3, g4⟩ := seen_old R I hq hun hwait D S k1 (by omega)
      obtain ⟨o1, l1, l2, l3⟩ := I.old b o0 g4 hb
      exact ⟨o1, l1, g2.trans l2, g3.trans l3⟩
    · exact I.old b o k1 hb
  · intro b o h hb
    rcases C h with ⟨k1, k2, k3⟩ | ⟨k1, k2⟩
    · rcases Nat.lt_or_ge b (f q).h.next with hlt | hge
      · obtain ⟨o0, g1, g2, g3, g4⟩ := seen_old R I hq hun hwait D S k1 hlt
        have hd : (ι.upto (f q).h.next).dom b := ⟨(I.obj b o0 g4).1, hlt⟩
        rw [g2, g3, B1 k1, (S.ext.at_ b hd).blk]; exact I.fresh b o0 g4 hb
      · rw [B1 k1]; exact (S.fresh b o (by rw [D.next]; exact hge) k1).imp id fun q => q.imp id fun q => Nat.le_trans I.size q
    · rw [B2 k1]; exact I.fresh b o k1 hb
  · rintro b (h | h)
    · exact I.new b h
    · rcases S.new b h with h | h
      · exact I.new b h.1
      · rw [D.next] at h; exact .inr (by omega)
  · rintro p y d v' (h | rfl) hy hd hv'
    · have hpq : q ≠ p := fun e => hun (e ▸ h)
      obtain ⟨k1, k2⟩ := I.slot1 p y d v' h hy hd hv'
      rw [dst d fun e => (idx_ne R hpq hq hy).2 d e hd]
      exact ⟨k1.ext J1, k2⟩
    · rw [hq] at hy; cases hy
      rw [putT_get hnt D.put, if_pos hd] at hv'
      cases hv'
      have hlt : d < nt := by
        have := D.put
        unfold putT at this
        rw [hd] at this
        simp only [Bool.cond_eq_ite] at this
        split at this
        · rename_i hb; rw [Nat.blt_eq] at hb; exact hb
        · simp at this
      refine ⟨?_, VR.below (fun b hb => by rw [← D.next1]; exact S.hr.dom b hb) hvu⟩
      rw [hd]
      simp only [Act.put]
      rw [Array.getD_eq_getD_getElem?, Array.getElem?_setIfInBounds_self, if_pos (by rw [I.tmps]; exact hlt)]
      exact hvu.ext J2
  · intro d v' h hv'
    obtain ⟨k1, k2⟩ := I.slot0 d v' (fun p y hp hy => h p y (.inl hp) hy) hv'
    rw [dst d (h q x (.inr rfl) hq)]
    exact ⟨k1.ext J1, k2⟩
end
end Go.Ai
