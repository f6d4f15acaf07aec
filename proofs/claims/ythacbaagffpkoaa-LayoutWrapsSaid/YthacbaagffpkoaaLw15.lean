/-
LayoutWraps, part 15 of 48: AiDraw4 AiDraw5 AiTop.
-/
import Derived.Test.YthacbaagffpkoaaLw14
set_option linter.unusedVariables false
set_option linter.unusedSimpArgs false
set_option linter.unusedSectionVars false
namespace Go.Ai
def Inj.join (ι ι2 : Inj) (lo hi : Nat) : Inj where
 dom b := ι.dom b ∨ ι2.dom b
 blk b := if lo ≤ b ∧ b < hi then ι2.blk b else ι.blk b
 sh b := if lo ≤ b ∧ b < hi then ι2.sh b else ι.sh b
 lim b := if lo ≤ b ∧ b < hi then ι2.lim b else ι.lim b
 caps b := if lo ≤ b ∧ b < hi then ι2.caps b else ι.caps b
 rest b := if lo ≤ b ∧ b < hi then ι2.rest b else ι.rest b
 env := ι.env
theorem Inj.join_left {ι ι2 : Inj} {lo hi : Nat} (h : ∀ b, ι.dom b → ¬ (lo ≤ b ∧ b < hi)) : Ext ι (ι.join ι2 lo hi) :=
 ⟨fun _ hb => .inl hb, fun b hb => ⟨if_neg (h b hb), if_neg (h b hb), if_neg (h b hb), if_neg (h b hb), if_neg (h b hb)⟩, rfl⟩
theorem Inj.join_right {ι ι2 : Inj} {lo hi : Nat} (h : ∀ b, ι2.dom b → (lo ≤ b ∧ b < hi) ∨ ι.At ι2 b) (he : ι.env = ι2.env) : Ext ι2 (ι.join ι2 lo hi) :=
 ⟨fun _ hb => .inr hb, fun b hb => by
  by_cases hc : lo ≤ b ∧ b < hi
  ·exact ⟨if_pos hc, if_pos hc, if_pos hc, if_pos hc, if_pos hc⟩
  ·obtain ⟨k1, k2, k3, k4, k5⟩ := (h b hb).resolve_left hc
   exact ⟨(if_neg hc).trans k1.symm, (if_neg hc).trans k2.symm, (if_neg hc).trans k3.symm, (if_neg hc).trans k4.symm, (if_neg hc).trans k5.symm⟩, he⟩
section
variable {P : Program} {call : CallF} {nt : Nat} {ops : Array Oper} {L : List (It × Bool)} {f : Nat → St} (R : Ran P call nt ops L f)
variable {ι0 ι : Inj} {w0 w : World} {E : Nat → Prop} {m : Nat} {a : Act} (I : Inv P nt L f ι0 w0 E m ι a w)
variable {q : Nat} {x : It × Bool} (hq : L[q]? = some x) (hun : ¬ E q) (hwait : ∀ r y, L[r]? = some y → Nat.testBit x.1.m y.1.i = true → E r) {hv h1 : H} {v : V} (D : Did P call nt ops.toList x.1 x.2 (f q) (f (q + 1)) hv h1 v)
include R I hq hun
theorem bar_m (hb : x.2 = true) : m ≤ q := by
 rcases Nat.lt_or_ge q m with h | h
 ·exact absurd (I.loud q x h hq (R.laid.bar hq hb)) hun
 ·exact h
theorem new_content {b k : Nat} (h1 : (f q).h.next ≤ b) (h2 : b < (f (q + 1)).h.next) (hk1 : q + 1 ≤ k) (hk2 : k ≤ max m (q + 1)) : (f k).h.get b = (f (q + 1)).h.get b :=
 same_upto R hk1 fun j y hj1 hj2 hj => by
  have hlj : b < (f j).h.next := Nat.lt_of_lt_of_le h2 (nx_mono R hj1)
  cases hb : y.2 with
  | false => exact step_nonbar R hj hb hlj
  | true => exact step_hid R hj hq (by omega) h1 h2 (not_waits R I hq hun hj (I.loud j y (by omega) hj (R.laid.bar hj hb)))
include hwait
theorem bar_content (hb : x.2 = true) {c b k : Nat} (hc : MadeAt f E c b) (hk : max m c ≤ k) (hkq : k ≤ q) : (f k).h.get b = (f (max m c)).h.get b :=
 same_upto R hk fun j y hj1 hj2 hj => by
  refine step_nonbar R hj ?_ (made_lt R hc (by omega))
  cases hy : y.2 with
  | false => rfl
  | true =>
   have := hwait j y hj (R.laid.barBefore (by omega) hj hq hb (R.laid.bar hj hy));exact absurd this (I.bar j y (by omega) hj hy)
include D
theorem classify {b : Nat} {o : O} (h : Cur f (fun p => E p ∨ p = q) (cond x.2 (q + 1) m) b o) :
  (h1.get b = some o ∧ b < (f (q + 1)).h.next ∧ (x.2 = true ∨ (f q).h.next ≤ b)) ∨ (Cur f E m b o ∧ (x.2 = true → hv.get b = none)) := by
 obtain ⟨c, hc, hg⟩ := h
 have hcase : (c = q + 1 ∧ (f q).h.next ≤ b ∧ b < (f (q + 1)).h.next) ∨ MadeAt f E c b := by
  rcases hc with ⟨h0, h1⟩ | ⟨p, h0, h1, h2, h3⟩
  ·exact .inr (.inl ⟨h0, h1⟩)
  ·rcases h1 with h1 | h1
   ·exact .inr (.inr ⟨p, h0, h1, h2, h3⟩)
   ·subst h1; exact .inl ⟨h0, h2, h3⟩
 rcases hcase with ⟨rfl, k1, k2⟩ | hm
 ·left;refine ⟨?_, k2, .inr k1⟩;refine D.newb b o k1 ?_
  cases hb : x.2 with
  | true => rw [hb] at hg; simpa using hg
  | false => rw [hb] at hg; simp only [cond_false] at hg; rw [← new_content R I hq hun k1 k2 (show q + 1 ≤ max m (q + 1) by omega) (Nat.le_refl _)]; exact hg
 ·cases hb : x.2 with
  | false =>
   rw [hb] at hg;exact .inr ⟨⟨c, hm, hg⟩, fun e => by cases e⟩
  | true =>
   rw [hb] at hg;simp only [cond_true] at hg;have hmq := bar_m R I hq hun hb;rcases Nat.lt_or_ge q c with hcq | hcq
   ·have hne : c ≠ q + 1 := fun e => by
     rcases hm with ⟨h0, _⟩ | ⟨p, h0, h1, _⟩
     ·omega
     ·have : p = q := by omega
      subst this; exact hun h1
    rw [show max (q + 1) c = c by omega] at hg;refine .inr ⟨⟨c, hm, by rw [show max m c = c by omega]; exact hg⟩, fun _ => ?_⟩
    cases hgv : hv.get b with
    | none => rfl
    | some o' =>
     have := view_lt R D hgv;rcases hm with ⟨h0, _⟩ | ⟨p, h0, _, h2, _⟩
     ·omega
     ·have := nx_mono R (show q ≤ p by omega); omega
   ·rw [show max (q + 1) c = q + 1 by omega] at hg;have hlt : b < (f q).h.next := made_lt R hm hcq;rcases D.oldb hb b o hlt hg with k | ⟨k1, k2⟩
    ·exact .inl ⟨k, Nat.lt_of_lt_of_le hlt (nx_mono R (Nat.le_succ q)), .inl rfl⟩
    ·refine .inr ⟨⟨c, hm, ?_⟩, fun _ => k1⟩;rw [← bar_content R I hq hun hwait hb hm (show max m c ≤ q by omega) (Nat.le_refl _)];exact k2
variable {ι2 : Inj} {w2 : World} (S : Step P (ι.upto (f q).h.next) hv w ι2 h1 w2)
include S
theorem join1 : Ext ι (ι.join ι2 (f q).h.next (f (q + 1)).h.next) := Inj.join_left fun b hb hc => by
 obtain ⟨c, hm⟩ := I.dom b hb;rcases hm with ⟨_, h1⟩ | ⟨p, _, h1, h2, h3⟩
 ·have := nx_mono R (Nat.zero_le q); omega
 ·rcases Nat.lt_trichotomy p q with h | h | h
  ·have := nx_mono R (show p + 1 ≤ q by omega); omega
  ·subst h; exact hun h1
  ·have := nx_mono R (show q + 1 ≤ p by omega); omega
theorem join2 : Ext ι2 (ι.join ι2 (f q).h.next (f (q + 1)).h.next) := Inj.join_right (fun b hb => by
 have hlt := S.hr.dom b hb;rw [D.next1] at hlt;rcases S.new b hb with h | h
 ·exact .inr (S.ext.at_ b h |> fun k => ⟨k.blk, k.sh, k.lim, k.caps, k.rest⟩)
 ·rw [D.next] at h; exact .inl ⟨h, hlt⟩) S.ext.env.symm
theorem untouched {b : Nat} {o : O} (h : Cur f E m b o) (hn : x.2 = true → hv.get b = none) (hgh : o.ghostly = false) : w2.heap[ι.blk b]? = w.heap[ι.blk b]? := by
 refine S.fr _ (I.blk b o h hgh) ?_;rintro ⟨b1, o1, k1, k2, k3, k4⟩;obtain ⟨c, h2, h3, h4⟩ := view_cur R I hq hun hwait D k1;have hlt := view_lt R D k1
 have hne : b1 ≠ b := fun e => by
  rcases D.floor with ⟨d1, d2⟩ | ⟨d1, d2, d3⟩
  ·have := k3.1; rw [d1] at this; omega
  ·have := hn d1; rw [← e, k1] at this; cases this
 exact I.inj b1 b o1 o ⟨c, h2, h4⟩ h k2 hgh hne k4
theorem seen_old {b : Nat} {o : O} (h : h1.get b = some o) (hb : b < (f q).h.next) : ∃ o0, hv.get b = some o0 ∧ o.real = o0.real ∧ o.ghostly = o0.ghostly ∧ Cur f E m b o0 := by
 obtain ⟨o0, k1, k2, k3⟩ := S.old b o (by rw [D.next]; exact hb) h;obtain ⟨c, h2, h3, h4⟩ := view_cur R I hq hun hwait D k1;exact ⟨o0, k1, k2, k3, c, h2, h4⟩
theorem wr_back (hfl : (f 0).h.floor ≤ (f 0).h.next) {b : Nat} {o : O} (h : h1.get b = some o) (hx : x.2 = true ∨ (f q).h.next ≤ b) (hr : o.real = true) (hb : (f q).h.next ≤ b ∨ ((f 0).h.floor ≤ b ∧ hidden (f 0).h.frz b = false)) (hs : ι2.blk b < w.heap.size) :
  ∃ b1 o1, hv.get b1 = some o1 ∧ o1.real = true ∧ ((f 0).h.floor ≤ b1 ∧ hidden (f 0).h.frz b1 = false) ∧ ι.blk b1 = ι2.blk b ∧ Cur f E m b1 o1 ∧ x.2 = true := by
 have hflq : (f q).h.floor = (f 0).h.floor := (R.low 0 q (Nat.zero_le _)).floor;have hfzq : (f q).h.frz = (f 0).h.frz := (R.low 0 q (Nat.zero_le _)).frz;have hn0 := nx_mono R (Nat.zero_le q);rcases Nat.lt_or_ge b (f q).h.next with hlt | hge
 ·have hx : x.2 = true := hx.resolve_right (by omega);obtain ⟨o0, k1, k2, k3, k4⟩ := seen_old R I hq hun hwait D S h hlt;have hd : (ι.upto (f q).h.next).dom b := ⟨(I.obj b o0 k4).1, hlt⟩;exact ⟨b, o0, k1, by rw [← k2]; exact hr, hb.resolve_left (by omega), (S.ext.at_ b hd).blk.symm, k4, hx⟩
 ·have hw : Wr ι2 h1 (ι2.blk b) := by
   refine ⟨b, o, h, hr, ⟨?_, ?_⟩, rfl⟩
   ·rw [S.floor];rcases D.floor with ⟨d1, d2⟩ | ⟨d1, d2, d3⟩
    ·rw [d1]; exact hge
    ·rw [d2, hflq]; omega
   ·rw [S.frz]; exact D.frz b hge
  obtain ⟨b1, o1, k1, k2, k3, k4⟩ := S.wr _ hs hw;obtain ⟨c, h2, h3, h4⟩ := view_cur R I hq hun hwait D k1;have hlt := view_lt R D k1;rcases D.floor with ⟨d1, d2⟩ | ⟨d1, d2, d3⟩
  ·have := k3.1; rw [d1] at this; omega
  ·exact ⟨b1, o1, k1, k2, ⟨by have := k3.1; rw [d2, hflq] at this; exact this, by rw [← hfzq]; exact d3 b1 k3.2⟩, k4, ⟨c, h2, h4⟩, d1⟩
theorem apart_old (hfl : (f 0).h.floor ≤ (f 0).h.next) {b b' : Nat} {o o' : O} (h : h1.get b = some o) (hx : x.2 = true ∨ (f q).h.next ≤ b) (h' : Cur f E m b' o') (hn : x.2 = true → hv.get b' = none) (hf : (o.real = true ∧ o'.ghostly = false) ∨ (o'.real = true ∧ o.ghostly = false)) (hne : b ≠ b') : ι2.blk b ≠ ι.blk b' := by
 have hdom := (S.hr.obj b o h).1;rcases Nat.lt_or_ge b (f q).h.next with hlt | hge
 ·have hb : x.2 = true := hx.resolve_right (by omega);obtain ⟨o0, k1, k2, k3, k4⟩ := seen_old R I hq hun hwait D S h hlt;have hd : (ι.upto (f q).h.next).dom b := ⟨(I.obj b o0 k4).1, hlt⟩;rw [(S.ext.at_ b hd).blk];show ι.blk b ≠ ι.blk b';rcases hf with ⟨f1, f2⟩ | ⟨f1, f2⟩
  ·exact I.inj b b' o0 o' k4 h' (by rw [← k2]; exact f1) f2 hne
  ·exact fun e => I.inj b' b o' o0 h' k4 f1 (by rw [← k3]; exact f2) (Ne.symm hne) e.symm
 ·intro e;have hfr := S.fresh b o (by rw [D.next]; exact hge) h
  have hog : o'.ghostly = false := by
   rcases hf with ⟨_, f2⟩ | ⟨f1, _⟩
   ·exact f2
   ·exact O.real_not f1
  have hlt9 := I.blk b' o' h' hog
  have hreal : o.real = true ∧ o'.ghostly = false := by
   rcases hf with hf | ⟨f1, f2⟩
   ·exact hf
   ·rcases hfr with q | q | q
    ·exact ⟨q, O.real_not f1⟩
    ·rw [f2] at q; simp at q
    ·rw [e] at q; omega
  have hlt' := I.blk b' o' h' hreal.2;have hn0 := nx_mono R (Nat.zero_le q);obtain ⟨b1, o1, k1, k2, k3, k4, k5, k6⟩ := wr_back R I hq hun hwait D S hfl h (.inr hge) hreal.1 (.inl hge) (by rw [e]; exact hlt');have hne1 : b1 ≠ b' := fun q => by have := hn k6; rw [← q, k1] at this; cases this
  exact I.inj b1 b' o1 o' k5 h' k2 hreal.2 hne1 (k4.trans e)
theorem inv_step (hnt : nt ≤ 1024) (hfl : (f 0).h.floor ≤ (f 0).h.next) {u : Value} (hvu : VR ι2 v u) :
  Inv P nt L f ι0 w0 (fun p => E p ∨ p = q) (cond x.2 (q + 1) m) (ι.join ι2 (f q).h.next (f (q + 1)).h.next) (a.put x.1.o.dst u) w2 := by
 have J1 := join1 R I hq hun hwait D S;have J2 := join2 R I hq hun hwait D S;have hqN : q < L.length := (gEi.1 hq).1;have C := @classify P call nt ops L f R ι0 ι w0 w E m a I q x hq hun hwait hv h1 v D;have hn0 := nx_mono R (Nat.zero_le q);have B1 : ∀ {b o}, h1.get b = some o → (ι.join ι2 (f q).h.next (f (q + 1)).h.next).blk b = ι2.blk b := fun {b o} hg => (J2.at_ b (S.hr.obj b o hg).1).blk
 have B2 : ∀ {b o}, Cur f E m b o → (ι.join ι2 (f q).h.next (f (q + 1)).h.next).blk b = ι.blk b := fun {b o} hg => (J1.at_ b (I.obj b o hg).1).blk
 have dst : ∀ d, x.1.o.dst ≠ some d → (a.put x.1.o.dst u).tmps.getD d undef = a.tmps.getD d undef := fun d hd => by
  cases hx : x.1.o.dst with
  | none => rfl
  | some d' =>
   have : d' ≠ d := fun e => hd (by rw [hx, e])
   simp only [Act.put];rw [Array.getD_eq_getD_getElem?, Array.getElem?_setIfInBounds_ne this, ← Array.getD_eq_getD_getElem?]
 refine ⟨?_, ?_, ?_, ?_, ?_, I.ext.trans J1, ?_, ?_, ?_, ?_, ?_, Nat.le_trans I.size S.size, S.os.trans I.os, S.tape.trans I.tape, S.output.trans I.output, ?_, ?_, ?_, ?_, ?_, ?_, ?_, by rw [put_defers]; exact I.defers, by rw [put_size]; exact I.tmps, I.kn⟩
 ·rintro p (h | rfl)
  ·exact I.lt p h
  ·exact hqN
 ·rintro p y r z (h | rfl) hy hz hb
  ·exact .inl (I.cl p y r z h hy hz hb)
  ·rw [hq] at hy; cases hy;exact .inl (hwait r z hz hb)
 ·intro p y hp hy hl
  cases hb : x.2 with
  | false => rw [hb] at hp; exact .inl (I.loud p y hp hy hl)
  | true =>
   rw [hb] at hp;simp only [cond_true] at hp;rcases Nat.lt_or_ge p q with h | h
   ·exact .inl (hwait p y hy (R.laid.barBefore h hy hq hb hl))
   ·exact .inr (by omega)
 ·rintro p y hp hy hb' (h | rfl)
  ·cases hb : x.2 with
   | false => rw [hb] at hp; exact I.bar p y hp hy hb' h
   | true =>
    rw [hb] at hp;simp only [cond_true] at hp;exact I.bar p y (by have := bar_m R I hq hun hb; omega) hy hb' h
  ·rw [hq] at hy; cases hy;rw [hb'] at hp;simp only [cond_true] at hp;omega
 ·cases x.2 with
  | false => exact I.mN
  | true => exact hqN
 ·rintro b (h | h)
  ·obtain ⟨c, hc⟩ := I.dom b h;refine ⟨c, ?_⟩;rcases hc with hc | ⟨p, k1, k2, k3⟩
   ·exact .inl hc
   ·exact .inr ⟨p, k1, .inl k2, k3⟩
  ·have hlt := S.hr.dom b h;rw [D.next1] at hlt;rcases S.new b h with h | h
   ·obtain ⟨c, hc⟩ := I.dom b h.1;refine ⟨c, ?_⟩;rcases hc with hc | ⟨p, k1, k2, k3⟩
    ·exact .inl hc
    ·exact .inr ⟨p, k1, .inl k2, k3⟩
   ·rw [D.next] at h; exact ⟨q + 1, .inr ⟨q, rfl, .inr rfl, h, hlt⟩⟩
 ·intro b o h;rcases C h with ⟨k1, k2, k3⟩ | ⟨k1, k2⟩
  ·obtain ⟨g1, g2⟩ := S.hr.obj b o k1;exact ⟨.inr g1, ORel.ext J2 g1 rfl g2⟩
  ·obtain ⟨g1, g2⟩ := I.obj b o k1;exact ⟨.inl g1, ORel.ext J1 g1 rfl (g2.keep fun e => untouched R I hq hun hwait D S k1 k2 e)⟩
 ·intro c b o k hc hk1 hk2 hg;have hd2 : ∀ b, ι2.dom b → b < (f (q + 1)).h.next := fun b hb => by rw [← D.next1]; exact S.hr.dom b hb
  have fresh : h1.get b = some o → q + 1 ≤ k → o.below (f k).h.next := fun h hk => O.below.mono (nx_mono R hk) (ORel.below hd2 (S.hr.obj b o h).2)
  have hcase : (c = q + 1 ∧ (f q).h.next ≤ b ∧ b < (f (q + 1)).h.next) ∨ MadeAt f E c b := by
   rcases hc with ⟨h0, h1⟩ | ⟨p, h0, h1, h2, h3⟩
   ·exact .inr (.inl ⟨h0, h1⟩)
   ·rcases h1 with h1 | h1
    ·exact .inr (.inr ⟨p, h0, h1, h2, h3⟩)
    ·subst h1; exact .inl ⟨h0, h2, h3⟩
  rcases hcase with ⟨rfl, k1, k2⟩ | hm
  ·refine fresh (D.newb b o k1 ?_) hk1
   cases hb : x.2 with
   | true =>
    rw [hb] at hk2;have : k = q + 1 := by simp at hk2; omega
    rw [← this]; exact hg
   | false =>
    rw [hb] at hk2;rw [← new_content R I hq hun k1 k2 hk1 hk2]; exact hg
  ·cases hb : x.2 with
   | false => rw [hb] at hk2; exact I.bel c b o k hm hk1 hk2 hg
   | true =>
    rw [hb] at hk2;simp only [cond_true] at hk2;have hmq := bar_m R I hq hun hb;rcases Nat.lt_or_ge (max m c) k with h | h
    ·have hcq : c ≤ q := by omega
     have low : ∀ o, (f q).h.get b = some o → o.below (f q).h.next := fun o hg => by
      rw [bar_content R I hq hun hwait hb hm (show max m c ≤ q by omega) (Nat.le_refl _)] at hg;exact O.below.mono (nx_mono R (show max m c ≤ q by omega)) (I.bel c b o (max m c) hm (by omega) (Nat.le_refl _) hg)
     rcases Nat.lt_or_ge q k with hkq | hkq
     ·have : k = q + 1 := by omega
      subst this;rcases D.oldb hb b o (made_lt R hm hcq) hg with g | ⟨g1, g2⟩
      ·exact fresh g (Nat.le_refl _)
      ·exact O.below.mono (nx_mono R (Nat.le_succ q)) (low o g2)
     ·rw [bar_content R I hq hun hwait hb hm (show max m c ≤ k by omega) hkq] at hg;exact O.below.mono (nx_mono R (show max m c ≤ k by omega)) (I.bel c b o (max m c) hm (by omega) (Nat.le_refl _) hg)
    ·exact I.bel c b o k hm hk1 h hg
 ·intro b b' o o' h h' hr hgh hne;rcases C h with ⟨k1, k2, k3⟩ | ⟨k1, k2⟩ <;> rcases C h' with ⟨l1, l2, l3⟩ | ⟨l1, l2⟩
  ·rw [B1 k1, B1 l1]; exact S.hr.inj b b' o o' k1 l1 hr hgh hne
  ·rw [B1 k1, B2 l1]; exact apart_old R I hq hun hwait D S hfl k1 k3 l1 l2 (.inl ⟨hr, hgh⟩) hne
  ·rw [B2 k1, B1 l1]; exact fun e => apart_old R I hq hun hwait D S hfl l1 l3 k1 k2 (.inr ⟨hr, hgh⟩) (Ne.symm hne) e.symm
  ·rw [B2 k1, B2 l1]; exact I.inj b b' o o' k1 l1 hr hgh hne
 ·intro b o h hgh;rcases C h with ⟨k1, k2, k3⟩ | ⟨k1, k2⟩
  ·rw [B1 k1]; exact S.hr.lt b o k1 hgh
  ·rw [B2 k1]; exact Nat.lt_of_lt_of_le (I.blk b o k1 hgh) S.size
 ·intro b o h hr hf hs;rcases C h with ⟨k1, k2, k3⟩ | ⟨k1, k2⟩
  ·rw [B1 k1] at hs ⊢;obtain ⟨b1, o1, g1, g2, g3, g4, g5, _⟩ := wr_back R I hq hun hwait D S hfl k1 k3 hr (.inr hf) (Nat.lt_of_lt_of_le hs I.size);rw [← g4] at hs ⊢;exact I.wr b1 o1 g5 g2 g3 hs
  ·rw [B2 k1] at hs ⊢;exact I.wr b o k1 hr hf hs
 ·intro c hc hw;rw [S.fr c (Nat.lt_of_lt_of_le hc I.size) ?_]
  ·exact I.fr c hc hw
  ·rintro ⟨b1, o1, k1, k2, k3, k4⟩;obtain ⟨c', h2, h3, h4⟩ := view_cur R I hq hun hwait D k1;have hlt := view_lt R D k1;rcases D.floor with ⟨d1, d2⟩ | ⟨d1, d2, d3⟩
   ·have := k3.1; rw [d1] at this; omega
   ·have hfzq : (f q).h.frz = (f 0).h.frz := (R.low 0 q (Nat.zero_le _)).frz;have hflq : (f q).h.floor = (f 0).h.floor := (R.low 0 q (Nat.zero_le _)).floor;have k4 : ι.blk b1 = c := k4;refine hw ?_;rw [← k4];exact I.wr b1 o1 ⟨c', h2, h4⟩ k2 ⟨by have := k3.1; rw [d2, hflq] at this; exact this, by rw [← hfzq]; exact d3 b1 k3.2⟩ (by rw [k4]; exact hc)
 ·intro b o h hb;rcases C h with ⟨k1, k2, k3⟩ | ⟨k1, k2⟩
  ·obtain ⟨o0, g1, g2, g3, g4⟩ := seen_old R I hq hun hwait D S k1 (by omega);obtain ⟨o1, l1, l2, l3⟩ := I.old b o0 g4 hb;exact ⟨o1, l1, g2.trans l2, g3.trans l3⟩
  ·exact I.old b o k1 hb
 ·intro b o h hb;rcases C h with ⟨k1, k2, k3⟩ | ⟨k1, k2⟩
  ·rcases Nat.lt_or_ge b (f q).h.next with hlt | hge
   ·obtain ⟨o0, g1, g2, g3, g4⟩ := seen_old R I hq hun hwait D S k1 hlt;have hd : (ι.upto (f q).h.next).dom b := ⟨(I.obj b o0 g4).1, hlt⟩;rw [g2, g3, B1 k1, (S.ext.at_ b hd).blk]; exact I.fresh b o0 g4 hb
   ·rw [B1 k1]; exact (S.fresh b o (by rw [D.next]; exact hge) k1).imp id fun q => q.imp id fun q => Nat.le_trans I.size q
  ·rw [B2 k1]; exact I.fresh b o k1 hb
 ·rintro b (h | h)
  ·exact I.new b h
  ·rcases S.new b h with h | h
   ·exact I.new b h.1
   ·rw [D.next] at h; exact .inr (by omega)
 ·rintro p y d v' (h | rfl) hy hd hv'
  ·have hpq : q ≠ p := fun e => hun (e ▸ h)
   obtain ⟨k1, k2⟩ := I.slot1 p y d v' h hy hd hv';rw [dst d fun e => (idx_ne R hpq hq hy).2 d e hd];exact ⟨k1.ext J1, k2⟩
  ·rw [hq] at hy; cases hy;rw [putT_get hnt D.put, if_pos hd] at hv';cases hv'
   have hlt : d < nt := by
    have := D.put;unfold putT at this;rw [hd] at this;simp only [Bool.cond_eq_ite] at this;split at this
    ·rename_i hb; rw [Nat.blt_eq] at hb; exact hb
    ·simp at this
   refine ⟨?_, VR.below (fun b hb => by rw [← D.next1]; exact S.hr.dom b hb) hvu⟩;rw [hd];simp only [Act.put];rw [Array.getD_eq_getD_getElem?, Array.getElem?_setIfInBounds_self, if_pos (by rw [I.tmps]; exact hlt)];exact hvu.ext J2
 ·intro d v' h hv';obtain ⟨k1, k2⟩ := I.slot0 d v' (fun p y hp hy => h p y (.inl hp) hy) hv';rw [dst d (h q x (.inr rfl) hq)];exact ⟨k1.ext J1, k2⟩
end
end Go.Ai
namespace Go.Ai
section
variable {P : Program} {call : CallF} {nt : Nat} {ops : Array Oper} {L : List (It × Bool)} {f : Nat → St} (R : Ran P call nt ops L f) (hnt : nt ≤ 1024) (hc : CallOk P call) (hfl : (f 0).h.floor ≤ (f 0).h.next)
variable {ι0 : Inj} {w0 : World} {T0 : Sl} {a0 : Act} (K0 : Rel P ι0 T0 (f 0).h nt a0 w0) (hT : (f 0).t = T0)
def Listed (L : List (It × Bool)) (listed : Array Bool) (p : Nat) : Prop := ∃ x, L[p]? = some x ∧ listed.getD x.1.i false = true
include R K0 hT in
theorem inv_start : Inv P nt L f ι0 w0 (fun _ => False) 0 ι0 a0 w0 := by
 have made : ∀ {c b}, MadeAt f (fun _ => False) c b → c = 0 ∧ b < (f 0).h.next := fun {c b} h => by
  rcases h with h | ⟨_, _, h, _⟩
  ·exact h
  ·cases h
 have cur : ∀ {b o}, Cur f (fun _ => False) 0 b o → (f 0).h.get b = some o := fun {b o} ⟨c, h1, h2⟩ => by
  obtain ⟨rfl, _⟩ := made h1; exact h2
 refine ⟨fun _ h => h.elim, fun _ _ _ _ h => h.elim, fun p _ h => absurd h (Nat.not_lt_zero p), fun _ _ _ _ _ h => h, Nat.zero_le _, .refl _, fun b hb => ⟨0, .inl ⟨rfl, K0.hr.dom b hb⟩⟩, fun b o h => K0.hr.obj b o (cur h), ?_, fun b b' o o' h h' => K0.hr.inj b b' o o' (cur h) (cur h'), fun b o h => K0.hr.lt b o (cur h),
  Nat.le_refl _, rfl, rfl, rfl, ?_, fun _ _ _ => rfl, fun b o h _ => ⟨o, cur h, rfl, rfl⟩, ?_, fun b hb => .inl hb, fun _ _ _ _ h => h.elim, ?_, K0.defers, K0.size, K0.hr.kn⟩
 ·intro c b o k hm h1 h2 hg;obtain ⟨rfl, _⟩ := made hm;have : k = 0 := by simpa using h2
  subst this;exact ORel.below K0.hr.dom (K0.hr.obj b o hg).2
 ·intro b o h hr hf _;exact ⟨b, o, cur h, hr, hf, rfl⟩
 ·intro b o h hb;exact absurd (K0.hr.dom b (K0.hr.obj b o (cur h)).1) (by omega)
 ·intro d v _ hv;rw [hT] at hv;exact ⟨K0.tr d v hv, VR.below K0.hr.dom (K0.tr d v hv)⟩
include R hnt in
theorem inv_end {ι : Inj} {w : World} {E : Nat → Prop} {m : Nat} {a : Act} (I : Inv P nt L f ι0 w0 E m ι a w) (hE : ∀ p, p < L.length → E p) (hn : Neat (f 0).h) :
  Rel P ι (f L.length).t (f L.length).h nt a w ∧ Step P ι0 (f 0).h w0 ι (f L.length).h w := by
 have hlow := R.low 0 L.length (Nat.zero_le _)
 have made : ∀ b, b < (f L.length).h.next → ∃ c, MadeAt f E c b ∧ c ≤ L.length := fun b hb => by
  rcases find_made R hb with h | ⟨p, h0, h1, h2⟩
  ·exact ⟨0, .inl ⟨rfl, h⟩, Nat.zero_le _⟩
  ·exact ⟨p + 1, .inr ⟨p, rfl, hE p h0, h1, h2⟩, h0⟩
 have cur : ∀ {b o}, (f L.length).h.get b = some o → Cur f E m b o := fun {b o} hg => by
  obtain ⟨c, h1, h2⟩ := made b ((R.neat _).get hg);refine ⟨c, h1, ?_⟩;have := I.mN;rw [← same_upto R (show max m c ≤ L.length by omega) fun j y hj1 hj2 hj => ?_]
  ·exact hg
  ·refine step_nonbar R hj ?_ (made_lt R h1 (by omega))
   cases hb : y.2 with
   | false => rfl
   | true => exact absurd (hE j hj2) (I.bar j y (by omega) hj hb)
 have hr : HR P ι (f L.length).h w := by
  refine ⟨fun b hb => ?_, fun b o hg => I.obj b o (cur hg), fun b b' o o' hg hg' => I.inj b b' o o' (cur hg) (cur hg'), fun b hb => (R.neat _).hid b hb, fun b o hg => I.blk b o (cur hg), fun b hb => (R.neat _).frz b hb, by
   have e : (f L.length).h.kn = (f 0).h.kn := (R.low 0 _ (Nat.zero_le _)).kn
   rw [e, I.ext.env]; exact I.kn⟩
  obtain ⟨c, hm⟩ := I.dom b hb;rcases hm with ⟨_, h1⟩ | ⟨p, _, h1, _, h2⟩
  ·exact Nat.lt_of_lt_of_le h1 (nx_mono R (Nat.zero_le _))
  ·exact Nat.lt_of_lt_of_le h2 (nx_mono R (I.lt p h1))
 refine ⟨⟨hr, fun d v hv => ?_, I.defers, I.tmps⟩, ⟨I.ext, hr, I.size, I.os, I.tape, I.output, hlow.floor, hlow.hid, hlow.next, I.new, fun b o hb hg => I.old b o (cur hg) hb, fun b o hb hg => I.fresh b o (cur hg) hb, ?_, I.fr, hlow.frz, hlow.kn⟩⟩
 ·by_cases hex : ∃ (p : Nat) (y : It × Bool), L[p]? = some y ∧ y.1.o.dst = some d
  ·obtain ⟨p, y, hp, hy⟩ := hex;have hpN : p < L.length := (gEi.1 hp).1;rw [slot_same R hnt (show p + 1 ≤ L.length by omega) fun j z h2 h3 hj => (idx_ne R (show p ≠ j by omega) hp hj).2 d hy] at hv;exact (I.slot1 p y d v (hE p hpN) hp hy hv).1
  ·rw [slot_same R hnt (Nat.zero_le _) fun j z _ _ hj e => hex ⟨j, z, hj, e⟩] at hv;exact (I.slot0 d v (fun j z _ hj e => hex ⟨j, z, hj, e⟩) hv).1
 ·rintro c hc ⟨b, o, hg, hr', hf, e⟩;have e : ι.blk b = c := e;rw [← e] at hc ⊢;exact I.wr b o (cur hg) hr' (by rw [hlow.floor, hlow.frz] at hf; exact hf) hc
theorem wantB_congr {all : List Oper} {T0 T1 : Sl} {o : Oper} (h : ∀ d ∈ o.looksAt all.toArray, T1.get d = T0.get d) : wantB all T1 o = wantB all T0 o := by
 unfold wantB;split
 ·rfl
 ·rename_i j want hg;split
  ·rename_i g hj;split
   ·rename_i d hd;rw [h d (by unfold Oper.looksAt; rw [hg]; simp [hj, hd])]
   ·rfl
  ·rfl
include R hnt hc hfl in
theorem step_wp {ι : Inj} {w : World} {E : Nat → Prop} {m : Nat} {a : Act} (I : Inv P nt L f ι0 w0 E m ι a w) {q : Nat} {x : It × Bool} (hq : L[q]? = some x) (hun : ¬ E q) (hwait : ∀ r y, L[r]? = some y → Nat.testBit x.1.m y.1.i = true → E r)
  {Q : Exit → Act → World → Prop} {next : Act → World → Prop} (K : ∀ m' ι' a' w', Inv P nt L f ι0 w0 (fun p => E p ∨ p = q) m' ι' a' w' → next a' w') : wpOp P ops Q x.1.i next a w := by
 obtain ⟨hv, h1, v, D⟩ := R.did hq;have hHR := view_hr R I hq hun hwait D
 have hkT : TR (ι.upto (f q).h.next) (keepL (f q).t (x.1.o.looksAt ops)) a.tmps := fun d u hu => by
  rw [keepL_get] at hu;split at hu
  ·rename_i hd; exact view_slots R I hq hun hwait hnt hd hu
  ·cases hu
 have hev : ∀ y ∈ x.1.o.op.operands, ev (keepL (f q).t (x.1.o.looksAt ops)) y = ev (f q).t y := fun y hy => by
  cases y with
  | tmp t =>
   show (keepL _ _).get t = (f q).t.get t;rw [keepL_get, if_pos];exact List.mem_append_left _ (List.mem_filterMap.2 ⟨.tmp t, by simpa using hy, rfl⟩)
  | const c => rfl
  | global g => rfl
  | func g => rfl
 have hwt : wantB ops.toList (keepL (f q).t (x.1.o.looksAt ops)) x.1.o = wantB ops.toList (f q).t x.1.o := wantB_congr fun d hd => by
  rw [keepL_get, if_pos (by simpa using hd)]
 unfold wpOp;rw [R.laid.op hq];simp only;rcases D.one with ⟨d1, d2, d3⟩ | ⟨d1, d2⟩
 ·rw [← hwt] at d1;rw [wantB_rel hkT d1];simp only [Bool.false_eq_true, if_false];subst d3;subst d2;exact K _ _ _ _ (inv_step R I hq hun hwait D (Step.refl hHR) hnt hfl VR.undef_)
 ·rw [← hwt] at d1;rw [wantB_rel hkT d1];simp only [if_true]
  have d2 : execW P call (keepL (f q).t (x.1.o.looksAt ops)) hv x.1.o = some (v, h1) := by
   unfold execW at d2 ⊢;rw [execO_congr hev]; exact d2
  exact .inl (execW_wp hc d2 hHR hkT fun ι' v' w' hvv hs => K _ _ _ _ (inv_step R I hq hun hwait D hs hnt hfl hvv))
include R in
theorem all_listed {listed : Array Bool} (hsz : listed.size = ops.size) (hr : Region.ready .any ops listed = []) : ∀ p, p < L.length → Listed L listed p := by
 intro p
 induction p using Nat.strongRecOn with
 | _ p ih =>
  intro hp;have hx : L[p]? = some L[p] := List.getElem?_eq_getElem hp;refine ⟨_, hx, ?_⟩
  cases hb : listed.getD L[p].1.i false with
  | true => rfl
  | false =>
   have hop := R.laid.op hx
   have hbits : ∀ e ∈ L[p].1.o.after, Region.binds .any e = true → listed.getD e.on false = true := fun e he hbi => by
    obtain ⟨r, y, h1, h2, h3⟩ := R.laid.seen hx (R.laid.edge hx e he hbi);obtain ⟨z, h4, h5⟩ := ih r h1 (by omega);rw [h2] at h4; cases h4;rw [← h3]; exact h5
   have hlt : L[p].1.i < listed.size := by rw [hsz]; exact (Array.getElem?_eq_some_iff.1 hop).1
   have ht : listed.getD L[p].1.i true = false := by
    simp only [Array.getD_eq_getD_getElem?, Array.getElem?_eq_getElem hlt, Option.getD_some] at hb ⊢;exact hb
   have : L[p].1.i ∈ Region.ready .any ops listed := mem_ready.2 ⟨ht, _, hop, hbits⟩;rw [hr] at this; cases this
omit R in
theorem getD_size {listed : Array Bool} {i : Nat} (h : listed.getD i true = false) : i < listed.size := by
 rcases Nat.lt_or_ge i listed.size with q | q
 ·exact q
 ·simp [Array.getD_eq_getD_getElem?, Array.getElem?_eq_none q] at h
omit R in
theorem count_less {listed : Array Bool} {i n : Nat} (h : listed.getD i true = false) (hn : listed.toList.count false = n + 1) : (listed.setIfInBounds i true).toList.count false = n := by
 have hlt := getD_size h;have hlt' : i < listed.toList.length := by simpa using hlt
 have hg : listed.toList[i] = false := by
  simp only [Array.getD_eq_getD_getElem?, Array.getElem?_eq_getElem hlt, Option.getD_some] at h;simpa using h
 rw [Array.toList_setIfInBounds, List.count_set hlt', hg, hn];simp
include R hnt hc hfl in
theorem any_wp (hn : Neat (f 0).h) {Q : Exit → Act → World → Prop} (K : ∀ ι' a' w', Rel P ι' (f L.length).t (f L.length).h nt a' w' → Step P ι0 (f 0).h w0 ι' (f L.length).h w' → Q .normal a' w') :
  ∀ (fuel : Nat) {listed : Array Bool} {m : Nat} {ι : Inj} {a : Act} {w : World}, listed.size = ops.size → listed.toList.count false = fuel → Closed ops (fun j => listed.getD j false = true) → Inv P nt L f ι0 w0 (Listed L listed) m ι a w → wpAny P .any ops Q fuel listed a w
 | 0, listed, m, ι, a, w, hsz, hct, hcl, I => by
  have hr : Region.ready .any ops listed = [] := by
   cases hr : Region.ready .any ops listed with
   | nil => rfl
   | cons j l =>
    have hj : j ∈ Region.ready .any ops listed := by rw [hr]; simp
    have h0 := (mem_ready.1 hj).1;have hlt := getD_size h0;rw [List.count_eq_zero] at hct;refine absurd (List.mem_iff_getElem.2 ⟨j, by simpa using hlt, ?_⟩) hct;simp only [Array.getD_eq_getD_getElem?, Array.getElem?_eq_getElem hlt, Option.getD_some] at h0;simpa using h0
  obtain ⟨h1, h2⟩ := inv_end R hnt I (all_listed R hsz hr) hn;exact ⟨hr, K _ _ _ h1 h2⟩
 | fuel + 1, listed, m, ι, a, w, hsz, hct, hcl, I => by
  refine ⟨fun hr => ?_, fun i hi => ?_⟩
  ·obtain ⟨h1, h2⟩ := inv_end R hnt I (all_listed R hsz hr) hn;exact K _ _ _ h1 h2
  ·obtain ⟨h0, o, ho, hall⟩ := mem_ready.1 hi;obtain ⟨q, x, hq, rfl⟩ := R.laid.cover (Array.getElem?_eq_some_iff.1 ho).1;have hop := R.laid.op hq;rw [ho] at hop; cases hop;have hlt := getD_size h0
   have h0' : listed.getD x.1.i false = false := by
    simp only [Array.getD_eq_getD_getElem?, Array.getElem?_eq_getElem hlt, Option.getD_some] at h0 ⊢;exact h0
   have hun : ¬ Listed L listed q := fun ⟨y, hy, he⟩ => by
    rw [hq] at hy; cases hy;rw [h0'] at he; cases he
   have hwait : ∀ r y, L[r]? = some y → Nat.testBit x.1.m y.1.i = true → Listed L listed r := fun r y hr hb =>
    ⟨y, hr, R.laid.up hq (fun j => listed.getD j false = true) hcl hall _ hb⟩
   have hset : ∀ j, (listed.setIfInBounds x.1.i true).getD j false = true ↔ listed.getD j false = true ∨ j = x.1.i := fun j => by
    by_cases e : x.1.i = j
    ·subst e; simp [hlt]
    ·rw [getD_set_ne false e];exact ⟨.inl, fun h => h.resolve_right fun q => e q.symm⟩
   refine step_wp R hnt hc hfl I hq hun hwait fun m' ι' a' w' I' => ?_
   have hE : (fun p => Listed L listed p ∨ p = q) = Listed L (listed.setIfInBounds x.1.i true) := by
    funext p
    apply propext;constructor
    ·rintro (⟨y, hy, he⟩ | rfl)
     ·exact ⟨y, hy, (hset _).2 (.inl he)⟩
     ·exact ⟨x, hq, (hset _).2 (.inr rfl)⟩
    ·rintro ⟨y, hy, he⟩;rcases (hset _).1 he with h | h
     ·exact .inl ⟨y, hy, h⟩
     ·right;refine Decidable.byContradiction fun hne => (idx_ne R hne hy hq).1 h
   rw [hE] at I';refine any_wp hn K fuel (by simpa using hsz) (count_less h0 hct) (fun j o' hj hA e he hb => ?_) I';rcases (hset _).1 hA with h | h
   ·exact (hset _).2 (.inl (hcl j o' hj h e he hb))
   ·subst h;rw [ho] at hj; cases hj;exact (hset _).2 (.inl (hall e he hb))
end
theorem draw_ok {P : Program} {call : CallF} {nt : Nat} (hm : P.follows .mixedOrders = true) (hc : CallOk P call) (hl : CallLow call) (hnt : nt ≤ 1024) : DrawOk P call nt := by
 intro id ops T0 h T1 h1 ι a w Q hx K0 K;unfold drawR at hx;simp only [Bool.cond_eq_ite] at hx;split at hx
 ·rename_i L hL;split at hx
  ·rename_i hfl;split at hx
   ·rename_i s hs;cases hx;obtain ⟨f, R, hT, hH, hend⟩ := drawAll_ran hl K0.hr.neat (told_laid hL) hs;subst hend;subst hH;have K1 : Rel P ι T0 (f 0).h nt a { w with drawn := w.drawn + 1 } := ⟨K0.hr.drew _, K0.tr, K0.defers, K0.size⟩;have I := inv_start R K1 hT
    have hE : (fun _ => False) = Listed L (Array.replicate ops.size false) := by
     funext p
     apply propext;constructor
     ·exact fun h => h.elim
     ·rintro ⟨x, _, h⟩;rw [Array.getD_eq_getD_getElem?, Array.getElem?_replicate] at h;split at h <;> simp at h
    rw [hE] at I;refine wp_region_any hm (any_wp R hnt hc (by simpa using hfl) K0.hr.neat (fun ι' a' w' hr hs => K ι' a' w' hr hs.drew0) ops.size (by simp) (by simp) ?_ I);intro j o hj hA;simp only [Array.getD_eq_getD_getElem?, Array.getElem?_replicate] at hA;split at hA <;> simp at hA
   ·simp at hx
  ·simp at hx
 ·simp at hx
end Go.Ai
namespace Go.Ai
open Go.RowKit
def Kn.none : Kn := { call := fun _ _ => Option.none, facts := [], mx := [] }
theorem Kn.none_ok (P : Program) (env : Nat → Int) : KnOk P env Kn.none := ⟨fun _ _ _ h => (by cases h), fun _ h => (by cases h), fun _ h => (by cases h), fun _ h => (by cases h)⟩
def namesB (P : Program) : Bool := P.funcs.toList.all fun fn => !(fn.body.isSome && fn.name == "runtime.NumGoroutine")
theorem namesB_spec {P : Program} (h : namesB P = true) (f : FuncId) (fn : Func) (hf : P.funcs[f]? = some fn) (hb : fn.body.isSome = true) : (fn.name == "runtime.NumGoroutine") = false := by
 unfold namesB at h;rw [List.all_eq_true] at h;have := h fn (by rw [← Array.getElem?_toList] at hf; exact List.mem_of_getElem? hf);rw [hb] at this;simpa using this
noncomputable def H.rows (kn : Kn) (rows : List (List S)) : H := { tr := T.setMany .e 0 (rows.map fun xs => O.ro (T.setMany .e 0 xs) xs.length), next := rows.length, floor := 0, hid := [], frz := [], kn := kn }
theorem H.rows_get {kn : Kn} {rows : List (List S)} {b : Nat} {o : O} (h : (H.rows kn rows).get b = some o) : ∃ xs, rows[b]? = some xs ∧ o = .ro (T.setMany .e 0 xs) xs.length := by
 have h : (T.setMany .e 0 (rows.map fun xs => O.ro (T.setMany .e 0 xs) xs.length)).get b = some o := h;rw [T.get_row, List.getElem?_map] at h
 cases hr : rows[b]? with
 | none => rw [hr] at h; cases h
 | some xs => rw [hr] at h; simp only [Option.map_some, Option.some.injEq] at h; exact ⟨xs, rfl, h.symm⟩
theorem roAt_row {xs : List S} {n : Nat} (hn : n = xs.length := by rfl) : roAt (T.setMany .e 0 xs) n = none := by
 unfold roAt;rw [T.get_row, List.getElem?_eq_none (by omega)]
def RowsOk (ι : Inj) (w : World) (rows : List (List S)) : Prop := ∀ b xs, rows[b]? = some xs → ι.blk b < w.heap.size ∧ ∀ j x, xs[j]? = some x → ∃ v, w.cell? ⟨ι.blk b, ι.sh b + j, none⟩ = some v ∧ SR ι x v
end Go.Ai
