/-
LayoutWraps, part 14 of 48: AiDraw2 AiDraw3.
-/
import Derived.Test.YthacbaagffpkoaaLw13
set_option linter.unusedVariables false
set_option linter.unusedSimpArgs false
set_option linter.unusedSectionVars false
namespace Go.Ai
structure Neat (h : H) : Prop where
 top : ∀ b, h.next ≤ b → h.tr.get b = none
 hid : ∀ b, h.next ≤ b → hidden h.hid b = false
 frz : ∀ b, h.next ≤ b → hidden h.frz b = false
theorem Neat.get {h : H} (k : Neat h) {b : Nat} {o : O} (hg : h.get b = some o) : b < h.next := by
 rcases Nat.lt_or_ge b h.next with q | q
 ·exact q
 ·rw [k.top b q |> fun e => show h.get b = none by unfold H.get; rw [e]; cases hidden h.hid b <;> rfl] at hg; cases hg
theorem Neat.low {h h' : H} (k : Neat h) (l : Low h h') : Neat h' :=
 ⟨fun b hb => l.top b hb (k.top b (Nat.le_trans l.next hb)), fun b hb => by rw [l.hid]; exact k.hid b (Nat.le_trans l.next hb), fun b hb => by rw [l.frz]; exact k.frz b (Nat.le_trans l.next hb)⟩
theorem HR.neat {P : Program} {ι : Inj} {h : H} {w : World} (k : HR P ι h w) : Neat h := by
 refine ⟨fun b hb => ?_, k.hid, k.frz⟩
 cases hg : h.tr.get b with
 | none => rfl
 | some o => exact absurd (k.dom b (k.obj b o (H.get_of (k.hid b hb) hg)).1) (by omega)
theorem emptied_get (h : H) (b : Nat) : h.emptied.get b = none := T.get_e b
theorem unseen_hidden {m i lo hi b : Nat} : ∀ {l : List (Nat × Nat × Nat)}, (i, lo, hi) ∈ l → Nat.testBit m i = false → lo ≤ b → b < hi → hidden (unseen m l) b = true
 | [], h, _, _, _ => by cases h
 | (j, a, c) :: l, h, hm, h1, h2 => by
  simp only [List.mem_cons, Prod.mk.injEq] at h;unfold unseen;rcases h with ⟨rfl, rfl, rfl⟩ | h
  ·rw [hm];simp only [cond_false, hidden];have : (Nat.ble lo b && Nat.blt b hi) = true := by simp [h1, h2]
   simp [h1, h2]
  ·cases Nat.testBit m j with
   | true => exact unseen_hidden h hm h1 h2
   | false =>
    simp only [cond_false, hidden];rw [unseen_hidden h hm h1 h2, Bool.or_true]
theorem unseen_top {m n b : Nat} : ∀ {l : List (Nat × Nat × Nat)}, (∀ e ∈ l, e.2.2 ≤ n) → n ≤ b → hidden (unseen m l) b = false
 | [], _, _ => rfl
 | (j, a, c) :: l, h, hb => by
  have ih := unseen_top (m := m) (l := l) (fun e he => h e (by simp [he])) hb;have hc := h (j, a, c) (by simp);simp only at hc;unfold unseen
  cases Nat.testBit m j with
  | true => exact ih
  | false =>
   simp only [cond_false, hidden, ih, Bool.or_false]
   have : Nat.blt b c = false := by
    cases hb' : Nat.blt b c with
    | false => rfl
    | true => rw [Nat.blt_eq] at hb'; omega
   rw [this, Bool.and_false]
section
variable (P : Program) (call : CallF) (nt : Nat) (all : List Oper) (x : It) (bar : Bool) (s s' : St) (hv h1 : H) (v : V)
structure Did : Prop where
 one : (wantB all s.t x.o = some false ∧ v = .tup [] ∧ h1 = hv) ∨ (wantB all s.t x.o = some true ∧ execW P call s.t hv x.o = some (v, h1))
 put : putT nt s.t x.o.dst v = some s'.t
 next : hv.next = s.h.next
 next1 : h1.next = s'.h.next
 floor : (hv.floor = s.h.next ∧ (bar = true → ∀ b, hv.get b = none)) ∨ (bar = true ∧ hv.floor = s.h.floor ∧ ∀ b, hidden hv.frz b = false → hidden s.h.frz b = false)
 hid : ∀ b, s.h.next ≤ b → hidden hv.hid b = false
 sub : ∀ b o, hv.get b = some o → s.h.get b = some o
 seen : ∀ b o, hv.get b = some o → hidden (unseen x.m s.rg) b = false
 kind : ∀ b o, hv.get b = some o → x.c.isLoud = true ∨ (x.c.isLoad = true ∧ (x.i, b, b + 1) ∈ s'.ld)
 newb : ∀ b o, s.h.next ≤ b → s'.h.get b = some o → h1.get b = some o
 oldb : bar = true → ∀ b o, b < s.h.next → s'.h.get b = some o → h1.get b = some o ∨ (hv.get b = none ∧ s.h.get b = some o)
 nonbar : bar = false → ∀ b, b < s.h.next → s'.h.get b = s.h.get b
 hidb : ∀ b, b < s.h.next → hidden (unseen x.m s.ld ++ unseen x.m s.rg) b = true → s'.h.get b = s.h.get b
 rg : (s'.rg = s.rg ∧ s'.h.next = s.h.next) ∨ s'.rg = (x.i, s.h.next, s'.h.next) :: s.rg
 ld : s'.ld = s.ld ∨ ∃ b, b < s.h.next ∧ s'.ld = (x.i, b, b + 1) :: s.ld
 frz : ∀ b, s.h.next ≤ b → hidden hv.frz b = false
 kn : hv.kn = s.h.kn
end
section
variable {P : Program} {call : CallF} {nt : Nat} {all : List Oper} {x : It} {bar : Bool} {s s' : St}
theorem get_same {a b : H} (hh : a.hid = b.hid) {c : Nat} (ht : a.tr.get c = b.tr.get c) : a.get c = b.get c := by
 unfold H.get; rw [hh, ht]
theorem did_none (k : Neat s.h) {v : V} {h1 : H} {s1 : St} {x : It} (hone : (wantB all s.t x.o = some false ∧ v = .tup [] ∧ h1 = s.h.emptied) ∨ (wantB all s.t x.o = some true ∧ execW P call s.t s.h.emptied x.o = some (v, h1)))
  (hput : putT nt s.t x.o.dst v = some s1.t) (hn : h1.next = s1.h.next) (hnew : ∀ b o, s.h.next ≤ b → s1.h.get b = some o → h1.get b = some o) (hold : ∀ b, b < s.h.next → s1.h.get b = s.h.get b)
  (hrg : (s1.rg = s.rg ∧ s1.h.next = s.h.next) ∨ s1.rg = (x.i, s.h.next, s1.h.next) :: s.rg) (hld : s1.ld = s.ld) : ∃ hv h1 v, Did P call nt all x bar s s1 hv h1 v := by
 refine ⟨s.h.emptied, h1, v, hone, hput, rfl, hn, .inl ⟨rfl, fun _ b => emptied_get s.h b⟩, fun _ _ => rfl, ?_, ?_, ?_, hnew, fun _ b o hb hg => .inr ⟨emptied_get _ _, by rw [← hold b hb]; exact hg⟩, fun _ => hold, fun b hb _ => hold b hb, hrg, .inl hld, fun _ _ => rfl, rfl⟩
 all_goals (intro b o hg; rw [emptied_get] at hg; cases hg)
theorem itemStep_did (hl : CallLow call) (k : Neat s.h) (hrg : ∀ e ∈ s.rg, e.2.2 ≤ s.h.next) (hld : ∀ e ∈ s.ld, e.2.2 ≤ s.h.next) (hbar : bar = true → x.c.isLoud = true)
  (hx : itemStep P call nt all x bar s = some s') : ∃ hv h1 v, Did P call nt all x bar s s' hv h1 v := by
 unfold itemStep at hx;split at hx
 ·simp at hx
 ·rename_i hw;obtain ⟨T1, hp, rfl⟩ := putS_some hx;exact did_none k (v := .tup []) (h1 := s.h.emptied) (.inl ⟨hw, rfl, rfl⟩) hp rfl (fun b o hb hg => absurd (k.get hg) (by omega)) (fun _ _ => rfl) (.inl ⟨rfl, rfl⟩) rfl
 ·rename_i hw;unfold itemDo at hx;split at hx
  ·rename_i hc;unfold quietDo at hx;split at hx
   ·rename_i v h1 he;simp only [Bool.cond_eq_ite] at hx;split at hx
    ·rename_i hn;obtain ⟨T1, hp, rfl⟩ := putS_some hx;exact did_none k (v := v) (h1 := h1) (.inr ⟨hw, by unfold execW goR; rw [he]⟩) hp (Nat.eq_of_beq_eq_true hn) (fun b o hb hg => absurd (k.get hg) (by omega)) (fun _ _ => rfl) (.inl ⟨rfl, rfl⟩) rfl
    ·simp at hx
   ·simp at hx
  ·rename_i hc;unfold allocDo at hx;split at hx
   ·rename_i v h1 he;split at hx
    ·rename_i o hg;simp only [Bool.cond_eq_ite] at hx;split at hx
     ·rename_i hn;rw [H.allocK_eq] at hx;obtain ⟨T1, hp, rfl⟩ := putS_some hx;have hlow := execO_low he;have hhid : hidden h1.hid s.h.next = false := by rw [show h1.hid = [] from hlow.hid]; rfl
      refine did_none k (v := v) (h1 := h1) (.inr ⟨hw, by unfold execW goR; rw [he]⟩) hp (Nat.eq_of_beq_eq_true hn) (fun b o' hb hg' => ?_) (fun b hb => ?_) (.inr rfl) rfl
      ·have hg' : (s.h.alloc o).get b = some o' := hg';rw [H.get_alloc _ _ _ (k.hid _ (Nat.le_refl _))] at hg';split at hg'
       ·rename_i e; cases hg'; subst e; exact H.get_of hhid hg
       ·exact absurd (k.get hg') (by omega)
      ·show (s.h.alloc o).get b = s.h.get b;rw [H.get_alloc _ _ _ (k.hid _ (Nat.le_refl _)), if_neg (by omega)]
     ·simp at hx
    ·simp at hx
   ·simp at hx
  ·rename_i hc;unfold loadDo at hx;split at hx
   ·rename_i b hb;split at hx
    ·rename_i o hg;split at hx
     ·rename_i v h1 he;simp only [Bool.cond_eq_ite] at hx;split at hx
      ·rename_i hn;obtain ⟨T1, hp, rfl⟩ := putS_some hx;obtain ⟨hg1, hg2⟩ := H.get_some hg;have hg1 : hidden (unseen x.m s.rg ++ s.h.hid) b = false := hg1;rw [hidden_append] at hg1;simp only [Bool.or_eq_false_iff] at hg1;have hlt : b < s.h.next := k.get (H.get_of hg1.2 hg2);have hnb : ¬ bar = true := fun e => by have := hbar e; rw [hc] at this; cases this
       have only : ∀ c q, (s.h.only b o).get c = some q → c = b ∧ q = o := fun c q hq => by
        have : (T.set .e b o).get c = some q := hq;rw [T.get_set] at this;split at this
        ·rename_i e; cases this; exact ⟨e, rfl⟩
        ·rw [T.get_e] at this; cases this
       refine ⟨s.h.only b o, h1, v, .inr ⟨hw, by unfold execW goR; rw [he]⟩, hp, rfl, Nat.eq_of_beq_eq_true hn, .inl ⟨rfl, fun e => absurd e hnb⟩, fun _ _ => rfl, fun c q hq => ?_, fun c q hq => ?_, fun c q hq => ?_, fun c q hc hq => absurd (k.get hq) (by omega), fun e => absurd e hnb, fun _ _ _ => rfl, fun _ _ _ => rfl, .inl ⟨rfl, rfl⟩, .inr ⟨b, hlt, rfl⟩, fun _ _ => rfl, rfl⟩
       ·obtain ⟨rfl, rfl⟩ := only c q hq; exact H.get_of hg1.2 hg2
       ·obtain ⟨rfl, rfl⟩ := only c q hq; exact hg1.1
       ·obtain ⟨rfl, rfl⟩ := only c q hq; exact .inr ⟨by rw [hc]; rfl, by simp⟩
      ·simp at hx
     ·simp at hx
    ·simp at hx
   ·simp at hx
  ·rename_i hc;unfold loudDo at hx;split at hx
   ·rename_i v h1 he;obtain ⟨T1, hp, rfl⟩ := putS_some hx;have hlow := execW_low hl he;generalize hL : unseen x.m s.rg = L at *;generalize hZ : (cond bar (unseen x.m s.ld) []) = Z at *;generalize hF : (cond bar s.h.floor s.h.next) = F at *
    have hLt : ∀ b, s.h.next ≤ b → hidden (L ++ s.h.hid) b = false := fun b hb => by
     rw [hidden_append, k.hid b hb];subst hL;simp [unseen_top hrg hb]
    have hZt : ∀ b, s.h.next ≤ b → hidden (Z ++ s.h.frz) b = false := fun b hb => by
     rw [hidden_append, k.frz b hb];subst hZ
     cases bar with
     | false => rfl
     | true => simp [unseen_top hld hb]
    have hfh : h1.hid = L ++ s.h.hid := hlow.hid
    have sub : ∀ b o, (s.h.fenced L Z F).get b = some o → hidden L b = false ∧ s.h.get b = some o := fun b o hg => by
     obtain ⟨g1, g2⟩ := H.get_some hg;have g1 : hidden (L ++ s.h.hid) b = false := g1;rw [hidden_append, Bool.or_eq_false_iff] at g1;exact ⟨g1.1, H.get_of g1.2 g2⟩
    have back : ∀ b o, ({ tr := h1.tr, next := h1.next, floor := s.h.floor, hid := s.h.hid, frz := s.h.frz, kn := s.h.kn } : H).get b = some o → hidden L b = false → h1.get b = some o := fun b o hg hb => by
     obtain ⟨g1, g2⟩ := H.get_some hg;exact H.get_of (by rw [hfh, hidden_append, hb]; exact g1) g2
    have keepT : ∀ b, h1.tr.get b = s.h.tr.get b → ({ tr := h1.tr, next := h1.next, floor := s.h.floor, hid := s.h.hid, frz := s.h.frz, kn := s.h.kn } : H).get b = s.h.get b := fun b e => get_same (a := { tr := h1.tr, next := h1.next, floor := s.h.floor, hid := s.h.hid, frz := s.h.frz, kn := s.h.kn }) (b := s.h) rfl e
    have keepH : ∀ b, b < s.h.next → hidden L b = true → ({ tr := h1.tr, next := h1.next, floor := s.h.floor, hid := s.h.hid, frz := s.h.frz, kn := s.h.kn } : H).get b = s.h.get b := fun b hb hh =>
     keepT b (hlow.tr b hb (.inr (.inl (by show hidden (L ++ s.h.hid) b = true; rw [hidden_append, hh]; rfl))))
    refine ⟨s.h.fenced L Z F, h1, v, .inr ⟨hw, he⟩, hp, rfl, rfl, ?_, hLt, fun b o hg => (sub b o hg).2, fun b o hg => by rw [hL]; exact (sub b o hg).1, fun b o hg => .inl (by rw [hc]; rfl), fun b o hb hg => ?_, fun e b o hb hg => ?_, fun e b hb => ?_, fun b hb hh => ?_, .inr rfl, .inl rfl, hZt, rfl⟩
    ·subst hF
     cases bar with
     | false => exact .inl ⟨rfl, fun e => by cases e⟩
     | true => exact .inr ⟨rfl, rfl, fun b hb => by
       have hb : hidden (Z ++ s.h.frz) b = false := hb
       rw [hidden_append, Bool.or_eq_false_iff] at hb; exact hb.2⟩
    ·have := hLt b hb;rw [hidden_append, Bool.or_eq_false_iff] at this;exact back b o hg this.1
    ·cases hh : hidden L b with
     | false => exact .inl (back b o hg hh)
     | true =>
      refine .inr ⟨?_, by rw [← keepH b hb hh]; exact hg⟩;show cond (hidden (L ++ s.h.hid) b) none _ = none;rw [hidden_append, hh]; rfl
    ·subst e;exact keepT b (hlow.tr b hb (.inl (by subst hF; exact hb)))
    ·cases hb' : bar with
     | false => rw [hb'] at hF; exact keepT b (hlow.tr b hb (.inl (by subst hF; exact hb)))
     | true =>
      rw [hb'] at hZ;rw [hidden_append, Bool.or_eq_true] at hh;rcases hh with hh | hh
      ·exact keepT b (hlow.tr b hb (.inr (.inr (by show hidden (Z ++ s.h.frz) b = true; rw [hidden_append]; subst hZ; simp [hh]))))
      ·exact keepH b hb (by rw [← hL]; exact hh)
   ·simp at hx
structure Ran (P : Program) (call : CallF) (nt : Nat) (ops : Array Oper) (L : List (It × Bool)) (f : Nat → St) : Prop where
 laid : Laid ops L
 neat : ∀ p, Neat (f p).h
 low : ∀ p q, p ≤ q → Low (f p).h (f q).h
 stay : ∀ p, L.length ≤ p → (f (p + 1)) = f p
 did : ∀ {p : Nat} {x : It × Bool}, L[p]? = some x → ∃ hv h1 v, Did P call nt ops.toList x.1 x.2 (f p) (f (p + 1)) hv h1 v
 rg : ∀ {p r : Nat} {y : It × Bool} {b : Nat}, r < p → L[r]? = some y → (f r).h.next ≤ b → b < (f (r + 1)).h.next → (y.1.i, (f r).h.next, (f (r + 1)).h.next) ∈ (f p).rg
 ld : ∀ {p q : Nat} {e : Nat × Nat × Nat}, p ≤ q → e ∈ (f p).ld → e ∈ (f q).ld
theorem drawAll_path (hl : CallLow call) : ∀ (L : List (It × Bool)) {s s' : St}, drawAll P call nt all L s = some s' →
  ∃ f : Nat → St, f 0 = s ∧ f L.length = s' ∧ (∀ p, L.length ≤ p → f p = s') ∧ ∀ (p : Nat) (x : It × Bool), L[p]? = some x → itemStep P call nt all x.1 x.2 (f p) = some (f (p + 1))
 | [], s, s', hx => by
  rw [drawAll_nil] at hx; cases hx;exact ⟨fun _ => s, rfl, rfl, fun _ _ => rfl, fun p x h => by simp at h⟩
 | y :: L, s, s', hx => by
  rw [drawAll_cons] at hx;split at hx
  ·rename_i s1 he;obtain ⟨f, h0, h1, h2, h3⟩ := drawAll_path hl L hx
   refine ⟨fun p => match p with
    | 0 => s
    | p + 1 => f p, rfl, h1, fun p hp => ?_, fun p x hp => ?_⟩
   ·cases p with
    | zero => simp at hp
    | succ p => exact h2 p (by simpa using hp)
   ·cases p with
    | zero => simp at hp; subst hp; show itemStep _ _ _ _ _ _ s = some (f 0); rw [h0]; exact he
    | succ p => exact h3 p x (by simpa using hp)
  ·simp at hx
theorem drawAll_ran (hl : CallLow call) {ops : Array Oper} {L : List (It × Bool)} {T0 : Sl} {h : H} {s' : St} (hn : Neat h) (hL : Laid ops L) (hx : drawAll P call nt ops.toList L { t := T0, h := h, rg := [], ld := [] } = some s') :
  ∃ f : Nat → St, Ran P call nt ops L f ∧ (f 0).t = T0 ∧ (f 0).h = h ∧ f L.length = s' := by
 obtain ⟨f, h0, h1, h2, h3⟩ := drawAll_path hl L hx;have stay : ∀ p, L.length ≤ p → f (p + 1) = f p := fun p hp => by rw [h2 p hp, h2 (p + 1) (by omega)]
 have one : ∀ p, Low (f p).h (f (p + 1)).h := fun p => by
  rcases Nat.lt_or_ge p L.length with q | q
  ·exact itemStep_low hl (h3 p L[p] (List.getElem?_eq_getElem q))
  ·rw [stay p q]; exact .refl _
 have low : ∀ p q, p ≤ q → Low (f p).h (f q).h := fun p q hpq => by
  induction q with
  | zero => have : p = 0 := by omega
            subst this; exact .refl _
  | succ q ih =>
   rcases Nat.lt_or_ge p (q + 1) with h | h
   ·exact (ih (by omega)).trans (one q)
   ·have : p = q + 1 := by omega
    subst this; exact .refl _
 have neat : ∀ p, Neat (f p).h := fun p => Neat.low (by rw [h0]; exact hn) (low 0 p (Nat.zero_le _))
 have lists : ∀ p, (∀ e ∈ (f p).rg, e.2.2 ≤ (f p).h.next) ∧ (∀ e ∈ (f p).ld, e.2.2 ≤ (f p).h.next) := fun p => by
  induction p with
  | zero => rw [h0]; exact ⟨fun e he => by simp at he, fun e he => by simp at he⟩
  | succ p ih =>
   rcases Nat.lt_or_ge p L.length with q | q
   ·obtain ⟨hv, g1, v, d⟩ := itemStep_did hl (neat p) ih.1 ih.2 (fun hb => hL.bar (List.getElem?_eq_getElem q) hb) (h3 p L[p] (List.getElem?_eq_getElem q));have hn := (one p).next;refine ⟨fun e he => ?_, fun e he => ?_⟩
    ·rcases d.rg with ⟨d1, d2⟩ | d1
     ·rw [d1] at he; have := ih.1 e he; omega
     ·rw [d1] at he;simp only [List.mem_cons] at he;rcases he with rfl | he
      ·exact Nat.le_refl _
      ·have := ih.1 e he; omega
    ·rcases d.ld with d1 | ⟨b, hb, d1⟩
     ·rw [d1] at he; have := ih.2 e he; omega
     ·rw [d1] at he;simp only [List.mem_cons] at he;rcases he with rfl | he
      ·show b + 1 ≤ _; omega
      ·have := ih.2 e he; omega
   ·rw [stay p q]; exact ih
 have did : ∀ {p : Nat} {x : It × Bool}, L[p]? = some x → ∃ hv h1 v, Did P call nt ops.toList x.1 x.2 (f p) (f (p + 1)) hv h1 v := fun {p x} hp =>
  itemStep_did hl (neat p) (lists p).1 (lists p).2 (fun hb => hL.bar hp hb) (h3 p x hp)
 refine ⟨f, ⟨hL, neat, low, stay, did, ?_, ?_⟩, by rw [h0], by rw [h0], h1⟩
 ·intro p
  induction p with
  | zero => intro r y b hr; omega
  | succ p ih =>
   intro r y b hr hy hb1 hb2;rcases Nat.lt_or_ge p L.length with q | q
   ·obtain ⟨hv, g1, v, d⟩ := did (List.getElem?_eq_getElem q);rcases Nat.lt_or_ge r p with q2 | q2
    ·have := ih q2 hy hb1 hb2;rcases d.rg with ⟨d1, d2⟩ | d1
     ·rw [d1]; exact this
     ·rw [d1]; exact List.mem_cons_of_mem _ this
    ·have : r = p := by omega
     subst this;rw [List.getElem?_eq_getElem q] at hy;cases hy;rcases d.rg with ⟨d1, d2⟩ | d1
     ·omega
     ·rw [d1]; exact List.mem_cons_self
   ·have hr' : r < L.length := by
     rcases Nat.lt_or_ge r L.length with h | h
     ·exact h
     ·rw [List.getElem?_eq_none h] at hy; cases hy
    rw [stay p q]; exact ih (by omega) hy hb1 hb2
 ·intro p q e hpq he
  induction q with
  | zero => have : p = 0 := by omega
            subst this; exact he
  | succ q ih =>
   rcases Nat.lt_or_ge p (q + 1) with h | h
   ·have := ih (by omega);rcases Nat.lt_or_ge q L.length with hq | hq
    ·obtain ⟨hv, g1, v, d⟩ := did (List.getElem?_eq_getElem hq);rcases d.ld with d1 | ⟨b, hb, d1⟩
     ·rw [d1]; exact this
     ·rw [d1]; exact List.mem_cons_of_mem _ this
    ·rw [stay q hq]; exact this
   ·have : p = q + 1 := by omega
    subst this; exact he
end
end Go.Ai
namespace Go.Ai
def MadeAt (f : Nat → St) (E : Nat → Prop) (c b : Nat) : Prop := (c = 0 ∧ b < (f 0).h.next) ∨ ∃ p, c = p + 1 ∧ E p ∧ (f p).h.next ≤ b ∧ b < (f (p + 1)).h.next
def Cur (f : Nat → St) (E : Nat → Prop) (m b : Nat) (o : O) : Prop := ∃ c, MadeAt f E c b ∧ (f (max m c)).h.get b = some o
structure Inv (P : Program) (nt : Nat) (L : List (It × Bool)) (f : Nat → St) (ι0 : Inj) (w0 : World) (E : Nat → Prop) (m : Nat) (ι : Inj) (a : Act) (w : World) : Prop where
 lt : ∀ p, E p → p < L.length
 cl : ∀ p x r y, E p → L[p]? = some x → L[r]? = some y → Nat.testBit x.1.m y.1.i = true → E r
 loud : ∀ p x, p < m → L[p]? = some x → x.1.c.isLoud = true → E p
 bar : ∀ p x, m ≤ p → L[p]? = some x → x.2 = true → ¬ E p
 mN : m ≤ L.length
 ext : Ext ι0 ι
 dom : ∀ b, ι.dom b → ∃ c, MadeAt f E c b
 obj : ∀ b o, Cur f E m b o → ι.dom b ∧ ORel P ι b w o
 bel : ∀ c b o k, MadeAt f E c b → c ≤ k → k ≤ max m c → (f k).h.get b = some o → o.below (f k).h.next
 inj : ∀ b b' o o', Cur f E m b o → Cur f E m b' o' → o.real = true → o'.ghostly = false → b ≠ b' → ι.blk b ≠ ι.blk b'
 blk : ∀ b o, Cur f E m b o → o.ghostly = false → ι.blk b < w.heap.size
 size : w0.heap.size ≤ w.heap.size
 os : w.os = w0.os
 tape : w.tape = w0.tape
 output : w.output = w0.output
 wr : ∀ b o, Cur f E m b o → o.real = true → ((f 0).h.floor ≤ b ∧ hidden (f 0).h.frz b = false) → ι.blk b < w0.heap.size → Wr ι0 (f 0).h (ι.blk b)
 fr : ∀ c, c < w0.heap.size → ¬ Wr ι0 (f 0).h c → w.heap[c]? = w0.heap[c]?
 old : ∀ b o, Cur f E m b o → b < (f 0).h.next → ∃ o0, (f 0).h.get b = some o0 ∧ o.real = o0.real ∧ o.ghostly = o0.ghostly
 fresh : ∀ b o, Cur f E m b o → (f 0).h.next ≤ b → o.real = true ∨ o.ghostly = true ∨ w0.heap.size ≤ ι.blk b
 new : ∀ b, ι.dom b → ι0.dom b ∨ (f 0).h.next ≤ b
 slot1 : ∀ p x d v, E p → L[p]? = some x → x.1.o.dst = some d → (f (p + 1)).t.get d = some v → VR ι v (a.tmps.getD d undef) ∧ v.below (f (p + 1)).h.next
 slot0 : ∀ d v, (∀ p x, E p → L[p]? = some x → x.1.o.dst ≠ some d) → (f 0).t.get d = some v → VR ι v (a.tmps.getD d undef) ∧ v.below (f 0).h.next
 defers : a.defers = []
 tmps : a.tmps.size = nt
 kn : KnOk P ι0.env (f 0).h.kn
section
variable {P : Program} {call : CallF} {nt : Nat} {ops : Array Oper} {L : List (It × Bool)} {f : Nat → St} (R : Ran P call nt ops L f)
include R
theorem nx_mono {p q : Nat} (h : p ≤ q) : (f p).h.next ≤ (f q).h.next := (R.low p q h).next
theorem same_upto {b i k : Nat} (hik : i ≤ k) (h : ∀ j x, i ≤ j → j < k → L[j]? = some x → (f (j + 1)).h.get b = (f j).h.get b) : (f k).h.get b = (f i).h.get b := by
 induction k with
 | zero => have : i = 0 := by omega
           subst this; rfl
 | succ k ih =>
  rcases Nat.lt_or_ge i (k + 1) with q | q
  ·rw [← ih (by omega) fun j x h1 h2 h3 => h j x h1 (by omega) h3];rcases Nat.lt_or_ge k L.length with r | r
   ·exact h k _ (by omega) (by omega) (List.getElem?_eq_getElem r)
   ·rw [R.stay k r]
  ·have : i = k + 1 := by omega
   subst this; rfl
theorem find_made {b : Nat} : ∀ {q : Nat}, b < (f q).h.next → b < (f 0).h.next ∨ ∃ p, p < q ∧ (f p).h.next ≤ b ∧ b < (f (p + 1)).h.next
 | 0, h => .inl h
 | q + 1, h => by
  rcases Nat.lt_or_ge b (f q).h.next with r | r
  ·rcases find_made r with h1 | ⟨p, h1, h2⟩
   ·exact .inl h1
   ·exact .inr ⟨p, by omega, h2⟩
  ·exact .inr ⟨q, by omega, r, h⟩
theorem made_lt {E : Nat → Prop} {c b : Nat} (h : MadeAt f E c b) {j : Nat} (hj : c ≤ j) : b < (f j).h.next := by
 rcases h with ⟨rfl, h⟩ | ⟨p, rfl, _, _, h⟩
 ·exact Nat.lt_of_lt_of_le h (nx_mono R hj)
 ·exact Nat.lt_of_lt_of_le h (nx_mono R hj)
theorem step_nonbar {j : Nat} {x : It × Bool} {b : Nat} (hj : L[j]? = some x) (hb : x.2 = false) (hl : b < (f j).h.next) : (f (j + 1)).h.get b = (f j).h.get b := by
 obtain ⟨hv, h1, v, d⟩ := R.did hj;exact d.nonbar hb b hl
theorem step_hid {j r : Nat} {x y : It × Bool} {b : Nat} (hj : L[j]? = some x) (hr : L[r]? = some y) (hrj : r < j) (h1 : (f r).h.next ≤ b) (h2 : b < (f (r + 1)).h.next) (hm : Nat.testBit x.1.m y.1.i = false) : (f (j + 1)).h.get b = (f j).h.get b := by
 obtain ⟨hv, g1, v, d⟩ := R.did hj;refine d.hidb b (Nat.lt_of_lt_of_le h2 (nx_mono R (by omega))) ?_;rw [hidden_append, unseen_hidden (R.rg hrj hr h1 h2) hm h1 h2, Bool.or_true]
theorem step_ld {j r : Nat} {x y : It × Bool} {b : Nat} (hj : L[j]? = some x) (hrj : r < j) (hd : (y.1.i, b, b + 1) ∈ (f (r + 1)).ld) (hm : Nat.testBit x.1.m y.1.i = false) (hl : b < (f j).h.next) : (f (j + 1)).h.get b = (f j).h.get b := by
 obtain ⟨hv, g1, v, d⟩ := R.did hj;refine d.hidb b hl ?_;rw [hidden_append, unseen_hidden (R.ld (show r + 1 ≤ j by omega) hd) hm (Nat.le_refl _) (Nat.lt_succ_self _), Bool.true_or]
theorem idx_ne {p q : Nat} {x y : It × Bool} (h : p ≠ q) (hp : L[p]? = some x) (hq : L[q]? = some y) : x.1.i ≠ y.1.i ∧ ∀ d, x.1.o.dst = some d → y.1.o.dst ≠ some d := by
 have aux : ∀ {p q : Nat} {x y : It × Bool}, p < q → L[p]? = some x → L[q]? = some y → x.1.i ≠ y.1.i ∧ ∀ d, x.1.o.dst = some d → y.1.o.dst ≠ some d := fun {p q x y} h hp hq => by
  have := R.laid.pair h hp hq;simp only [pairB, Bool.and_eq_true, Bool.not_eq_true'] at this;obtain ⟨⟨⟨_, h2⟩, h3⟩, _⟩ := this;refine ⟨fun e => (by rw [e, beq_self] at h2; cases h2), fun d h4 h5 => ?_⟩;unfold dstB at h3;rw [h4, h5] at h3;simp at h3
 rcases Nat.lt_or_ge p q with r | r
 ·exact aux r hp hq
 ·obtain ⟨h1, h2⟩ := aux (show q < p by omega) hq hp;exact ⟨fun e => h1 e.symm, fun d h3 h4 => h2 d h4 h3⟩
variable {ι0 ι : Inj} {w0 w : World} {E : Nat → Prop} {m : Nat} {a : Act} (I : Inv P nt L f ι0 w0 E m ι a w)
variable {q : Nat} {x : It × Bool} (hq : L[q]? = some x) (hun : ¬ E q) (hwait : ∀ r y, L[r]? = some y → Nat.testBit x.1.m y.1.i = true → E r) {hv h1 : H} {v : V} (D : Did P call nt ops.toList x.1 x.2 (f q) (f (q + 1)) hv h1 v)
include I hq hun in
theorem not_waits {j : Nat} {y : It × Bool} (hj : L[j]? = some y) (he : E j) : Nat.testBit y.1.m x.1.i = false := by
 cases h : Nat.testBit y.1.m x.1.i with
 | false => rfl
 | true => exact absurd (I.cl j y q x he hj hq h) hun
include D in
theorem view_lt {b : Nat} {o : O} (hg : hv.get b = some o) : b < (f q).h.next := (R.neat q).get (D.sub b o hg)
include I hq hun hwait D in
theorem view_cur {b : Nat} {o : O} (hg : hv.get b = some o) : ∃ c, MadeAt f E c b ∧ c ≤ q ∧ (f (max m c)).h.get b = some o := by
 have hlt := view_lt R D hg;have hqN : q < L.length := (gEi.1 hq).1
 have hc : ∃ c, MadeAt f E c b ∧ c ≤ q := by
  rcases find_made R hlt with h | ⟨p, h0, h2, h3⟩
  ·exact ⟨0, .inl ⟨rfl, h⟩, Nat.zero_le _⟩
  ·have hp : L[p]? = some L[p] := List.getElem?_eq_getElem (by omega);refine ⟨p + 1, .inr ⟨p, rfl, ?_, h2, h3⟩, by omega⟩;refine hwait p _ hp ?_
   cases hb : Nat.testBit x.1.m L[p].1.i with
   | true => rfl
   | false =>
    have := D.seen b o hg;rw [unseen_hidden (R.rg h0 hp h2 h3) hb h2 h3] at this; cases this
 obtain ⟨c, hc, hcq⟩ := hc;refine ⟨c, hc, hcq, ?_⟩;have hkind := D.kind b o hg;rcases Nat.lt_or_ge q (max m c) with h | h
 ·have hmq : q < m := by omega
  have hmc : max m c = m := by omega
  rw [hmc];rcases hkind with hk | ⟨hk, hld⟩
  ·exact absurd (I.loud q x hmq hq hk) hun
  ·rw [same_upto R (show q ≤ m by omega) fun j y hj1 hj2 hj => ?_]
   ·exact D.sub b o hg
   ·have hlj : b < (f j).h.next := Nat.lt_of_lt_of_le hlt (nx_mono R hj1);rcases Nat.lt_or_ge q j with hqj | hqj
    ·cases hb : y.2 with
     | false => exact step_nonbar R hj hb hlj
     | true => exact step_ld R hj hqj hld (not_waits R I hq hun hj (I.loud j y hj2 hj (R.laid.bar hj hb))) hlj
    ·have : j = q := by omega
     subst this;rw [hq] at hj; cases hj
     cases hb : x.2 with
     | false => exact step_nonbar R hq hb hlj
     | true =>
      have := R.laid.bar hq hb;cases hcl : x.1.c <;> rw [hcl] at this hk <;> simp [Cls.isLoad, Cls.isLoud] at this hk
 ·rw [← same_upto R h fun j y hj1 hj2 hj => ?_]
  ·exact D.sub b o hg
  ·refine step_nonbar R hj ?_ (made_lt R hc (by omega))
   cases hb : y.2 with
   | false => rfl
   | true =>
    have hbit := R.laid.barAfter hj2 hj hq hb (by rcases hkind with hk | ⟨hk, _⟩ <;> simp [hk]);exact absurd (hwait j y hj hbit) (I.bar j y (by omega) hj hb)
include I hq hun hwait D in
theorem view_hr : HR P (ι.upto (f q).h.next) hv w := by
 refine ⟨fun b hb => by rw [D.next]; exact hb.2, fun b o hg => ?_, fun b b' o o' hg hg' hr hgh hne => ?_, fun b hb => D.hid b (by rw [← D.next]; exact hb), fun b o hg hgh => ?_, fun b hb => D.frz b (by rw [← D.next]; exact hb), by
  have e : hv.kn = (f 0).h.kn := D.kn.trans (R.low 0 q (Nat.zero_le _)).kn
  rw [e]; show KnOk P ι.env _; rw [I.ext.env]; exact I.kn⟩
 ·obtain ⟨c, h2, h3, h4⟩ := view_cur R I hq hun hwait D hg;obtain ⟨h5, h6⟩ := I.obj b o ⟨c, h2, h4⟩;refine ⟨⟨h5, view_lt R D hg⟩, ORel.upto h6 ?_⟩;rcases Nat.lt_or_ge q (max m c) with h | h
  ·exact I.bel c b o q h2 h3 (by omega) (D.sub b o hg)
  ·exact O.below.mono (nx_mono R h) (I.bel c b o (max m c) h2 (by omega) (Nat.le_refl _) h4)
 ·obtain ⟨c, h2, h3, h4⟩ := view_cur R I hq hun hwait D hg;obtain ⟨c', h2', h3', h4'⟩ := view_cur R I hq hun hwait D hg';exact I.inj b b' o o' ⟨c, h2, h4⟩ ⟨c', h2', h4'⟩ hr hgh hne
 ·obtain ⟨c, h2, h3, h4⟩ := view_cur R I hq hun hwait D hg;exact I.blk b o ⟨c, h2, h4⟩ hgh
omit R in
theorem putT_get (hnt : nt ≤ 1024) {T0 T1 : Sl} {d : Option Tmp} {v : V} (h : putT nt T0 d v = some T1) (t : Nat) : T1.get t = if d = some t then some v else T0.get t := by
 unfold putT at h
 cases d with
 | none => simp at h; subst h; simp
 | some d =>
  simp only [Bool.cond_eq_ite] at h;split at h
  ·rename_i hb;rw [Sl.setK_eq] at h;cases h;rw [Sl.get_set _ _ _ _ (by rw [Nat.blt_eq] at hb; omega)]
   by_cases e : t = d
   ·subst e; simp
   ·rw [if_neg e, if_neg (by intro q; cases q; exact e rfl)]
  ·simp at h
theorem slot_same (hnt : nt ≤ 1024) {d i k : Nat} (hik : i ≤ k) (h : ∀ j y, i ≤ j → j < k → L[j]? = some y → y.1.o.dst ≠ some d) : (f k).t.get d = (f i).t.get d := by
 induction k with
 | zero => have : i = 0 := by omega
           subst this; rfl
 | succ k ih =>
  rcases Nat.lt_or_ge i (k + 1) with q | q
  ·rw [← ih (by omega) fun j x h1 h2 h3 => h j x h1 (by omega) h3];rcases Nat.lt_or_ge k L.length with r | r
   ·obtain ⟨hv, g1, v, dd⟩ := R.did (List.getElem?_eq_getElem r);rw [putT_get hnt dd.put, if_neg (h k _ (by omega) (by omega) (List.getElem?_eq_getElem r))]
   ·rw [R.stay k r]
  ·have : i = k + 1 := by omega
   subst this; rfl
include I hq hun hwait in
theorem view_slots (hnt : nt ≤ 1024) {d : Nat} {u : V} (hd : d ∈ x.1.o.looksAt ops) (hu : (f q).t.get d = some u) : VR (ι.upto (f q).h.next) u (a.tmps.getD d undef) := by
 have zero : (∀ p y, E p → L[p]? = some y → y.1.o.dst ≠ some d) → (∀ j y, j < q → L[j]? = some y → y.1.o.dst ≠ some d) → VR (ι.upto (f q).h.next) u (a.tmps.getD d undef) := fun h h2 => by
  rw [slot_same R hnt (Nat.zero_le q) fun j y _ hj hy => h2 j y hj hy] at hu;obtain ⟨k1, k2⟩ := I.slot0 d u h hu;exact VR.upto k1 (V.below.mono (nx_mono R (Nat.zero_le q)) k2)
 by_cases hex : ∃ (p : Nat) (y : It × Bool), L[p]? = some y ∧ y.1.o.dst = some d
 ·obtain ⟨p, y, hp, hy⟩ := hex;have only : ∀ j z, L[j]? = some z → j ≠ p → z.1.o.dst ≠ some d := fun j z hj hne => (idx_ne R (Ne.symm hne) hp hj).2 d hy
  rcases Nat.lt_trichotomy p q with h | h | h
  ·have hpair := R.laid.pair h hp hq;simp only [pairB, Bool.and_eq_true, Bool.or_eq_true] at hpair;rcases hpair.2 with hb | hb
   ·have he := hwait p y hp hb;rw [slot_same R hnt (show p + 1 ≤ q by omega) fun j z h2 h3 hj => only j z hj (by omega)] at hu;obtain ⟨k1, k2⟩ := I.slot1 p y d u he hp hy hu;exact VR.upto k1 (V.below.mono (nx_mono R (by omega)) k2)
   ·unfold slotsB at hb;rw [hy] at hb;simp only [Bool.and_eq_true, Bool.not_eq_true', List.contains_eq_mem, decide_eq_false_iff_not] at hb;exact absurd hd hb.1
  ·subst h;refine zero (fun j z he hj e => ?_) fun j z h2 hj => only j z hj (by omega)
   by_cases hjp : j = p
   ·subst hjp; exact hun he
   ·exact only j z hj hjp e
  ·have hpair := R.laid.pair h hq hp;simp only [pairB, Bool.and_eq_true, Bool.or_eq_true] at hpair;rcases hpair.2 with hb | hb
   ·refine zero (fun j z he hj e => ?_) fun j z h2 hj => only j z hj (by omega)
    by_cases hjp : j = p
    ·subst hjp;rw [hp] at hj; cases hj;have := not_waits R I hq hun hp he;rw [hb] at this; cases this
    ·exact only j z hj hjp e
   ·unfold slotsB at hb;rw [hy] at hb;simp only [Bool.and_eq_true, Bool.not_eq_true', List.contains_eq_mem, decide_eq_false_iff_not] at hb;exact absurd hd hb.2
 ·exact zero (fun j z _ hj e => hex ⟨j, z, hj, e⟩) fun j z _ hj e => hex ⟨j, z, hj, e⟩
end
end Go.Ai
