/-
Regions that draw, in any order, as the machine has them; calls, with nothing left open.
-/
import Derived.Test.YtjjlmmebkemlgaaAiDraw4
set_option linter.unusedVariables false
set_option linter.unusedSimpArgs false
set_option linter.unusedSectionVars false
namespace Go.Ai
section
variable {P : Program} {call : CallF} {nt : Nat} {ops : Array Oper} {L : List (It × Bool)} {f : Nat → St} (R : Ran P call nt ops L f) (hnt : nt ≤ 1024) (hc : CallOk P call) (hfl : (f 0).h.floor ≤ (f 0).h.next)
variable {ι0 : Inj} {w0 : World} {T0 : Sl} {a0 : Act} (K0 : Rel P ι0 T0 (f 0).h nt a0 w0) (hT : (f 0).t = T0)
def Listed (L : List (It × Bool)) (listed : Array Bool) (p : Nat) : Prop := ∃ x, L[p]? = some x ∧ listed.getD x.1.i false = true
include R K0 hT in
theorem inv_start : Inv P nt L f ι0 w0 (fun _ => False) 0 ι0 a0 w0 := by
  have made : ∀ {c b}, MadeAt f (fun _ => False) c b → c = 0 ∧ b < (f 0).h.next := fun {c b} h => by
    rcases h with h | ⟨_, _, h, _⟩
    · exact h
    · cases h
  have cur : ∀ {b o}, Cur f (fun _ => False) 0 b o → (f 0).h.get b = some o := fun {b o} ⟨c, h1, h2⟩ => by
    obtain ⟨rfl, _⟩ := made h1; exact h2
  refine ⟨fun _ h => h.elim, fun _ _ _ _ h => h.elim, fun p _ h => absurd h (Nat.not_lt_zero p), fun _ _ _ _ _ h => h, Nat.zero_le _, .refl _, fun b hb => ⟨0, .inl ⟨rfl, K0.hr.dom b hb⟩⟩, fun b o h => K0.hr.obj b o (cur h), ?_, fun b b' o o' h h' => K0.hr.inj b b' o o' (cur h) (cur h'), fun b o h => K0.hr.lt b o (cur h),
    Nat.le_refl _, rfl, rfl, rfl, ?_, fun _ _ _ => rfl, fun b o h _ => ⟨o, cur h, rfl, rfl⟩, ?_, fun b hb => .inl hb, fun _ _ _ _ h => h.elim, ?_, K0.defers, K0.size, K0.hr.kn⟩
  · intro c b o k hm h1 h2 hg
    obtain ⟨rfl, _⟩ := made hm
    have : k = 0 := by simpa using h2
    subst this
    exact ORel.below K0.hr.dom (K0.hr.obj b o hg).2
  · intro b o h hr hf _
    exact ⟨b, o, cur h, hr, hf, rfl⟩
  · intro b o h hb
    exact absurd (K0.hr.dom b (K0.hr.obj b o (cur h)).1) (by omega)
  · intro d v _ hv
    rw [hT] at hv
    exact ⟨K0.tr d v hv, VR.below K0.hr.dom (K0.tr d v hv)⟩
include R hnt in
theorem inv_end {ι : Inj} {w : World} {E : Nat → Prop} {m : Nat} {a : Act} (I : Inv P nt L f ι0 w0 E m ι a w) (hE : ∀ p, p < L.length → E p) (hn : Neat (f 0).h) :
    Rel P ι (f L.length).t (f L.length).h nt a w ∧ Step P ι0 (f 0).h w0 ι (f L.length).h w := by
  have hlow := R.low 0 L.length (Nat.zero_le _)
  have made : ∀ b, b < (f L.length).h.next → ∃ c, MadeAt f E c b ∧ c ≤ L.length := fun b hb => by
    rcases find_made R hb with h | ⟨p, h0, h1, h2⟩
    · exact ⟨0, .inl ⟨rfl, h⟩, Nat.zero_le _⟩
    · exact ⟨p + 1, .inr ⟨p, rfl, hE p h0, h1, h2⟩, h0⟩
  have cur : ∀ {b o}, (f L.length).h.get b = some o → Cur f E m b o := fun {b o} hg => by
    obtain ⟨c, h1, h2⟩ := made b ((R.neat _).get hg)
    refine ⟨c, h1, ?_⟩
    have := I.mN
    rw [← same_upto R (show max m c ≤ L.length by omega) fun j y hj1 hj2 hj => ?_]
    · exact hg
    · refine step_nonbar R hj ?_ (made_lt R h1 (by omega))
      cases hb : y.2 with
      | false => rfl
      | true => exact absurd (hE j hj2) (I.bar j y (by omega) hj hb)
  have hr : HR P ι (f L.length).h w := by
    refine ⟨fun b hb => ?_, fun b o hg => I.obj b o (cur hg), fun b b' o o' hg hg' => I.inj b b' o o' (cur hg) (cur hg'), fun b hb => (R.neat _).hid b hb, fun b o hg => I.blk b o (cur hg), fun b hb => (R.neat _).frz b hb, by
      have e : (f L.length).h.kn = (f 0).h.kn := (R.low 0 _ (Nat.zero_le _)).kn
      rw [e, I.ext.env]; exact I.kn⟩
    obtain ⟨c, hm⟩ := I.dom b hb
    rcases hm with ⟨_, h1⟩ | ⟨p, _, h1, _, h2⟩
    · exact Nat.lt_of_lt_of_le h1 (nx_mono R (Nat.zero_le _))
    · exact Nat.lt_of_lt_of_le h2 (nx_mono R (I.lt p h1))
  refine ⟨⟨hr, fun d v hv => ?_, I.defers, I.tmps⟩, ⟨I.ext, hr, I.size, I.os, I.tape, I.output, hlow.floor, hlow.hid, hlow.next, I.new, fun b o hb hg => I.old b o (cur hg) hb, fun b o hb hg => I.fresh b o (cur hg) hb, ?_, I.fr, hlow.frz, hlow.kn⟩⟩
  · by_cases hex : ∃ (p : Nat) (y : It × Bool), L[p]? = some y ∧ y.1.o.dst = some d
    · obtain ⟨p, y, hp, hy⟩ := hex
      have hpN : p < L.length := (List.getElem?_eq_some_iff.1 hp).1
      rw [slot_same R hnt (show p + 1 ≤ L.length by omega) fun j z h2 h3 hj => (idx_ne R (show p ≠ j by omega) hp hj).2 d hy] at hv
      exact (I.slot1 p y d v (hE p hpN) hp hy hv).1
    · rw [slot_same R hnt (Nat.zero_le _) fun j z _ _ hj e => hex ⟨j, z, hj, e⟩] at hv
      exact (I.slot0 d v (fun j z _ hj e => hex ⟨j, z, hj, e⟩) hv).1
  · rintro c hc ⟨b, o, hg, hr', hf, e⟩
    have e : ι.blk b = c := e
    rw [← e] at hc ⊢
    exact I.wr b o (cur hg) hr' (by rw [hlow.floor, hlow.frz] at hf; exact hf) hc

theorem wantB_congr {all : List Oper} {T0 T1 : Sl} {o : Oper} (h : ∀ d ∈ o.looksAt all.toArray, T1.get d = T0.get d) : wantB all T1 o = wantB all T0 o := by
  unfold wantB
  split
  · rfl
  · rename_i j want hg
    split
    · rename_i g hj
      split
      · rename_i d hd
        rw [h d (by unfold Oper.looksAt; rw [hg]; simp [hj, hd])]
      · rfl
    · rfl
include R hnt hc hfl in
/-- One step, at the machine. -/
theorem step_wp {ι : Inj} {w : World} {E : Nat → Prop} {m : Nat} {a : Act} (I : Inv P nt L f ι0 w0 E m ι a w) {q : Nat} {x : It × Bool} (hq : L[q]? = some x) (hun : ¬ E q) (hwait : ∀ r y, L[r]? = some y → Nat.testBit x.1.m y.1.i = true → E r)
    {Q : Exit → Act → World → Prop} {next : Act → World → Prop} (K : ∀ m' ι' a' w', Inv P nt L f ι0 w0 (fun p => E p ∨ p = q) m' ι' a' w' → next a' w') : wpOp P ops Q x.1.i next a w := by
  obtain ⟨hv, h1, v, D⟩ := R.did hq
  have hHR := view_hr R I hq hun hwait D
  have hkT : TR (ι.upto (f q).h.next) (keepL (f q).t (x.1.o.looksAt ops)) a.tmps := fun d u hu => by
    rw [keepL_get] at hu
    split at hu
    · rename_i hd; exact view_slots R I hq hun hwait hnt hd hu
    · cases hu
  have hev : ∀ y ∈ x.1.o.op.operands, ev (keepL (f q).t (x.1.o.looksAt ops)) y = ev (f q).t y := fun y hy => by
    cases y with
    | tmp t =>
      show (keepL _ _).get t = (f q).t.get t
      rw [keepL_get, if_pos]
      exact List.mem_append_left _ (List.mem_filterMap.2 ⟨.tmp t, by simpa using hy, rfl⟩)
    | const c => rfl
    | global g => rfl
    | func g => rfl
  have hwt : wantB ops.toList (keepL (f q).t (x.1.o.looksAt ops)) x.1.o = wantB ops.toList (f q).t x.1.o := wantB_congr fun d hd => by
    rw [keepL_get, if_pos (by simpa using hd)]
  unfold wpOp
  rw [R.laid.op hq]
  simp only
  rcases D.one with ⟨d1, d2, d3⟩ | ⟨d1, d2⟩
  · rw [← hwt] at d1
    rw [wantB_rel hkT d1]
    simp only [Bool.false_eq_true, if_false]
    subst d3
    subst d2
    exact K _ _ _ _ (inv_step R I hq hun hwait D (Step.refl hHR) hnt hfl VR.undef_)
  · rw [← hwt] at d1
    rw [wantB_rel hkT d1]
    simp only [if_true]
    have d2 : execW P call (keepL (f q).t (x.1.o.looksAt ops)) hv x.1.o = some (v, h1) := by
      unfold execW at d2 ⊢
      rw [execO_congr hev]; exact d2
    exact .inl (execW_wp hc d2 hHR hkT fun ι' v' w' hvv hs => K _ _ _ _ (inv_step R I hq hun hwait D hs hnt hfl hvv))
include R in
theorem all_listed {listed : Array Bool} (hsz : listed.size = ops.size) (hr : Region.ready .any ops listed = []) : ∀ p, p < L.length → Listed L listed p := by
  intro p
  induction p using Nat.strongRecOn with
  | _ p ih =>
    intro hp
    have hx : L[p]? = some L[p] := List.getElem?_eq_getElem hp
    refine ⟨_, hx, ?_⟩
    cases hb : listed.getD L[p].1.i false with
    | true => rfl
    | false =>
      have hop := R.laid.op hx
      have hbits : ∀ e ∈ L[p].1.o.after, Region.binds .any e = true → listed.getD e.on false = true := fun e he hbi => by
        obtain ⟨r, y, h1, h2, h3⟩ := R.laid.seen hx (R.laid.edge hx e he hbi)
        obtain ⟨z, h4, h5⟩ := ih r h1 (by omega)
        rw [h2] at h4; cases h4
        rw [← h3]; exact h5
      have hlt : L[p].1.i < listed.size := by rw [hsz]; exact (Array.getElem?_eq_some_iff.1 hop).1
      have ht : listed.getD L[p].1.i true = false := by
        simp only [Array.getD_eq_getD_getElem?, Array.getElem?_eq_getElem hlt, Option.getD_some] at hb ⊢
        exact hb
      have : L[p].1.i ∈ Region.ready .any ops listed := mem_ready.2 ⟨ht, _, hop, hbits⟩
      rw [hr] at this; cases this
omit R in
theorem getD_size {listed : Array Bool} {i : Nat} (h : listed.getD i true = false) : i < listed.size := by
  rcases Nat.lt_or_ge i listed.size with q | q
  · exact q
  · simp [Array.getD_eq_getD_getElem?, Array.getElem?_eq_none q] at h
omit R in
theorem count_less {listed : Array Bool} {i n : Nat} (h : listed.getD i true = false) (hn : listed.toList.count false = n + 1) : (listed.setIfInBounds i true).toList.count false = n := by
  have hlt := getD_size h
  have hlt' : i < listed.toList.length := by simpa using hlt
  have hg : listed.toList[i] = false := by
    simp only [Array.getD_eq_getD_getElem?, Array.getElem?_eq_getElem hlt, Option.getD_some] at h
    simpa using h
  rw [Array.toList_setIfInBounds, List.count_set hlt', hg, hn]
  simp
include R hnt hc hfl in
theorem any_wp (hn : Neat (f 0).h) {Q : Exit → Act → World → Prop} (K : ∀ ι' a' w', Rel P ι' (f L.length).t (f L.length).h nt a' w' → Step P ι0 (f 0).h w0 ι' (f L.length).h w' → Q .normal a' w') :
    ∀ (fuel : Nat) {listed : Array Bool} {m : Nat} {ι : Inj} {a : Act} {w : World}, listed.size = ops.size → listed.toList.count false = fuel → Closed ops (fun j => listed.getD j false = true) → Inv P nt L f ι0 w0 (Listed L listed) m ι a w → wpAny P .any ops Q fuel listed a w
  | 0, listed, m, ι, a, w, hsz, hct, hcl, I => by
    have hr : Region.ready .any ops listed = [] := by
      cases hr : Region.ready .any ops listed with
      | nil => rfl
      | cons j l =>
        have hj : j ∈ Region.ready .any ops listed := by rw [hr]; simp
        have h0 := (mem_ready.1 hj).1
        have hlt := getD_size h0
        rw [List.count_eq_zero] at hct
        refine absurd (List.mem_iff_getElem.2 ⟨j, by simpa using hlt, ?_⟩) hct
        simp only [Array.getD_eq_getD_getElem?, Array.getElem?_eq_getElem hlt, Option.getD_some] at h0
        simpa using h0
    obtain ⟨h1, h2⟩ := inv_end R hnt I (all_listed R hsz hr) hn
    exact ⟨hr, K _ _ _ h1 h2⟩
  | fuel + 1, listed, m, ι, a, w, hsz, hct, hcl, I => by
    refine ⟨fun hr => ?_, fun i hi => ?_⟩
    · obtain ⟨h1, h2⟩ := inv_end R hnt I (all_listed R hsz hr) hn
      exact K _ _ _ h1 h2
    · obtain ⟨h0, o, ho, hall⟩ := mem_ready.1 hi
      obtain ⟨q, x, hq, rfl⟩ := R.laid.cover (Array.getElem?_eq_some_iff.1 ho).1
      have hop := R.laid.op hq
      rw [ho] at hop; cases hop
      have hlt := getD_size h0
      have h0' : listed.getD x.1.i false = false := by
        simp only [Array.getD_eq_getD_getElem?, Array.getElem?_eq_getElem hlt, Option.getD_some] at h0 ⊢
        exact h0
      have hun : ¬ Listed L listed q := fun ⟨y, hy, he⟩ => by
        rw [hq] at hy; cases hy
        rw [h0'] at he; cases he
      have hwait : ∀ r y, L[r]? = some y → Nat.testBit x.1.m y.1.i = true → Listed L listed r := fun r y hr hb =>
        ⟨y, hr, R.laid.up hq (fun j => listed.getD j false = true) hcl hall _ hb⟩
      have hset : ∀ j, (listed.setIfInBounds x.1.i true).getD j false = true ↔ listed.getD j false = true ∨ j = x.1.i := fun j => by
        by_cases e : x.1.i = j
        · subst e; simp [hlt]
        · rw [getD_set_ne false e]
          exact ⟨.inl, fun h => h.resolve_right fun q => e q.symm⟩
      refine step_wp R hnt hc hfl I hq hun hwait fun m' ι' a' w' I' => ?_
      have hE : (fun p => Listed L listed p ∨ p = q) = Listed L (listed.setIfInBounds x.1.i true) := by
        funext p
        apply propext
        constructor
        · rintro (⟨y, hy, he⟩ | rfl)
          · exact ⟨y, hy, (hset _).2 (.inl he)⟩
          · exact ⟨x, hq, (hset _).2 (.inr rfl)⟩
        · rintro ⟨y, hy, he⟩
          rcases (hset _).1 he with h | h
          · exact .inl ⟨y, hy, h⟩
          · right
            refine Decidable.byContradiction fun hne => (idx_ne R hne hy hq).1 h
      rw [hE] at I'
      refine any_wp hn K fuel (by simpa using hsz) (count_less h0 hct) (fun j o' hj hA e he hb => ?_) I'
      rcases (hset _).1 hA with h | h
      · exact (hset _).2 (.inl (hcl j o' hj h e he hb))
      · subst h
        rw [ho] at hj; cases hj
        exact (hset _).2 (.inl (hall e he hb))
end
theorem draw_ok {P : Program} {call : CallF} {nt : Nat} (hm : P.follows .mixedOrders = true) (hc : CallOk P call) (hl : CallLow call) (hnt : nt ≤ 1024) : DrawOk P call nt := by
  intro id ops T0 h T1 h1 ι a w Q hx K0 K
  unfold drawR at hx
  simp only [Bool.cond_eq_ite] at hx
  split at hx
  · rename_i L hL
    split at hx
    · rename_i hfl
      split at hx
      · rename_i s hs
        cases hx
        obtain ⟨f, R, hT, hH, hend⟩ := drawAll_ran hl K0.hr.neat (told_laid hL) hs
        subst hend
        subst hH
        have K1 : Rel P ι T0 (f 0).h nt a { w with drawn := w.drawn + 1 } := ⟨K0.hr.drew _, K0.tr, K0.defers, K0.size⟩
        have I := inv_start R K1 hT
        have hE : (fun _ => False) = Listed L (Array.replicate ops.size false) := by
          funext p
          apply propext
          constructor
          · exact fun h => h.elim
          · rintro ⟨x, _, h⟩
            rw [Array.getD_eq_getD_getElem?, Array.getElem?_replicate] at h
            split at h <;> simp at h
        rw [hE] at I
        refine wp_region_any hm (any_wp R hnt hc (by simpa using hfl) K0.hr.neat (fun ι' a' w' hr hs => K ι' a' w' hr hs.drew0) ops.size (by simp) (by simp) ?_ I)
        intro j o hj hA
        simp only [Array.getD_eq_getD_getElem?, Array.getElem?_replicate] at hA
        split at hA <;> simp at hA
      · simp at hx
    · simp at hx
  · simp at hx
/-- What the machine runs to, the program's call runs to. -/
theorem runF_sound {P : Program} (hm : P.follows .mixedOrders = true) (hN : ∀ (f : FuncId) (fn : Func), P.funcs[f]? = some fn → fn.body.isSome = true → (fn.name == "runtime.NumGoroutine") = false) (n : Nat) : CallOk P (runF P n) :=
  runF_ok hN (fun call nt hc hl hnt => draw_ok hm hc hl hnt) n
end Go.Ai
