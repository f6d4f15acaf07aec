/-
LayoutWraps, part 42 of 48: FxLayB FxLay1 FxLay2.
-/
import Derived.Test.YthacbaagffpkoaaLw41
set_option linter.unusedVariables false
set_option linter.unusedSimpArgs false
set_option maxRecDepth 100000
set_option maxHeartbeats 0
namespace Go.Ai
open Go.Proofs
def ValsS (h : H) (n0 : Nat) (sv : S) (vals : List Int) : Prop := (vals = [] ∧ (sv = .sl0 ∨ sv = .lsl (Lin.num 0))) ∨ ∃ vb vo c ex, sv = .sl vb vo vals.length c 1 ex ∧ vb < n0 ∧ ∀ k x, vals[k]? = some x → h.row vb (vo + k) 1 = some [.i .i64 x]
theorem ValsS.len {h h1 : H} {n0 : Nat} {vals : List Int} {v : S} (k : ValsS h n0 v vals) {T : Sl} {x : Operand} (hx : ev T x = some (.one v)) {d : Option Tmp} {ty : TypeId} {ps : String} {af : Array Edge} {g : Option (Nat × Bool)} : execO Try.prog T h1 ⟨d, .call ⟨.builtin .len, #[x], #[26]⟩, ty, ps, af, g⟩ = some (.val (.one (.i .i64 (vals.length : Int))) h1) := by
 rcases k with ⟨rfl, rfl | rfl⟩ | ⟨kb, ko, c, ex, rfl, _⟩
 ·exact ex_len0 el26 hx
 ·exact ex_lenL el26 hx
 ·exact ex_len el26 hx
theorem ValsS.mono {h h1 : H} {n0 : Nat} {vals : List Int} {v : S} (k : ValsS h n0 v vals) (e : ∀ q x, q < n0 → h.get q = some x → h1.get q = some x) : ValsS h1 n0 v vals := by
 rcases k with k | ⟨vb, vo, c, ex, k1, k2, k3⟩
 ·exact .inl k
 ·exact .inr ⟨vb, vo, c, ex, k1, k2, fun i x hx => row_mono (fun x => e _ x k2) (k3 i x hx)⟩
theorem vok_of {vals : List Int} (hl : vals.length = 19) (h : ∀ i, i < vals.length → mayP i (vAt vals i) = true) : VOk vals := ⟨hl, fun i hi => by
 have := h i Om;simp [mayP] at this
 exact ⟨this.1.2, this.2⟩⟩
theorem VOk.may {vals : List Int} (k : VOk vals) {i : Nat} (hi : i < vals.length) : mayP i (vAt vals i) = true := by
 have hl := k.len;have := k.bd i Om;simp [mayP, this]; omega
theorem whole_fn {spec : CallF} (hs : SpecLay spec) {h : H} {n0 : Nat} {sv : S} {vals : List Int} (ok : Ok h) (hn : n0 ≤ h.next) (k : ValsS h n0 sv vals) :
  WF Try.prog spec 44 [.agg [sv]] h fun r h1 => (∃ t, r = .one (.b t) ∧ (t = true ↔ VOk vals)) ∧ Up (· < h.next) h h1 ∧ Ok h1 := by
 refine WF_of Try.func44 rfl (hs.s _ _ _) (by rw [Try.ntmps44]; simp) (by rw [Try.ntmps44]; decide) ?_;rw [Try.ntmps44, Try.results44];simp only [Sl.setMany_cons, Sl.setMany_nil, Nat.zero_add, Nat.reduceAdd]
 (repeat refine zS ?_); refine zR ?_
 refine WO_boxA (ee) ok Dc fun h1 n1 => ?_;refine VO ?_;refine zN ?_; (repeat refine zS ?_);refine W_scoped ?_
 repeat refine zS ?_
 (repeat refine zS ?_); refine zR ?_
 refine VO ?_;refine zN ?_; (repeat refine zS ?_);refine W_label ?_;have e1 := n1.next;refine W_here (fun j T h2 => Up (· < h1.next) h1 h2 ∧ Ok h2 ∧ ∃ k, j = vals.length - k ∧ k ≤ vals.length ∧ (∀ i, i < k → mayP i (vAt vals i) = true) ∧ T.get 1 = some (.one (.p h.next 0)) ∧ T.get 3 = some (.one (.i .i64 (k : Int)))) ?_ vals.length _ _ ⟨.refl _ _, n1.ok, 0, rfl, Nat.zero_le _, fun i hi => by omega, gs, gs⟩;rintro j T h2 ih ⟨u2, o2, i, rfl, hi, hall, t1, t3⟩;have c2 := u2.cells (show h.next < h1.next by omega) n1.cells;have k2 : ValsS h2 n0 sv vals := k.mono fun q x hq hx => by rw [u2.get (show q < h1.next by omega), n1.up.get (show q < h.next by omega)]; exact hx
 have un2 := u2.next
 have hi19 : i ≤ 19 := by
  rcases Nat.eq_zero_or_pos i with e | e
  ·omega
  ·have := hall (i - 1) Om;simp [mayP] at this; omega
 (repeat refine zS ?_); refine zR ?_
 iterate 2 (refine VX (Ga2 @t1 @t3) ?_)
 (refine VX (Gd3 @c2.row @t1 @t3) ?_)
 refine zV (k2.len (ee)) Dc ?_
 (refine VX (zB ee ee in_eql) ?_)
 refine zN ?_; (repeat refine zS ?_);refine zC (ee) (fun hc => ?_) (fun hc => W_skip ?_)
 ·have hc : i = vals.length := by have : (i : Int) = vals.length := by simpa using hc
                                  omega
  (repeat refine zS ?_); refine zR ?_
  iterate 3 (first | (refine VX (zB (Gs1 @t3) (Gs1 @t3) in_eql) ?_) | (refine VX (Ga1 @t3) ?_))
  refine zN (W_ret ⟨.inr rfl, _, RbA, ⟨_, rfl, ?_⟩, n1.up.trans (u2.mono fun q hq => by omega), o2⟩);rw [decide_eq_true_iff];refine ⟨fun e => vok_of Om fun i hi => hall i Om, fun e => by have := e.len; omega⟩
 ·have hc : (i : Int) ≠ vals.length := by simpa using hc
  have hc : i < vals.length := by omega
  obtain ⟨vb, vo, vc, ex, rfl, vl, vr⟩ : ∃ vb vo c ex, sv = .sl vb vo vals.length c 1 ex ∧ vb < n0 ∧ ∀ k x, vals[k]? = some x → h2.row vb (vo + k) 1 = some [.i .i64 x] := by
   rcases k2 with ⟨q, _⟩ | q
   ·rw [q] at hc; simp at hc
   ·exact q
  have vr := vr i _ (vAt_get hc)
  (repeat refine zS ?_); refine zR ?_
  iterate 6 (first | (refine VX (Gd4 @c2.row @vr @t1 @t3) ?_) | (refine VX (Gd2 @t1 @t3) ?_) | (refine VX (Ga2 @t1 @t3) ?_))
  refine WO_fn (ee) (by simp) Dc ((mayP_fn hs o2).mono ?_);rintro _ h3 ⟨rfl, u3, o3⟩;refine zN ?_; (repeat refine zS ?_);have un3 := u3.next;refine zC (ee) (fun hm => ?_) (fun hm => ?_)
  ·refine zS (zR ?_)
   iterate 3 (first | (refine VX (zB (Gs1 @t3) (Gs1 @t3) zA) ?_; (try rw [zI Om Om])) | (refine VX (Ga1 @t3) ?_))
   refine zN ?_; (repeat refine zS ?_);refine W_goto ?_; (repeat first | refine thenQ_goto ?_ | refine blockQ_goto ?_); refine scope_jump (by rfl) ?_; (repeat refine zS ?_);refine W_skip ?_;refine ih (vals.length - (i + 1)) Om _ _ ⟨u2.trans (u3.mono fun q hq => by omega), o3, i + 1, rfl, hc, fun i' hi' => ?_, gt t1, gs⟩
   by_cases e : i' = i
   ·subst e; exact hm
   ·exact hall i' Om
  ·refine W_skip ?_
   (repeat refine zS ?_); refine zR ?_
   refine VO ?_;refine zN (W_ret ⟨.inr rfl, _, RbA, ⟨_, rfl, ?_⟩, n1.up.trans ((u2.mono fun q hq => by omega).trans (u3.mono fun q hq => by omega)), o3⟩);exact ⟨fun e => (by cases e), fun e => (by rw [e.may hc] at hm; cases hm)⟩
structure RawOwn (h : H) (n0 : Nat) (t r : Int) (vals : List Int) (b o : Nat) : Prop where
 lt : b < n0
 id : h.row b o 2 = some [.i .i64 t, .i .i64 r]
 vs : ∃ sv, h.row b (o + 2) 1 = some [sv] ∧ ValsS h n0 sv vals
 pk : Pk h b
inductive RawAt (h : H) (n0 : Nat) : BoxT → Nat → Nat → Prop
 | leaf {t r : Int} {vals : List Int} {b o : Nat} {ks : S} : RawOwn h n0 t r vals b o → h.row b (o + 3) 1 = some [ks] → (ks = .sl0 ∨ ks = .lsl (Lin.num 0)) → RawAt h n0 (.mk t r vals []) b o
 | node {t r : Int} {vals : List Int} {kids : List BoxT} {b o kb ko c : Nat} {ex : Bool} : RawOwn h n0 t r vals b o → h.row b (o + 3) 1 = some [.sl kb ko kids.length c 4 ex] → kb < n0 → (∀ i k, kids[i]? = some k → RawAt h n0 k kb (ko + i * 4)) → RawAt h n0 (.mk t r vals kids) b o
theorem RawAt.own {h : H} {n0 b o : Nat} {B : BoxT} (k : RawAt h n0 B b o) : RawOwn h n0 B.t B.r B.vals b o := by cases k <;> assumption
def RawKids (h : H) (n0 : Nat) (kids : List BoxT) (ks : S) : Prop := (kids = [] ∧ (ks = .sl0 ∨ ks = .lsl (Lin.num 0))) ∨ ∃ kb ko c ex, ks = .sl kb ko kids.length c 4 ex ∧ kb < n0 ∧ ∀ i k, kids[i]? = some k → RawAt h n0 k kb (ko + i * 4)
theorem RawAt.kidsS {h : H} {n0 b o : Nat} {B : BoxT} (k : RawAt h n0 B b o) : ∃ ks, h.row b (o + 3) 1 = some [ks] ∧ RawKids h n0 B.kids ks := by
 cases k with
 | leaf h1 h2 h3 => exact ⟨_, h2, .inl ⟨rfl, h3⟩⟩
 | node h1 h2 h3 h5 => exact ⟨_, h2, .inr ⟨_, _, _, _, rfl, h3, h5⟩⟩
theorem RawAt.of {h : H} {n0 b o : Nat} {B : BoxT} {ks : S} (k : RawOwn h n0 B.t B.r B.vals b o) (h1 : h.row b (o + 3) 1 = some [ks]) (h2 : RawKids h n0 B.kids ks) : RawAt h n0 B b o := by
 cases B with
 | mk t r vals kids =>
  rcases h2 with ⟨e, q⟩ | ⟨kb, ko, c, ex, rfl, q1, q2⟩
  ·have e : kids = [] := e;subst e; exact .leaf k h1 q
  ·exact .node k h1 q1 q2
theorem RawOwn.mono {h h1 : H} {n0 m0 b o : Nat} {t r : Int} {vals : List Int} (k : RawOwn h n0 t r vals b o) (hn : n0 ≤ m0) (e : ∀ q x, q < n0 → h.get q = some x → h1.get q = some x) : RawOwn h1 m0 t r vals b o := by
 obtain ⟨sv, k1, k2⟩ := k.vs;refine ⟨by have := k.lt; omega, row_mono (fun x => e _ x k.lt) k.id, ⟨sv, row_mono (fun x => e _ x k.lt) k1, ?_⟩, k.pk.mono fun x => e _ x k.lt⟩;rcases k2.mono e with k2 | ⟨vb, vo, c, ex, q1, q2, q3⟩
 ·exact .inl k2
 ·exact .inr ⟨vb, vo, c, ex, q1, by omega, q3⟩
theorem RawAt.mono {h h1 : H} {n0 m0 b o : Nat} {B : BoxT} (k : RawAt h n0 B b o) (hn : n0 ≤ m0) (e : ∀ q x, q < n0 → h.get q = some x → h1.get q = some x) : RawAt h1 m0 B b o := by
 induction k with
 | leaf h1 h2 h3 => exact .leaf (h1.mono hn e) (row_mono (fun x => e _ x h1.lt) h2) h3
 | node h1 h2 h3 h5 ih => exact .node (h1.mono hn e) (row_mono (fun x => e _ x h1.lt) h2) Om ih
theorem RawKids.mono {h h1 : H} {n0 m0 : Nat} {kids : List BoxT} {ks : S} (k : RawKids h n0 kids ks) (hn : n0 ≤ m0) (e : ∀ q x, q < n0 → h.get q = some x → h1.get q = some x) : RawKids h1 m0 kids ks := by
 rcases k with k | ⟨kb, ko, c, ex, k1, k2, k3⟩
 ·exact .inl k
 ·exact .inr ⟨kb, ko, c, ex, k1, by omega, fun i x hx => (k3 i x hx).mono hn e⟩
inductive Good : BoxT → Prop
 | mk {t r : Int} {vals : List Int} {kids : List BoxT} : VOk vals → kids.length ≤ 1000 → (∀ k ∈ kids, Good k) → Good (.mk t r vals kids)
theorem ValsS.vals {h : H} {n0 b o : Nat} {sv : S} {vals : List Int} (k : ValsS h n0 sv vals) (vk : VOk vals) (hb : b < n0) (hr : h.row b (o + 2) 1 = some [sv]) : Vals h n0 b o vals := by
 rcases k with ⟨k, _⟩ | ⟨vb, vo, c, ex, rfl, k2, k3⟩
 ·have := vk.len; rw [k] at this; simp at this
 ·exact ⟨hb, vb, vo, c, ex, hr, k2, k3⟩
theorem RawAt.box {h : H} {n0 b o : Nat} {B : BoxT} (k : RawAt h n0 B b o) (g : Good B) : BoxAt h n0 B b o := by
 have own : ∀ {t r : Int} {vals : List Int} {b o : Nat}, RawOwn h n0 t r vals b o → VOk vals → BoxOwn h n0 t r vals b o := fun {t r vals b o} k v => by
  obtain ⟨sv, k1, k2⟩ := k.vs;exact ⟨k2.vals v k.lt k1, v, k.id, k.pk⟩
 induction k with
 | leaf h1 h2 h3 => cases g with
  | mk g1 g2 g3 => exact .leaf (own h1 g1) h2 h3
 | node h1 h2 h3 h5 ih => cases g with
  | mk g1 g2 g3 => exact .node (own h1 g1) h2 h3 g2 fun i k hk => ih i k hk (g3 k (List.mem_of_getElem? hk))
noncomputable section
open Classical
mutual
def cntI : BoxT → Nat → Int → Int
 | .mk _ _ vals kids, room, lim => if room = 0 ∨ lim < 1 ∨ ¬ VOk vals then -1 else cntL kids (room - 1) lim 1
def cntL : List BoxT → Nat → Int → Int → Int
 | [], _, _, n => n
 | k :: ks, room, lim, n => if cntI k room (lim - n) < 0 then -1 else cntL ks room lim (n + cntI k room (lim - n))
end
theorem cnt_le : ∀ B : BoxT, ∀ (room : Nat) (lim : Int), cntI B room lim = -1 ∨ (1 ≤ cntI B room lim ∧ cntI B room lim ≤ lim)
 | .mk t r vals kids, room, lim => by
  have hl : ∀ (ks : List BoxT), (∀ k ∈ ks, ∀ (room : Nat) (lim : Int), cntI k room lim = -1 ∨ (1 ≤ cntI k room lim ∧ cntI k room lim ≤ lim)) → ∀ (room : Nat) (n : Int), n ≤ lim → cntL ks room lim n = -1 ∨ (n ≤ cntL ks room lim n ∧ cntL ks room lim n ≤ lim) := by
   intro ks
   induction ks with
   | nil => intro _ room n hn; unfold cntL; right; omega
   | cons k ks ih =>
    intro hk room n hn;unfold cntL;have h1 := hk k (by simp) room (lim - n);split
    ·exact .inl rfl
    ·rcases ih (fun k h => hk k (by simp [h])) room (n + cntI k room (lim - n)) Om with h2 | h2
     ·exact .inl h2
     ·right; omega
  unfold cntI;split
  ·exact .inl rfl
  ·rename_i hc
   have := hl kids (fun k hk => cnt_le k) (room - 1) 1 (by
    have : ¬ lim < 1 := fun e => hc (.inr (.inl e))
    omega)
   rcases this with h | h
   ·exact .inl h
   ·right; omega
theorem cntL_neg : ∀ {ks : List BoxT} {room : Nat} {lim n : Int}, 0 ≤ n → 0 ≤ cntL ks room lim n → (∀ k ∈ ks, ∃ l, l ≤ lim ∧ 0 ≤ cntI k room l) ∧ n + ks.length ≤ cntL ks room lim n
 | [], room, lim, n, _, h => ⟨fun k hk => (by cases hk), by unfold cntL; simp⟩
 | k :: ks, room, lim, n, hn, h => by
  unfold cntL at h ⊢;split at h
  ·omega
  ·rename_i hc;rw [if_neg hc];have := cnt_le k room (lim - n);obtain ⟨h1, h2⟩ := cntL_neg Om h;refine ⟨fun x hx => ?_, by simp only [List.length_cons]; omega⟩;rcases List.mem_cons.1 hx with rfl | hx
   ·exact ⟨_, by omega, Int.not_lt.1 hc⟩
   ·exact h1 x hx
theorem cnt_good : ∀ (B : BoxT) {room : Nat} {lim : Int}, lim ≤ 1000 → 0 ≤ cntI B room lim → Good B
 | .mk t r vals kids, room, lim, hl, h => by
  have hle := cnt_le (.mk t r vals kids) room lim;unfold cntI at h hle;split at h
  ·omega
  ·rename_i hc;rw [if_neg hc] at hle;obtain ⟨h1, h2⟩ := cntL_neg Om h;have hv : VOk vals := Classical.byContradiction fun e => hc (.inr (.inr e))
   refine .mk hv Om fun k hk => ?_;obtain ⟨l, h2, h3⟩ := h1 k hk;exact cnt_good k Om h3
end
end Go.Ai
namespace Go.Ai
open Go.Proofs
theorem RawKids.len {h h1 : H} {n0 : Nat} {kids : List BoxT} {v : S} (k : RawKids h n0 kids v) {T : Sl} {x : Operand} (hx : ev T x = some (.one v)) {d : Option Tmp} {ty : TypeId} {ps : String} {af : Array Edge} {g : Option (Nat × Bool)} : execO Try.prog T h1 ⟨d, .call ⟨.builtin .len, #[x], #[29]⟩, ty, ps, af, g⟩ = some (.val (.one (.i .i64 (kids.length : Int))) h1) := by
 rcases k with ⟨rfl, rfl | rfl⟩ | ⟨kb, ko, c, ex, rfl, _⟩
 ·exact ex_len0 el29 hx
 ·exact ex_lenL el29 hx
 ·exact ex_len el29 hx
def CntFn (spec : CallF) (B : BoxT) : Prop := ∀ (h : H) (n0 b o room : Nat) (lim : Int), Ok h → n0 ≤ h.next → RawAt h n0 B b o → room ≤ 100 → 0 ≤ lim ∧ lim ≤ 1000 →
 WF Try.prog spec 36 [.one (.p b o), .one (.i .i64 (room : Int)), .one (.i .i64 lim)] h fun r h1 => r = .one (.i .i64 (cntI B room lim)) ∧ Up (· < h.next) h h1 ∧ Ok h1
theorem cntL_snoc : ∀ {l : List BoxT} {k : BoxT} {room : Nat} {lim n : Int}, 0 ≤ n → 0 ≤ cntL l room lim n → cntL (l ++ [k]) room lim n = if cntI k room (lim - cntL l room lim n) < 0 then -1 else cntL l room lim n + cntI k room (lim - cntL l room lim n)
 | [], k, room, lim, n, _, h => by
  show cntL [k] room lim n = _;have e : cntL [] room lim n = n := by unfold cntL; rfl
  rw [e];unfold cntL;split
  ·rfl
  ·unfold cntL; rfl
 | x :: l, k, room, lim, n, hn, h => by
  have e : ∀ m : List BoxT, cntL (x :: m) room lim n = if cntI x room (lim - n) < 0 then -1 else cntL m room lim (n + cntI x room (lim - n)) := fun m => by rw [cntL]
  rw [List.cons_append, e, e];rw [e] at h;split
  ·rename_i hc; rw [if_pos hc] at h; omega
  ·rename_i hc;rw [if_neg hc] at h;exact cntL_snoc Om h
theorem cntL_neg_app : ∀ {l m : List BoxT} {room : Nat} {lim n : Int}, 0 ≤ n → cntL l room lim n < 0 → cntL (l ++ m) room lim n = -1
 | [], m, room, lim, n, hn, h => by unfold cntL at h; omega
 | x :: l, m, room, lim, n, hn, h => by
  have e : ∀ m : List BoxT, cntL (x :: m) room lim n = if cntI x room (lim - n) < 0 then -1 else cntL m room lim (n + cntI x room (lim - n)) := fun m => by rw [cntL]
  rw [List.cons_append, e];rw [e] at h;split
  ·rfl
  ·rename_i hc;rw [if_neg hc] at h;exact cntL_neg_app Om h
theorem cntL_le {ks : List BoxT} {room : Nat} {lim n : Int} (hn : n ≤ lim) : cntL ks room lim n = -1 ∨ (n ≤ cntL ks room lim n ∧ cntL ks room lim n ≤ lim) := by
 induction ks generalizing n with
 | nil => unfold cntL; right; omega
 | cons k ks ih =>
  unfold cntL;have h1 := cnt_le k room (lim - n);split
  ·exact .inl rfl
  ·rcases ih (n := n + cntI k room (lim - n)) Om with h2 | h2
   ·exact .inl h2
   ·right; omega
open Classical in
theorem count_step {spec : CallF} (hs : SpecLay spec) {B : BoxT} (hL : ∀ C ∈ B.kids, CntFn spec C) : CntFn spec B := by
 intro h n0 b o room lim ok hn bx hroom hlim;have own := bx.own;have hbb := own.lt;obtain ⟨sv, rsv, hsv⟩ := own.vs;obtain ⟨kS, hks, hkS⟩ := bx.kidsS
 have hB : cntI B room lim = if room = 0 ∨ lim < 1 ∨ ¬ VOk B.vals then -1 else cntL B.kids (room - 1) lim 1 := by
  cases B; unfold cntI; rfl
 refine WF_of Try.func36 rfl (hs.s _ _ _) (by rw [Try.ntmps36]; simp) (by rw [Try.ntmps36]; decide) ?_;rw [Try.ntmps36, Try.results36];simp only [Sl.setMany_cons, Sl.setMany_nil, Nat.zero_add, Nat.reduceAdd]
 (repeat refine zS ?_); refine zR ?_
 refine VO ?_;refine zN ?_; (repeat refine zS ?_);refine zR ?_;refine VO ?_;refine zN ?_;refine zS ?_;refine zS ?_;refine W_cut (fun T h1 => Up (· < h.next) h h1 ∧ Ok h1 ∧ T.get 0 = some (.one (.p b o)) ∧ T.get 1 = some (.one (.i .i64 (room : Int))) ∧ T.get 2 = some (.one (.i .i64 lim)) ∧ T.get 7 = some (.one (.i .i64 1)) ∧ ∃ t, T.get 23 = some (.one (.b t)) ∧ (t = true ↔ (room = 0 ∨ lim < 1 ∨ ¬ VOk B.vals))) ?_ ?_
 ·refine zR ?_
  by_cases c1 : room = 0
  ·have d1 : decide ((room : Int) = 0) = true := decide_eq_true Om
   iterate 11 (first | (refine VX (zB (Gs1 @d1) (Gs1 @d1) in_eql) ?_) | (refine VG (zT rfl rfl (Gs1 @d1) rfl) (zB (Gs1 @d1) (Gs1 @d1) zL) ?_) | (refine VN (zG rfl rfl (Gs1 @d1) rfl) ?_) | (refine VG (zT rfl rfl (Gs1 @d1) rfl) (Ga1 @d1) ?_) | (refine VG (zT rfl rfl (Gs1 @d1) rfl) (Gd2 @rsv @d1) ?_) | (refine VX (Ga1 @d1) ?_))
   refine WO_notG (zG rfl rfl (Gs1 @d1) rfl) Dc ?_
   first | (refine VN (zG rfl rfl (Gs1 @d1) rfl) ?_) | (refine VG (zT rfl rfl (Gs1 @d1) rfl) (ex_not (Gs1 @d1)) ?_)
   (refine VX (Ga1 @d1) ?_)
   exact zN ⟨rfl, .refl _ _, ok, gs, gs, gs, gs, true, by simp only [go_sem, ↓reduceIte, Nat.reduceEqDiff, d1], by simp [c1]⟩
  ·have d1 : decide ((room : Int) = 0) = false := decide_eq_false Om
   by_cases c2 : lim < 1
   ·have d2 : decide (lim < 1) = true := decide_eq_true c2
    iterate 11 (first | (refine VX (zB (Gs2 @d1 @d2) (Gs2 @d1 @d2) in_eql) ?_) | (refine VG (zT rfl rfl (Gs2 @d1 @d2) rfl) (zB (Gs2 @d1 @d2) (Gs2 @d1 @d2) zL) ?_) | (refine VN (zG rfl rfl (Gs2 @d1 @d2) rfl) ?_) | (refine VG (zT rfl rfl (Gs2 @d1 @d2) rfl) (Ga2 @d1 @d2) ?_) | (refine VG (zT rfl rfl (Gs2 @d1 @d2) rfl) (Gd3 @rsv @d1 @d2) ?_) | (refine VX (Ga2 @d1 @d2) ?_))
    refine WO_notG (zG rfl rfl (Gs2 @d1 @d2) rfl) Dc ?_
    first | (refine VN (zG rfl rfl (Gs2 @d1 @d2) rfl) ?_) | (refine VG (zT rfl rfl (Gs2 @d1 @d2) rfl) (ex_not (Gs2 @d1 @d2)) ?_)
    (refine VX (Ga2 @d1 @d2) ?_)
    exact zN ⟨rfl, .refl _ _, ok, gs, gs, gs, gs, true, by simp only [go_sem, ↓reduceIte, Nat.reduceEqDiff, d1, d2], by simp [c2]⟩
   ·have d2 : decide (lim < 1) = false := decide_eq_false c2
    iterate 11 (first | (refine VX (zB (Gs2 @d1 @d2) (Gs2 @d1 @d2) in_eql) ?_) | (refine VG (zT rfl rfl (Gs2 @d1 @d2) rfl) (zB (Gs2 @d1 @d2) (Gs2 @d1 @d2) zL) ?_) | (refine VN (zG rfl rfl (Gs2 @d1 @d2) rfl) ?_) | (refine VG (zT rfl rfl (Gs2 @d1 @d2) rfl) (Ga2 @d1 @d2) ?_) | (refine VG (zT rfl rfl (Gs2 @d1 @d2) rfl) (Gd3 @rsv @d1 @d2) ?_) | (refine VX (Ga2 @d1 @d2) ?_))
    refine WO_fnG (zT rfl rfl (Gs2 @d1 @d2) rfl) (Gt2 @d1 @d2) (by simp) Dc ((whole_fn hs ok hn hsv).mono ?_);rintro _ h1 ⟨⟨t, rfl, ht⟩, u1, o1⟩
    first | (refine VN (zG rfl rfl (Gs2 @d1 @d2) rfl) ?_) | (refine VG (zT rfl rfl (Gs2 @d1 @d2) rfl) (ex_not (Gs2 @d1 @d2)) ?_)
    (refine VX (Ga2 @d1 @d2) ?_)
    exact zN ⟨rfl, u1, o1, gs, gs, gs, gs, !t, by simp only [go_sem, ↓reduceIte, Nat.reduceEqDiff, d1, d2], by cases t <;> simp_all⟩
 rintro T h1 ⟨u1, o1, t0, t1, t2, t7, t, t23, ht⟩;have un1 := u1.next;refine zC (Gt1 @t23) (fun hc => ?_) (fun hc => W_skip ?_)
 ·rw [if_pos (ht.1 hc)] at hB;refine zS (zR ?_);refine VO ?_;exact zN (W_ret ⟨.inr rfl, _, RbA, by rw [hB], u1, o1⟩)
 have hcn : ¬ (room = 0 ∨ lim < 1 ∨ ¬ VOk B.vals) := fun e => by rw [ht.2 e] at hc; cases hc
 rw [if_neg hcn] at hB;have hlim1 : ¬ lim < 1 := fun e => hcn (.inr (.inl e))
 have hroom0 : room ≠ 0 := fun e => hcn (.inl e)
 have hks1 : h1.row b (o + 3) 1 = some [kS] := by rw [u1.row (show b < h.next by omega)]; exact hks
 have hle := @cntL_le B.kids (room - 1) lim 1 Om;clear ht t23 hc
 (repeat refine zS ?_); refine zR ?_
 iterate 3 (refine VX (Ga1 @t0) ?_)
 (refine VX (Gd2 @hks1 @t0) ?_)
 refine zV (hkS.len (ee)) Dc ?_;refine VO ?_;refine zN ?_; (repeat refine zS ?_);refine W_cutR (fun T h2 => Up (· < h.next) h h2 ∧ Ok h2 ∧ T.get 7 = some (.one (.i .i64 (cntL B.kids (room - 1) lim 1))) ∧ 0 ≤ cntL B.kids (room - 1) lim 1) ?_ ?_
 ·refine zK (W_rounds (fun j T h2 => ∃ i, j = B.kids.length - i ∧ i ≤ B.kids.length ∧ Up (· < h.next) h h2 ∧ Ok h2 ∧ T.get 0 = some (.one (.p b o)) ∧ T.get 1 = some (.one (.i .i64 (room : Int))) ∧ T.get 2 = some (.one (.i .i64 lim)) ∧ T.get 7 = some (.one (.i .i64 (cntL (B.kids.take i) (room - 1) lim 1))) ∧ 0 ≤ cntL (B.kids.take i) (room - 1) lim 1 ∧ T.get 28 = some (.one (.i .i64 (B.kids.length : Int))) ∧ T.get 29 = some (.one (.i .i64 (i : Int)))) ?_ B.kids.length _ _ ?_);rotate_left
  ·exact ⟨0, rfl, Nat.zero_le _, u1, o1, gt t0, gt t1, gt t2, gt t7, by rw [List.take_zero]; unfold cntL; omega, gs, gs⟩
  clear t0 t1 t2 t7 hks1 u1 o1;rintro j T h2 ⟨i, rfl, hin, u2, o2, t0, t1, t2, t7, hpos, t28, t29⟩;have un2 := u2.next
  (repeat refine zS ?_); refine zR ?_
  (refine VX (zB (Gs2 @t28 @t29) (Gs2 @t28 @t29) zL) ?_)
  refine zN ?_; (repeat refine zS ?_);refine zC (ee) (fun hlt => W_skip ?_) (fun hge => W_exit ?_)
  ·have hi' : (i : Int) < (B.kids.length : Int) := by simpa using hlt
   have hi' : i < B.kids.length := by omega
   obtain ⟨C, hC⟩ : ∃ C, B.kids[i]? = some C := ⟨_, List.getElem?_eq_getElem hi'⟩;have htk : B.kids.take (i + 1) = B.kids.take i ++ [C] := by have := map_take (f := id) hC; simpa using this
   obtain ⟨kb, ko, kc, kx, rfl, hkb, hat⟩ : ∃ kb ko c ex, kS = .sl kb ko B.kids.length c 4 ex ∧ kb < n0 ∧ ∀ i k, B.kids[i]? = some k → RawAt h n0 k kb (ko + i * 4) := by
    rcases hkS with ⟨e, _⟩ | q
    ·rw [e] at hi'; simp at hi'
    ·exact q
   have hks2 : h2.row b (o + 3) 1 = some [.sl kb ko B.kids.length kc 4 kx] := by rw [u2.row (show b < h.next by omega)]; exact hks
   have bC : RawAt h2 n0 C kb (ko + i * 4) := (hat i C hC).mono (Nat.le_refl _) fun q x hq hx => by rw [u2.get (show q < h.next by omega)]; exact hx
   have hsn := cntL_snoc (l := B.kids.take i) (k := C) (room := room - 1) (lim := lim) (n := 1) Om hpos;rw [← htk] at hsn;have hcl := cntL_le (ks := B.kids.take i) (room := room - 1) (lim := lim) (n := 1) Om
   have hall : cntL (B.kids.take (i + 1)) (room - 1) lim 1 < 0 → cntL B.kids (room - 1) lim 1 = -1 := fun e => by
    have := cntL_neg_app (m := B.kids.drop (i + 1)) Om e
    rwa [List.take_append_drop] at this
   generalize hN : cntL (B.kids.take i) (room - 1) lim 1 = N at *;have hcnt := cnt_le C (room - 1) (lim - N)
   repeat refine zS ?_
   refine W_cutR (fun T2 h3 => Up (· < h.next) h h3 ∧ Ok h3 ∧ T2.get 0 = some (.one (.p b o)) ∧ T2.get 1 = some (.one (.i .i64 (room : Int))) ∧ T2.get 2 = some (.one (.i .i64 lim)) ∧ T2.get 7 = some (.one (.i .i64 (cntL (B.kids.take (i + 1)) (room - 1) lim 1))) ∧ 0 ≤ cntL (B.kids.take (i + 1)) (room - 1) lim 1 ∧ T2.get 28 = some (.one (.i .i64 (B.kids.length : Int))) ∧ T2.get 29 = some (.one (.i .i64 (i : Int)))) ?_ ?_
   ·refine zK ?_
    (repeat refine zS ?_); refine zR ?_
    iterate 2 (refine VX (Ga1 @t29) ?_)
    refine zN ?_; (repeat refine zS ?_);refine zR ?_
    iterate 11 (first | (refine VX (zB (Gs4 @t0 @t1 @t2 @t7) (Gs4 @t0 @t1 @t2 @t7) in_sub) ?_; (try rw [zI Om Om])) | (refine VX (Gd5 @hks2 @t0 @t1 @t2 @t7) ?_) | (refine VX (Gd4 @t0 @t1 @t2 @t7) ?_) | (refine VX (Ga4 @t0 @t1 @t2 @t7) ?_))
    rw [show (room : Int) - 1 = ((room - 1 : Nat) : Int) by omega];refine WO_fn (ee) (by simp) Dc ((hL C (List.mem_of_getElem? hC) h2 n0 kb (ko + i * 4) (room - 1) (lim - N) o2 Om bC Om ⟨by omega, by omega⟩).mono ?_);rintro _ h3 ⟨rfl, u3, o3⟩;have u3 : Up (· < h.next) h h3 := u2.trans (u3.mono fun q hq => by omega);refine VO ?_;refine zN ?_;refine zS ?_;refine zS ?_;refine zR ?_;refine VO ?_
    (refine VX (zB ee ee zL) ?_)
    refine zN ?_;refine zC (ee) (fun hc => ?_) (fun hc => W_skip ?_)
    ·have hc : cntI C (room - 1) (lim - N) < 0 := by simpa using hc
     rw [if_pos hc] at hsn;refine zS (zR ?_);refine VO ?_;refine zN (W_ret (.inr ⟨by simp, .inr ⟨by simp, .inr rfl, _, RbA, ?_, u3, o3⟩⟩));rw [hB, hall Om]
    ·have hc : ¬ cntI C (room - 1) (lim - N) < 0 := by simpa using hc
     rw [if_neg hc] at hsn;refine zR ?_
     iterate 4 (first | (refine VX (zB (Gs1 @t7) (Gs1 @t7) zA) ?_; (try rw [zI Om Om])) | (refine VX (Ga1 @t7) ?_))
     exact zN (.inl ⟨rfl, u3, o3, gt t0, gt t1, gt t2, by rw [hsn]; (simp only [go_sem, ↓reduceIte, Nat.reduceEqDiff] <;> first | rfl | simp), by omega, gt t28, gt t29⟩)
   ·rintro T2 h3 ⟨u3, o3, t0, t1, t2, t7, hp, t28, t29⟩;have hl1 := (cntL_neg Om hp).2;have hl2 := cntL_le (ks := B.kids.take (i + 1)) (room := room - 1) (lim := lim) (n := 1) Om;rw [List.length_take] at hl1;have hi1000 : i + 1 ≤ 1000 := by omega
    refine zR ?_
    (refine VX (zB (Gs1 @t29) (Gs1 @t29) zA) ?_; (try rw [zI Om Om]))
    (refine VX (Ga1 @t29) ?_)
    exact zN ⟨B.kids.length - (i + 1), by omega, i + 1, rfl, hi', u3, o3, gt t0, gt t1, gt t2, gt t7, hp, gt t28, gs⟩
  ·have hge2 : ¬ (i : Int) < (B.kids.length : Int) := by simpa using hge
   have hiN : i = B.kids.length := by omega
   rw [hiN, List.take_length] at t7 hpos;exact ⟨fun _ => .inl ⟨rfl, u2, o2, t7, hpos⟩, fun hne => absurd rfl hne⟩
 rintro T h2 ⟨u2, o2, t7, hp⟩
 (repeat refine zS ?_); refine zR ?_
 iterate 2 (refine VX (Ga1 @t7) ?_)
 exact zN (W_ret ⟨.inr rfl, _, RbA, by rw [hB], u2, o2⟩)
theorem count_fn {spec : CallF} (hs : SpecLay spec) (B : BoxT) : CntFn spec B := count_step hs fun C hC => count_fn hs C
termination_by SizeOf.sizeOf B
decreasing_by
 cases B with
 | mk t r vals kids =>
  have h : SizeOf.sizeOf C < SizeOf.sizeOf kids := List.sizeOf_lt_of_mem hC;simp; omega
end Go.Ai
namespace Go.Ai
open Go.Proofs
section
variable {P : Program} {spec : CallF} {nt : Nat} {T : Sl} {h : H} {K : Sl → H → Prop} {all l : List Oper} {ty : TypeId} {ps : String} {af : Array Edge} {d : Tmp}
theorem WO_map {t k e : TypeId} (hu : P.underlying t = some (.map k e)) (o : Ok h) (hd : d < nt) (hk : ∀ h1, Up (· < h.next) h h1 → h1.next = h.next + 1 → h1.get h.next = some (.map []) → h1.may h.next = true → Ok h1 → WO P spec nt all l (T.set d (.one (.m h.next))) h1 K) : WO P spec nt all (⟨some d, .makeMap t none, ty, ps, af, none⟩ :: l) T h K := by
 have u : Up (· < h.next) h (h.alloc (.map [])) := .alloc fun b hb => Nat.ne_of_lt hb
 refine zV (h1 := h.alloc (.map [])) ?_ hd (hk _ u rfl (by rw [H.get_alloc _ _ _ o.top, if_pos rfl]) (o.mayNew u (Nat.le_refl _)) (u.ok o))
 have : doMakeMap P h t none = some (.val (.one (.m h.next)) (h.alloc (.map []))) := by
  unfold doMakeMap;simp only;rw [hu];simp only;rw [forceN_eq, H.allocK_eq]
 exact this
end
structure ValAt (h : H) (n0 : Nat) (B : BoxT) (xs : List S) : Prop where
 e : ∃ sv ks, xs = [.i .i64 B.t, .i .i64 B.r, sv, ks] ∧ ValsS h n0 sv B.vals ∧ RawKids h n0 B.kids ks
theorem ValAt.len {h : H} {n0 : Nat} {B : BoxT} {xs : List S} (k : ValAt h n0 B xs) : xs.length = 4 := by obtain ⟨_, _, rfl, _⟩ := k.e; rfl
theorem ValAt.mono {h h1 : H} {n0 : Nat} {B : BoxT} {xs : List S} (k : ValAt h n0 B xs) (e : ∀ q x, q < n0 → h.get q = some x → h1.get q = some x) : ValAt h1 n0 B xs := by
 obtain ⟨sv, ks, h1, h2, h3⟩ := k.e;exact ⟨sv, ks, h1, h2.mono e, h3.mono (Nat.le_refl _) e⟩
theorem ValAt.upLt {h h1 : H} {n0 : Nat} {B : BoxT} {xs : List S} (k : ValAt h n0 B xs) (hn : n0 ≤ h.next) (u : Up (· < h.next) h h1) : ValAt h1 n0 B xs := k.mono fun q x hq hx => by rw [u.get (show q < h.next by omega)]; exact hx
theorem ValAt.boxed {h h1 : H} {n0 : Nat} {B : BoxT} {xs : List S} (k : ValAt h n0 B xs) (hn : n0 ≤ h.next) (n : New h h1 31 xs) : RawAt h1 (h.next + 1) B h.next 0 := by
 obtain ⟨sv, ks, rfl, h2, h3⟩ := k.e;have e : ∀ q x, q < n0 → h.get q = some x → h1.get q = some x := fun q x hq hx => by rw [n.up.get (show q < h.next by omega)]; exact hx
 have hv : ValsS h1 (h.next + 1) sv B.vals := by
  rcases h2.mono e with q | ⟨vb, vo, c, ex, q1, q2, q3⟩
  ·exact .inl q
  ·exact .inr ⟨vb, vo, c, ex, q1, by omega, q3⟩
 obtain ⟨cs, hc, _⟩ := n.cells;refine .of ⟨by omega, ?_, ⟨sv, n.cells.at1 rfl, hv⟩, .inl ⟨_, _, _, hc⟩⟩ (n.cells.at1 rfl) (h3.mono Om e);rw [n.cells.row (by simp)]; rfl
theorem many_fn {spec : CallF} (hs : SpecLay spec) {h : H} {n0 : Nat} {B : BoxT} {xs : List S} (ok : Ok h) (hn : n0 ≤ h.next) (k : ValAt h n0 B xs) :
  WF Try.prog spec 26 [.agg xs] h fun r h1 => r = .one (.i .i64 (cntI B 13 1000)) ∧ Up (· < h.next) h h1 ∧ Ok h1 := by
 refine WF_of Try.func26 rfl (hs.s _ _ _) (by rw [Try.ntmps26]; simp) (by rw [Try.ntmps26]; decide) ?_;rw [Try.ntmps26, Try.results26];simp only [Sl.setMany_cons, Sl.setMany_nil, Nat.zero_add, Nat.reduceAdd]
 (repeat refine zS ?_); refine zR ?_
 refine WO_boxA (ee) ok Dc fun h1 n1 => ?_;refine VO ?_;refine zN ?_; (repeat refine zS ?_);refine zR ?_;refine WO_fn (ee) (by simp) Dc ((count_fn hs B h1 (h.next + 1) h.next 0 13 1000 n1.ok (by have := n1.next; omega) (k.boxed hn n1) Om Om).mono ?_);rintro _ h2 ⟨rfl, u2, o2⟩;refine VO ?_;have e1 := n1.next;exact zN (W_ret ⟨.inr rfl, _, RbA, rfl, n1.up.trans (u2.mono fun q hq => by omega), o2⟩)
theorem all_fn {spec : CallF} (hs : SpecLay spec) {h : H} {n0 : Nat} {B : BoxT} {xs : List S} {w : Int} (ok : Ok h) (hn : n0 ≤ h.next) (k : ValAt h n0 B xs) (g : Good B) (hw : 0 ≤ w ∧ w ≤ 1099511627776) :
  WF Try.prog spec 28 [.agg xs, .one (.i .i64 w)] h fun r h1 => ∃ ks, r = .agg ((layI B w (-1) (-1)).cells ks) ∧ GeosAt h1 (fun q => h.next ≤ q) (layI B w (-1) (-1)).kids ks ∧ Up (· < h.next) h h1 ∧ Ok h1 := by
 refine WF_of Try.func28 rfl (hs.s _ _ _) (by rw [Try.ntmps28]; simp) (by rw [Try.ntmps28]; decide) ?_;rw [Try.ntmps28, Try.results28];simp only [Sl.setMany_cons, Sl.setMany_nil, Nat.zero_add, Nat.reduceAdd]
 (repeat refine zS ?_); refine zR ?_
 refine WO_boxA (ee) ok Dc fun h1 n1 => ?_;have e1 := n1.next;refine WO_alloc zb37 rfl n1.ok Dc fun h2 n2 => ?_;have e2 := n2.next;refine zN ?_; (repeat refine zS ?_);refine zR ?_;refine WO_map und70 n2.ok Dc fun h3 u3 e3 g3 m3 o3 => ?_;refine zV (v := .agg [.m h2.next]) (by rw [ex_build]; exact bd_of (by kernel_rfl : placesOf Try.prog 72 = some [(0, 1)]) (by kernel_rfl : zeroB Try.prog 72 = some (.agg [.m0])) (by simp only [evParts, go_sem, ↓reduceIte, Nat.reduceEqDiff]; rfl) rfl) Dc ?_;refine WO_boxA (ee) o3 Dc fun h4 n4 => ?_;have e4 := n4.next;refine VO ?_;refine zN ?_; (repeat refine zS ?_);refine zR ?_
 iterate 2 (refine VO ?_)
 refine zV (v := .agg [.p h.next 0, .i .i64 w, .i .i64 (-1), .i .i64 (-1)]) (by rw [ex_build]; exact bd_of (by kernel_rfl : placesOf Try.prog 75 = some [(0, 1), (1, 1), (2, 1), (3, 1)]) zb75 (by simp only [evParts, go_sem, ↓reduceIte, Nat.reduceEqDiff]; rfl) rfl) Dc ?_;have v4 : Up (fun q => q < h1.next) h1 h4 := n2.up.trans ((u3.mono fun q hq => by omega).trans (n4.up.mono fun q hq => by omega));have bx : BoxAt h4 (h.next + 1) B h.next 0 := ((k.boxed hn n1).mono (Nat.le_refl _) fun q x hq hx => by rw [v4.get (show q < h1.next by omega)]; exact hx).box g;have km : MapOk h4 (h.next + 1) h3.next h2.next (fun _ => False) := ⟨by omega, n4.cells.at1 rfl, by rw [n4.up.may]; exact m3, [], by rw [n4.up.get (show h2.next < h3.next by omega)]; exact g3, fun e he => by cases he⟩;refine WO_fn (ee) (by simp) Dc ((lay_fn hs B h4 (h.next + 1) h3.next h2.next h.next 0 (fun _ => False) w (-1) (-1) n4.ok km (fun q hq => hq.elim) bx ⟨hw, by omega, by omega⟩).mono ?_);rintro _ h5 ⟨ks, rfl, g5, u5, m5, o5⟩;have e5 := u5.next;have cr5 := u5.cells (b := h1.next) ⟨by omega, by omega⟩ (n4.up.cells (show h1.next < h3.next by omega) (u3.cells (show h1.next < h2.next by omega) n2.cells));have mr5 : h5.may h1.next = true := by rw [u5.may, n4.up.may, u3.may]; exact n2.may
 have hcl := GeoT.cells_len (layI B w (-1) (-1)) ks;refine WO_storeA (ee) (ee) sz37 hcl (fun e => by rw [e] at hcl; cases hcl) cr5 mr5 (by rw [hcl]; exact Nat.le_refl _) fun h6 p6 => ?_;have p6 : Put h5 h6 h1.next 37 ((layI B w (-1) (-1)).cells ks) := p6.whole (by rw [hcl]; rfl);have r6 : h6.row h1.next 0 5 = some ((layI B w (-1) (-1)).cells ks) := by have := p6.cells.all; rwa [hcl] at this
 refine zN (W_ret ⟨.inr rfl, _, by (simp only [resultB, resB, parts, V.part, Sl.get_set', ↓reduceIte, Nat.reduceEqDiff, LD37, r6, aggR_some] <;> rfl), ks, rfl, g5.up p6.up (fun q h1 _ => by have := h1.1; show q ≠ _; omega) (fun q h1 _ => by have := h1.1; omega), ?_, p6.ok o5⟩);exact n1.up.trans ((v4.mono fun q hq => by omega).trans ((u5.mono fun q hq => ⟨by omega, by omega⟩).trans (p6.up.mono fun q hq => by omega)))
def zGeo : List S := [.i .i64 (Int.ofNat 0), .i .i64 (Int.ofNat 0), .c .f64 0 0, .c .f64 0 0, .sl0]
def LayOk (B : BoxT) (w : Int) : Prop := 0 ≤ cntI B 13 1000 ∧ 0 ≤ w ∧ w ≤ 1099511627776
theorem laytop_fn {spec : CallF} (hs : SpecLay spec) {h : H} {n0 : Nat} {B : BoxT} {xs : List S} {w : Int} (ok : Ok h) (hn : n0 ≤ h.next) (k : ValAt h n0 B xs) :
  WF Try.prog spec 14 [.agg xs, .one (.i .i64 w)] h fun r h1 => ((¬ LayOk B w ∧ r = .tup [(true, zGeo), (false, [.i .i64 1])]) ∨ (LayOk B w ∧ ∃ ks, r = .tup [(true, (layI B w (-1) (-1)).cells ks), (false, [.i .i64 0])] ∧ GeosAt h1 (fun q => h.next ≤ q) (layI B w (-1) (-1)).kids ks)) ∧ Up (· < h.next) h h1 ∧ Ok h1 := by
 refine WF_of Try.func14 rfl (hs.s _ _ _) (by rw [Try.ntmps14]; simp) (by rw [Try.ntmps14]; decide) ?_;rw [Try.ntmps14, Try.results14];simp only [Sl.setMany_cons, Sl.setMany_nil, Nat.zero_add, Nat.reduceAdd];have hxl := k.len
 (repeat refine zS ?_); refine zR ?_
 refine WO_boxA (ee) ok Dc fun h1 n1 => ?_;have e1 := n1.next;refine WO_alloc zb37 rfl n1.ok Dc fun h2 n2 => ?_;have e2 := n2.next;refine VO ?_;refine zN ?_;refine zS ?_;have u2 : Up (· < h.next) h h2 := n1.up.trans (n2.up.mono fun q hq => by omega);have rx2 : h2.row h.next 0 4 = some xs := by have := (n2.up.cells (show h.next < h1.next by omega) n1.cells).all; rwa [hxl] at this
 refine W_cutR (fun T h3 => LayOk B w ∧ Up (· < h2.next) h2 h3 ∧ Ok h3 ∧ T.get 1 = some (.one (.i .i64 w)) ∧ T.get 2 = some (.one (.p h.next 0)) ∧ T.get 4 = some (.one (.p h1.next 0))) ?_ ?_
 ·refine zS ?_;refine W_cut (fun T h3 => Up (· < h2.next) h2 h3 ∧ Ok h3 ∧ T.get 1 = some (.one (.i .i64 w)) ∧ T.get 2 = some (.one (.p h.next 0)) ∧ T.get 4 = some (.one (.p h1.next 0)) ∧ ∃ t, T.get 13 = some (.one (.b t)) ∧ (t = true ↔ ¬ LayOk B w)) ?_ ?_
  ·refine zR ?_
   (refine VX (Gd1 @rx2) ?_)
   refine WO_fn (ee) (by simp) Dc ((many_fn hs n2.ok Om (k.upLt hn u2)).mono ?_);rintro _ h3 ⟨rfl, u3, o3⟩
   by_cases c1 : cntI B 13 1000 < 0
   ·have d1 : decide (cntI B 13 1000 < 0) = true := decide_eq_true c1
    (refine VX (zB (Gs1 @d1) (Gs1 @d1) zL) ?_)
    (refine VX (Ga1 @d1) ?_)
    first | (refine VN (zG rfl rfl (Gs1 @d1) rfl) ?_) | (refine VG (zT rfl rfl (Gs1 @d1) rfl) (Ga1 @d1) ?_)
    refine WO_notG (zG rfl rfl (Gs1 @d1) rfl) Dc ?_
    first | (refine VN (zG rfl rfl (Gs1 @d1) rfl) ?_) | (refine VG (zT rfl rfl (Gs1 @d1) rfl) (ex_not (Gs1 @d1)) ?_)
    (refine VX (Ga1 @d1) ?_)
    exact zN ⟨rfl, u3, o3, gs, gs, gs, true, by simp only [go_sem, ↓reduceIte, Nat.reduceEqDiff, d1], by unfold LayOk; simp; omega⟩
   ·have d1 : decide (cntI B 13 1000 < 0) = false := decide_eq_false c1
    (refine VX (zB (Gs1 @d1) (Gs1 @d1) zL) ?_)
    (refine VX (Ga1 @d1) ?_)
    first | (refine VN (zG rfl rfl (Gs1 @d1) rfl) ?_) | (refine VG (zT rfl rfl (Gs1 @d1) rfl) (Ga1 @d1) ?_)
    refine WO_fnG (zT rfl rfl (Gs1 @d1) rfl) (Gt1 @d1) (by simp) Dc ((lplain_fn hs).mono ?_);rintro _ h3 ⟨rfl, rfl⟩
    first | (refine VN (zG rfl rfl (Gs1 @d1) rfl) ?_) | (refine VG (zT rfl rfl (Gs1 @d1) rfl) (ex_not (Gs1 @d1)) ?_)
    (refine VX (Ga1 @d1) ?_)
    exact zN ⟨rfl, u3, o3, gs, gs, gs, !decide (0 ≤ w ∧ w ≤ 1099511627776), by simp only [go_sem, ↓reduceIte, Nat.reduceEqDiff, d1], by unfold LayOk; simp; omega⟩
  rintro T h3 ⟨u3, o3, t1, t2, t4, t, t13, ht⟩;refine zC (Gt1 @t13) (fun hc => ?_) (fun hc => W_skip ?_)
  ·refine zS (zR ?_);have cr3 := u3.cells (show h1.next < h2.next by omega) n2.cells;have mr3 : h3.may h1.next = true := by rw [u3.may]; exact n2.may
   refine zV (v := .agg zGeo) (by rw [ex_build]; exact bd_of (by kernel_rfl : placesOf Try.prog 37 = some [(0, 2), (2, 1), (3, 1), (4, 1)]) zb37 (by simp only [evParts]; rfl) rfl) Dc ?_;refine WO_storeA (Gt1 @t4) (ee) sz37 rfl (by simp [zGeo]) cr3 mr3 (by simp [zGeo, V.cells]) fun h4 p4 => ?_;have r4 : h4.row h1.next 0 5 = some zGeo := (p4.whole rfl).cells.all;refine VO ?_;refine zN (W_ret (.inr ⟨by simp, .inr rfl, _, by (simp only [resultB, resB, parts, V.part, Sl.get_set', ↓reduceIte, Nat.reduceEqDiff, t4, LD37, r4, aggR_some] <;> rfl), .inl ⟨ht.1 hc, rfl⟩, ?_, p4.ok o3⟩));exact u2.trans ((u3.mono fun q hq => by omega).trans (p4.up.mono fun q hq => by omega))
  ·exact .inl ⟨rfl, Classical.byContradiction fun e => (by rw [ht.2 e] at hc; cases hc), u3, o3, t1, t2, t4⟩
 rintro T h3 ⟨hok, u3, o3, t1, t2, t4⟩;have rx3 : h3.row h.next 0 4 = some xs := by rw [u3.row (show h.next < h2.next by omega)]; exact rx2
 have un3 := u3.next;have v3 : Up (· < h.next) h h3 := u2.trans (u3.mono fun q hq => by omega)
 (repeat refine zS ?_); refine zR ?_
 (refine VX (Gd3 @rx3 @t1 @t2) ?_)
 (refine VX (Ga2 @t1 @t2) ?_)
 refine WO_fn (ee) (by simp) Dc ((all_fn hs o3 Om (k.upLt hn v3) (cnt_good B (Int.le_refl _) hok.1) hok.2).mono ?_);rintro _ h4 ⟨ks, rfl, g4, u4, o4⟩;have cr4 := u4.cells (show h1.next < h3.next by omega) (u3.cells (show h1.next < h2.next by omega) n2.cells);have mr4 : h4.may h1.next = true := by rw [u4.may, u3.may]; exact n2.may
 have hcl := GeoT.cells_len (layI B w (-1) (-1)) ks;refine WO_storeA (Gt1 @t4) (ee) sz37 hcl (fun e => by rw [e] at hcl; cases hcl) cr4 mr4 (by rw [hcl]; exact Nat.le_refl _) fun h5 p5 => ?_;have p5 : Put h4 h5 h1.next 37 ((layI B w (-1) (-1)).cells ks) := p5.whole (by rw [hcl]; rfl);have r5 : h5.row h1.next 0 5 = some ((layI B w (-1) (-1)).cells ks) := by have := p5.cells.all; rwa [hcl] at this
 refine VO ?_;refine zN (W_ret ⟨.inr rfl, _, by (simp only [resultB, resB, parts, V.part, Sl.get_set', ↓reduceIte, Nat.reduceEqDiff, t4, LD37, r5, aggR_some] <;> rfl), .inr ⟨hok, ks, rfl, g4.up p5.up (fun q h1 _ => by show q ≠ _; omega) (fun q h1 _ => by omega)⟩, ?_, p5.ok o4⟩);exact v3.trans ((u4.mono fun q hq => by omega).trans (p5.up.mono fun q hq => by omega))
end Go.Ai
