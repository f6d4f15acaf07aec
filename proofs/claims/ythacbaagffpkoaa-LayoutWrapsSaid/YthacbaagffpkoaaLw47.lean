/-
LayoutWraps, part 47 of 48: FxLay9.
-/
import Derived.Test.YthacbaagffpkoaaLw46
set_option linter.unusedVariables false
set_option linter.unusedSimpArgs false
set_option maxRecDepth 100000
set_option maxHeartbeats 0
namespace Go.Ai
open Go.Proofs
theorem rvW_ok : VOk rvW := ⟨rfl, fun i hi => by
 rcases nineteen hi with rfl | rfl | rfl | rfl | rfl | rfl | rfl | rfl | rfl | rfl | rfl | rfl | rfl | rfl | rfl | rfl | rfl | rfl | rfl <;> decide⟩
theorem kvW_ok {w : Int} (h : 1 ≤ w ∧ w ≤ 999) : VOk (kvW w) := ⟨rfl, fun i hi => by
 rw [kvW_eq]
 rcases nineteen hi with rfl | rfl | rfl | rfl | rfl | rfl | rfl | rfl | rfl | rfl | rfl | rfl | rfl | rfl | rfl | rfl | rfl | rfl | rfl <;> simp [vAt, loP, hiP] <;> omega⟩
theorem cntL_leaf {room : Nat} {lim : Int} (hr : room ≠ 0) : ∀ {ks : List BoxT} {n : Int}, (∀ k ∈ ks, ∃ t r vals, k = .mk t r vals [] ∧ VOk vals) → n + ks.length ≤ lim → cntL ks room lim n = n + ks.length
 | [], n, _, _ => by unfold cntL; simp
 | k :: ks, n, h, hl => by
  obtain ⟨t, r, vals, rfl, hv⟩ := h k (by simp);simp only [List.length_cons] at hl;unfold cntL;rw [cnt_leaf hv hr Om, if_neg Om, cntL_leaf hr (fun k hk => h k (by simp [hk])) Om];simp only [List.length_cons]; omega
open Classical in
theorem cnt_W {ws : List Int} (hw : ∀ w ∈ ws, 1 ≤ w ∧ w ≤ 999) (hl : ws.length ≤ 20) : cntI (boxW ws) 13 1000 = 1 + ws.length := by
 unfold boxW cntI
 rw [if_neg (fun e => by
  rcases e with e | e | e
  ·omega
  ·omega
  ·exact e rvW_ok)]
 rw [cntL_leaf Om (fun k hk => ?_) (by rw [List.length_mapIdx]; omega), List.length_mapIdx];obtain ⟨i, hi⟩ := List.mem_iff_getElem?.1 hk;rw [List.getElem?_mapIdx] at hi
 cases h : ws[i]? with
 | none => rw [h] at hi; cases hi
 | some w =>
  rw [h] at hi; cases hi;exact ⟨_, _, _, rfl, kvW_ok (hw w (List.mem_of_getElem? h))⟩
def kcell (i : Nat) (q : Nat) : List S := [.i .i64 (2 + (i : Int)), .i .i64 0, .sl q 0 19 19 1 false, .sl0]
def kcells (l : List Nat) : List S := (l.mapIdx kcell).flatten
theorem kcells_snoc {l : List Nat} {q : Nat} : kcells (l ++ [q]) = kcells l ++ kcell l.length q := by
 unfold kcells;rw [List.mapIdx_append, List.flatten_append]; simp
theorem kcells_off : ∀ (l : List Nat) (f : Nat → Nat → List S), (∀ i q, (f i q).length = 4) → (l.mapIdx f).flatten.length = l.length * 4 ∧ ∀ i q, l[i]? = some q → ((l.mapIdx f).flatten.drop (i * 4)).take 4 = f i q
 | [], f, _ => ⟨rfl, fun i q h => by simp at h⟩
 | x :: l, f, hf => by
  obtain ⟨h1, h2⟩ := kcells_off l (fun i => f (i + 1)) fun i q => hf _ _
  rw [List.mapIdx_cons, List.flatten_cons];refine ⟨by rw [List.length_append, h1, hf, List.length_cons]; omega, fun i q hq => ?_⟩
  cases i with
  | zero =>
   simp at hq; subst hq;rw [Nat.zero_mul, List.drop_zero, List.take_append_of_le_length (by rw [hf]; omega), List.take_of_length_le (by rw [hf]; omega)]
  | succ i =>
   rw [List.drop_append, List.drop_of_length_le (by rw [hf]; omega), List.nil_append, hf, show (i + 1) * 4 - 4 = i * 4 by omega];exact h2 i q (by simpa using hq)
theorem kcells_len (l : List Nat) : (kcells l).length = l.length * 4 := (kcells_off l kcell fun _ _ => rfl).1
theorem kcells_get {l : List Nat} {i q : Nat} (h : l[i]? = some q) : ((kcells l).drop (i * 4)).take 4 = kcell i q := (kcells_off l kcell fun _ _ => rfl).2 i q h
structure WrS (h0 h : H) (bb q0 : Nat) (x y : S) (ws : List Int) (l : List Nat) : Prop where
 cb : Cells h bb 31 [.i .i64 1, .i .i64 0, .sl q0 0 19 19 1 false, x]
 mb : h.may bb = true
 c0 : Cells h q0 3 (nums rvW)
 gx : Grown h x h0.next 31 4 (kcells l)
 gy : Grown h y h0.next 3 1 (nums ws)
 ll : l.length = ws.length
 kv : ∀ (i q : Nat), l[i]? = some q → ∃ w, ws[i]? = some w ∧ Cells h q 3 (nums (kvW w)) ∧ h0.next ≤ q ∧ q < h.next ∧ S.blk x ≠ some q ∧ S.blk y ≠ some q
 xy : ∀ q, S.blk x = some q → S.blk y ≠ some q
 lt : bb < h0.next ∧ q0 < h0.next ∧ bb ≠ q0
 up : Up (fun q => q < h0.next ∧ q ≠ bb) h0 h
 ok : Ok h
theorem WrS.val {h0 h : H} {bb q0 : Nat} {x y : S} {ws : List Int} {l : List Nat} (k : WrS h0 h bb q0 x y ws l) : ValAt h h.next (boxW ws) [.i .i64 1, .i .i64 0, .sl q0 0 19 19 1 false, x] := by
 have un := k.up.next;have hlt := k.lt;have hll := k.ll;refine ⟨_, _, rfl, .inr ⟨q0, 0, 19, false, rfl, by omega, fun i v hv => by rw [Nat.zero_add]; exact k.c0.at1 (nums_get hv)⟩, ?_⟩;show RawKids h h.next (ws.mapIdx kidW) x;rcases k.gx with ⟨e, rfl⟩ | ⟨q, n, rfl, h1, h2, h3, h4, h5, h6⟩
 ·refine .inl ⟨?_, .inl rfl⟩;have h0 : l.length * 4 = 0 := by rw [← kcells_len, e]; rfl
  have : ws = [] := List.eq_nil_of_length_eq_zero Om;rw [this]; rfl
 ·have hn : n = ws.length := by rw [kcells_len] at h2; omega
  subst hn;refine .inr ⟨q, 0, ws.length, false, by rw [List.length_mapIdx], h6, fun i B hB => ?_⟩;rw [List.getElem?_mapIdx] at hB
  cases hw : ws[i]? with
  | none => rw [hw] at hB; cases hB
  | some w =>
   rw [hw] at hB; cases hB;have hi := (gEi.1 hw).1;obtain ⟨qi, hqi⟩ : ∃ qi, l[i]? = some qi := ⟨_, List.getElem?_eq_getElem Om⟩;obtain ⟨w', hw', hc, hq1, hq2, _⟩ := k.kv i qi hqi;rw [hw] at hw'; cases hw';have hrow : h.row q (i * 4) 4 = some (kcell i qi) := by rw [h3.row (by rw [kcells_len]; omega), kcells_get hqi]
   obtain ⟨cs, hcs, _⟩ := h3;rw [Nat.zero_add];refine .leaf ⟨h6, ?_, ⟨_, row_sub hrow (j := 2) rfl, .inr ⟨qi, 0, 19, false, rfl, hq2, fun j v hv => by rw [Nat.zero_add]; exact hc.at1 (nums_get hv)⟩⟩, .inl ⟨_, _, _, hcs⟩⟩ (row_sub hrow (j := 3) rfl) (.inl rfl);have := Cells.row ⟨cs, hcs, by assumption⟩ (o := i * 4) (n := 2) (by rw [kcells_len]; omega);rw [this];have h4' := kcells_get hqi;have : ((kcells l).drop (i * 4)).take 2 = (((kcells l).drop (i * 4)).take 4).take 2 := by rw [List.take_take]; rfl
   rw [this, h4']; rfl
section
variable {P : Program} {spec : CallF} {nt : Nat} {T : Sl} {h : H} {K : Sl → H → Prop} {ops : Array Oper} {rg ld : List (Nat × Nat × Nat)} {ix : List (Nat × Nat × Bool)} {i m : Nat} {bar : Bool} {ty : TypeId} {ps : String} {af : Array Edge} {d : Tmp}
theorem WI_bsN {t elem n len : Nat} {q : Array (Nat × Operand)} (ho : ops.toList[i]? = some ⟨some d, .buildSlice t len q, ty, ps, af, none⟩) (ht : elemAt P t = some (elem, n)) {z : V} (hz : zeroB P elem = some z) {vs : List (Nat × V)} (hv : evParts T q.toList = some vs) (hc : (Nat.ble (len * n) 16777216 && Nat.beq z.cells.length n && Nat.blt 0 n) = true) {cells : List S} (hf : fillS (fun i => some (i * n, n)) (repeatS z.cells len) vs = some cells) (o : Ok h) (hd : d < nt)
  (hk : ∀ h1, New h h1 elem cells → WI P spec nt ops ix (T.set d (.one (.sl h.next 0 len len n true))) h1 ((i, h.next, h.next + 1) :: rg) ld K) : WI P spec nt ops ((i, m, bar) :: ix) T h rg ld K := by
 refine WI_alloc ho rfl rfl (x := .cells elem (Go.Ai.T.setMany .e 0 cells) cells.length) ?_ (putT_some hd) (hk _ (.of o));rw [ex_buildSlice];exact bs_gen ht hz hv hc hf
theorem CB {id : Int} {v : S} {l : List Int} {xs : Array Operand} {ts : Array TypeId} (hs : SpecLay spec) (ho : ops.toList[i]? = some ⟨some d, .call ⟨.value (.func 19), xs, ts⟩, ty, ps, af, none⟩) (ha : evs T xs.toList = some [.one (.i .i64 id), .one v]) (o : Ok h) (okF : Ok (h.fenced (unseen m rg) (cond bar (unseen m ld) []) (cond bar h.floor h.next))) (hi : IntsAt h v l) (hv : ∀ b, S.blk v = some b → Off (unseen m rg) b) (hl : l.length ≤ 100) (hp : ∀ j p, l[2 * j]? = some p → 0 ≤ p ∧ p < 19)
  (hk : ∀ q h3, Cells h3 q 3 (nums (setI plainV l)) → h.next ≤ q → q < h3.next → Up (· < h.next) h h3 → Ok h3 → h.next ≤ h3.next → WI Try.prog spec nt ops ix (T.set d (.agg [.i .i64 id, .i .i64 0, .sl q 0 19 19 1 false, .sl0])) h3 ((i, h.next, h3.next) :: rg) ld K) (hd : d < nt := by decide) : WI Try.prog spec nt ops ((i, m, bar) :: ix) T h rg ld K :=
 WI_call ho rfl (doCall_fn ha (by simp)) hd ((B_fn hs okF (hi.fenced hv) hl hp).mono fun r h1 q => by
  obtain ⟨q, rfl, q1, q2, q3, q4, q5, q6⟩ := q
  exact hk q _ (q1.back (o.hid q q3)) q3 q4 q5.back (o.back q5) q5.next)
end
theorem IntsAt.of {h : H} {q : Nat} {l : List Int} {ex : Bool} (hc : Cells h q 3 (nums l)) (hq : q < h.next) : IntsAt h (.sl q 0 l.length l.length 1 ex) l := .inr ⟨q, _, ex, rfl, hq, fun k x hx => hc.at1 (nums_get hx)⟩
theorem GeosAt.lenS {h h1 : H} {A : Nat → Prop} {l : List GeoT} {v : S} (k : GeosAt h A l v) {T : Sl} {x : Operand} (hx : ev T x = some (.one v)) {d : Option Tmp} {ty : TypeId} {ps : String} {af : Array Edge} {g : Option (Nat × Bool)} : execO Try.prog T h1 ⟨d, .call ⟨.builtin .len, #[x], #[35]⟩, ty, ps, af, g⟩ = some (.val (.one (.i .i64 (l.length : Int))) h1) := by
 cases k with
 | nil => exact ex_len0 el35 hx
 | node => exact ex_len el35 hx
theorem GeosAt.geo {h : H} {A : Nat → Prop} {l : List GeoT} {v : S} (k : GeosAt h A l v) {i : Nat} {g : GeoT} (hg : l[i]? = some g) : ∃ q c ex ks, v = .sl q 0 l.length c 5 ex ∧ h.row q (i * 5) 5 = some (g.cells ks) := by
 cases k with
 | nil => simp at hg
 | node ks h1 h2 h3 h4 h5 => exact ⟨_, _, _, _, rfl, h4 i g hg⟩
theorem sumL_take {l : List Int} {k : Nat} {x : Int} (h : l[k]? = some x) : sumL (l.take (k + 1)) = sumL (l.take k) + x := by
 obtain ⟨hk, rfl⟩ := gEi.1 h;rw [List.take_succ_eq_append_getElem hk, sumL_app]; simp [sumL]
theorem flat_take {SG : List (List Int)} {n : Nat} {seg : List Int} (h : SG[n]? = some seg) : (SG.take (n + 1)).flatten.length = (SG.take n).flatten.length + seg.length := by
 obtain ⟨hn, rfl⟩ := gEi.1 h;rw [List.take_succ_eq_append_getElem hn, List.flatten_append, List.length_append, show [SG[n]].flatten = SG[n] by simp]
theorem seg_count : ∀ {S : List (List Int)}, (∀ m ∈ S, m ≠ []) → S.length ≤ S.flatten.length
 | [], _ => Nat.le_refl _
 | m :: S, h => by
  have h1 := List.length_pos_iff.2 (h m (by simp));have h2 := seg_count (S := S) fun m hm => h m (by simp [hm])
  simp only [List.length_cons, List.flatten_cons, List.length_append]; omega
theorem wraps_fn {spec : CallF} (hs : SpecLay spec) {h : H} {sW sH : S} {W : List Int} {gap wid : Int} (ok : Ok h) (kW : ValsS h h.next sW W) :
  WF Try.prog spec 11 [.agg [sW, sH, .i .i64 gap, .i .i64 wid]] h fun r h1 => r = .one (.b true) := by
 refine WF_of Try.func11 rfl (hs.s _ _ _) (by rw [Try.ntmps11]; simp) (by rw [Try.ntmps11]; decide) ?_;rw [Try.ntmps11, Try.results11];simp only [Sl.setMany_cons, Sl.setMany_nil, Nat.zero_add, Nat.reduceAdd]
 (repeat refine zS ?_); refine zR ?_
 refine WO_boxA (ee) ok Dc fun h1 n1 => ?_;have e1 := n1.next;refine VO ?_;refine zN ?_; (repeat refine zS ?_);refine zR ?_;refine VO ?_
 (refine VX (Gd1 @n1.cells.row) ?_)
 refine WO_fn (ee) (by simp) Dc ((lawWithin_fn hs (x := wid) (n := 3000) Om).mono ?_);rintro _ h1 ⟨⟨m, rfl, hm0, hm1⟩, rfl⟩
 (refine VX (zB ee ee zA) ?_; (try rw [zI Om Om]))
 refine VO ?_;have hwd : 1000 ≤ 1000 + m ∧ 1000 + m ≤ 4000 := by omega
 generalize 1000 + m = width at *;refine zN ?_; (repeat refine zS ?_);refine zR ?_;refine WO_bsN zF el26 ze26 (vs := [(0, .one (.i .i64 0)), (1, .one (.i .i64 1)), (2, .one (.i .i64 2)), (3, .one (.i .i64 1))]) (by simp only [evParts]; rfl) rfl rfl n1.ok Dc fun h2 n2 => ?_;have e2 := n2.next
 refine WO_fn (ee) (by simp) Dc ((B_fn hs (l := [0, 1, 2, 1]) (id := 1) n2.ok (IntsAt.of (l := [0, 1, 2, 1]) n2.cells Om) (by simp) (fun j p hj => by
  rcases j with _ | _ | j
  ·simp at hj; omega
  ·simp at hj; omega
  ·rw [List.getElem?_eq_none (by simp; omega)] at hj; cases hj)).mono ?_)
 rintro _ h3 ⟨q0, rfl, cq3, mq3, hq1, hq2, u3, o3⟩;have e3 := u3.next;refine WO_alloc zb31 rfl o3 Dc fun h4 n4 => ?_;have e4 := n4.next;refine WO_storeA (ee) (ee) sz31 rfl (by simp) n4.cells n4.may (by simp [V.cells]) fun h5 p5 => ?_;have p5 : Put h4 h5 h3.next 31 [.i .i64 1, .i .i64 0, .sl q0 0 19 19 1 false, .sl0] := p5.whole rfl;have e5 := p5.next;have v35 : Up (· < h3.next) h3 h5 := n4.up.trans (p5.up.mono fun q hq => by omega);have u15 : Up (· < h1.next) h1 h5 := n2.up.trans ((u3.mono fun q hq => by omega).trans (v35.mono fun q hq => by omega));have cr5 := u15.cells (show h.next < h1.next by omega) n1.cells;have u05 : Up (· < h.next) h h5 := n1.up.trans (u15.mono fun q hq => by omega);have k5 : WrS h5 h5 h3.next q0 .sl0 .sl0 [] [] := ⟨p5.cells, p5.may, v35.cells hq2 cq3, .nil, .nil, rfl, fun i q hq => (by simp at hq), fun q hq => (by cases hq), ⟨by omega, by omega, by omega⟩, .refl _ _, p5.ok n4.ok⟩;refine zN ?_; (repeat refine zS ?_);refine zR ?_;refine VO ?_;refine zN ?_; (repeat refine zS ?_);refine zR ?_;refine VO ?_;refine zN ?_; (repeat refine zS ?_);refine W_cut (fun T h6 => ∃ x y ws l, (∀ w ∈ ws, 1 ≤ w ∧ w ≤ 999) ∧ ws.length ≤ 20 ∧ T.get 3 = some (.one (.i .i64 width)) ∧ T.get 4 = some (.one (.p h3.next 0)) ∧ T.get 5 = some (.one y) ∧ WrS h5 h6 h3.next q0 x y ws l) ?_ ?_
 ·refine zK (W_rounds (fun j T h6 => ∃ i x y ws l, j = 20 - i ∧ i ≤ 20 ∧ (∀ w ∈ ws, 1 ≤ w ∧ w ≤ 999) ∧ ws.length = i ∧ T.get 1 = some (.one (.p h.next 0)) ∧ T.get 3 = some (.one (.i .i64 width)) ∧ T.get 4 = some (.one (.p h3.next 0)) ∧ T.get 5 = some (.one y) ∧ T.get 6 = some (.one (.i .i64 (i : Int))) ∧ WrS h5 h6 h3.next q0 x y ws l) ?_ 20 _ _ ?_);rotate_left
  ·exact ⟨0, .sl0, .sl0, [], [], rfl, by omega, fun w hw => (by cases hw), rfl, gs, gs, gs, gs, gs, k5⟩
  clear k5;rintro j T h6 ⟨i, x, y, ws, l, rfl, hi, hws, hwl, t1, t3, t4, t5, t6, k6⟩;have un6 := k6.up.next;have hlt6 := k6.lt;have hll6 := k6.ll;have cr6 := k6.up.cells (b := h.next) ⟨by omega, by omega⟩ cr5;have kW6 : ValsS h6 h.next sW W := kW.mono fun q z hq hz => by rw [k6.up.get (show q < h5.next ∧ q ≠ h3.next by omega), u05.get hq]; exact hz
  refine zS ?_;refine zS ?_;refine W_cut (fun T2 h7 => h7 = h6 ∧ T2.get 1 = some (.one (.p h.next 0)) ∧ T2.get 3 = some (.one (.i .i64 width)) ∧ T2.get 4 = some (.one (.p h3.next 0)) ∧ T2.get 5 = some (.one y) ∧ T2.get 6 = some (.one (.i .i64 (i : Int))) ∧ T2.get 31 = some (.one (.b (decide (i < W.length ∧ i < 20))))) ?_ ?_
  ·refine zR ?_
   iterate 2 (refine VX (Ga2 @t1 @t6) ?_)
   (refine VX (Gd3 @cr6.row @t1 @t6) ?_)
   refine zV (kW6.len (ee)) Dc ?_
   by_cases c1 : i < W.length
   ·have d1 : decide ((i : Int) < (W.length : Int)) = true := decide_eq_true Om
    iterate 5 (first | (refine VX (zB (Gs2 @t6 @d1) (Gs2 @t6 @d1) zL) ?_) | (refine VG (zT rfl rfl (Gs2 @t6 @d1) rfl) (zB (Gs2 @t6 @d1) (Gs2 @t6 @d1) zL) ?_) | (refine VN (zG rfl rfl (Gs2 @t6 @d1) rfl) ?_) | (refine VG (zT rfl rfl (Gs2 @t6 @d1) rfl) (Ga2 @t6 @d1) ?_) | (refine VX (Ga2 @t6 @d1) ?_))
    refine zN ⟨rfl, rfl, gt t1, gt t3, gt t4, gt t5, gt t6, ?_⟩;rw [show decide (i < W.length ∧ i < 20) = decide ((i : Int) < 20) by simp [c1]; omega];simp only [go_sem, ↓reduceIte, Nat.reduceEqDiff, d1]
   ·have d1 : decide ((i : Int) < (W.length : Int)) = false := decide_eq_false Om
    iterate 5 (first | (refine VX (zB (Gs2 @t6 @d1) (Gs2 @t6 @d1) zL) ?_) | (refine VG (zT rfl rfl (Gs2 @t6 @d1) rfl) (zB (Gs2 @t6 @d1) (Gs2 @t6 @d1) zL) ?_) | (refine VN (zG rfl rfl (Gs2 @t6 @d1) rfl) ?_) | (refine VG (zT rfl rfl (Gs2 @t6 @d1) rfl) (Ga2 @t6 @d1) ?_) | (refine VX (Ga2 @t6 @d1) ?_))
    refine zN ⟨rfl, rfl, gt t1, gt t3, gt t4, gt t5, gt t6, ?_⟩;rw [show decide (i < W.length ∧ i < 20) = false by simp [c1]];simp only [go_sem, ↓reduceIte, Nat.reduceEqDiff, d1]
  clear t1 t3 t4 t5 t6;rintro T h7 ⟨rfl, t1, t3, t4, t5, t6, t31⟩;refine zC (Gt1 @t31) (fun hc => W_skip ?_) (fun hc => W_exit ?_)
  ·have hc := of_decide_eq_true hc
   obtain ⟨vb, vo, vc, ex, rfl, vl, vr⟩ : ∃ vb vo c ex, sW = .sl vb vo W.length c 1 ex ∧ vb < h.next ∧ ∀ k x, W[k]? = some x → h7.row vb (vo + k) 1 = some [.i .i64 x] := by
    rcases kW6 with ⟨e, _⟩ | w
    ·rw [e] at hc; simp at hc
    ·exact w
   have vr := vr i _ (List.getElem?_eq_getElem hc.1)
   repeat refine zS ?_
   refine W_cut (fun T2 h8 => ∃ x y ws l, (∀ w ∈ ws, 1 ≤ w ∧ w ≤ 999) ∧ ws.length = i + 1 ∧ T2.get 1 = some (.one (.p h.next 0)) ∧ T2.get 3 = some (.one (.i .i64 width)) ∧ T2.get 4 = some (.one (.p h3.next 0)) ∧ T2.get 5 = some (.one y) ∧ T2.get 6 = some (.one (.i .i64 (i : Int))) ∧ WrS h5 h8 h3.next q0 x y ws l) ?_ ?_
   ·refine zK ?_
    (repeat refine zS ?_); refine zR ?_
    iterate 5 (first | (refine VX (Gd4 @cr6.row @vr @t1 @t6) ?_) | (refine VX (Gd2 @t1 @t6) ?_) | (refine VX (Ga2 @t1 @t6) ?_))
    refine WO_fn (ee) (by simp) Dc ((lawWithin_fn hs (n := 999) Om).mono ?_);rintro _ h7 ⟨⟨m2, rfl, hm2, hm3⟩, rfl⟩
    (refine VX (zB ee ee zA) ?_; (try rw [zI Om Om]))
    refine VO ?_;have hwb : 1 ≤ 1 + m2 ∧ 1 + m2 ≤ 999 := by omega
    generalize 1 + m2 = w at *;refine zN ?_; (repeat refine zS ?_);refine zR ?_
    iterate 2 (refine VX (Ga1 @t5) ?_)
    refine WO_bs1 el26 ⟨_, ze26⟩ (ee) k6.ok Dc fun h8 n8 => ?_;have e8 := n8.next;have gy8 := k6.gy.up n8.up (fun q hq => (k6.gy.lt hq).2);have hxl : ∀ q, S.blk x = some q → h5.next ≤ q ∧ q < h7.next := fun q hq => k6.gx.lt hq
    have hyl : ∀ q, S.blk y = some q → h5.next ≤ q ∧ q < h7.next := fun q hq => k6.gy.lt hq
    refine WO_app (n0 := h5.next) ap26_26 (Gt1 @t5) (ee) n8.cells rfl gy8 n8.ok Om (m := i) (by rw [nums_length]; omega) Om Om Dc fun y9 h9 w9 => ?_;have e9 := w9.next;refine VO ?_;refine zN ?_; (repeat refine zS ?_);refine W_drawn dr11_9 (by kernel_rfl) w9.ok.floor ?_;unfold dr11_9;have v79 : Up (fun q => q < h7.next ∧ S.blk y ≠ some q) h7 h9 := (n8.up.mono fun q hq => hq.1).trans (w9.up.mono fun q hq => ⟨by omega, hq.2⟩);have cb9 := v79.cells (b := h3.next) ⟨by omega, fun e => by have := hyl _ e; omega⟩ k6.cb;have gx9 := k6.gx.up v79 (fun q hq => ⟨(hxl q hq).2, fun e => k6.xy q hq e⟩)
    iterate 5 (first | (refine IX rfl (zB (Gs2 @t4 @t6) (Gs2 @t4 @t6) zA) ?_; (try rw [zI Om Om])) | (refine IL rfl zF (Gs2 @t4 @t6) (Gd1 @cb9.row) ?_) | (refine IX rfl (Ga2 @t4 @t6) ?_))
    refine WI_bsN rfl el26 ze26 (vs := [(0, .one (.i .i64 3)), (1, .one (.i .i64 w)), (2, .one (.i .i64 4)), (3, .one (.i .i64 10))]) (by simp only [evParts, go_sem, ↓reduceIte, Nat.reduceEqDiff] <;> rfl) rfl rfl w9.ok Dc fun h10 n10 => ?_;have e10 := n10.next;have fl10 := n10.up.floor;have fl9 := w9.up.floor;have fl8 := n8.up.floor;have fl6 := k6.up.floor;have flo := p5.ok n4.ok |>.floor
    refine CB hs (l := [3, w, 4, 10]) rfl (ee) n10.ok (n10.ok.fenced (fun b hb => OffA) (fun b hb => OffA) n10.ok.floor) (IntsAt.of (l := [3, w, 4, 10]) n10.cells Om) (fun b hb => by have hb : h9.next = b := Option.some.inj hb; (try simp only [cond_true, cond_false]); repeat (first | exact Off.nil | refine Off.seen rfl ?_ | refine Off.off Om ?_)) (by simp) (fun j p hj => by
     rcases j with _ | _ | j
     ·simp at hj; omega
     ·simp at hj; omega
     ·rw [List.getElem?_eq_none (by simp; omega)] at hj; cases hj) fun q h11 cq11 hqa hqb u11 o11 hn11 => ?_
    have fl11 := u11.floor;refine WI_bsA rfl el29 ze29 rfl Dc Dc (ee) rfl o11 Dc fun h12 n12 => ?_;have e12 := n12.next;have v912 : Up (· < h9.next) h9 h12 := n10.up.trans ((u11.mono fun q hq => by omega).trans (n12.up.mono fun q hq => by omega));have gx12 := gx9.up v912 (fun q hq => by have := hxl q hq; omega);have fl12 := n12.up.floor
    refine WI_app (n0 := h5.next) rfl ap29_29 (ee) (ee) n12.cells OffA rfl gx12 (fun b hb => by
     have := hxl b hb;refine ⟨OffA, OffA, ?_⟩;show h12.floor ≤ b
     omega) n12.ok (n12.ok.fenced (fun b hb => OffA) (fun b hb => OffA) n12.ok.floor) Om (mm := i) (by rw [kcells_len]; omega) Om Om Dc fun x13 h13 w13 => ?_
    have e13 := w13.next;have cb13 := w13.up.cells (b := h3.next) ⟨by omega, fun e => by have := hxl _ e; omega⟩ (v912.cells (show h3.next < h9.next by omega) cb9);have mb13 : h13.may h3.next = true := by rw [w13.up.may, v912.may, v79.may]; exact k6.mb
    (refine IX rfl (Ga1 @t4) ?_)
    refine WI_store1 rfl (ee) (ee) sz29 cb13 mb13 (by simp) OffA OffA (H.may_iff mb13).1.1 fun h14 p14 => ?_;have c14 := p14.cells;have e14 := p14.next;have v914 : Up (fun q => q < h9.next ∧ S.blk x ≠ some q ∧ q ≠ h3.next) h9 h14 := (v912.mono fun q hq => hq.1).trans ((w13.up.mono fun q hq => ⟨by omega, hq.2.1⟩).trans (p14.up.mono fun q hq => hq.2.2));have V : Up (fun q => q < h7.next ∧ S.blk y ≠ some q ∧ S.blk x ≠ some q ∧ q ≠ h3.next) h7 h14 := (v79.mono fun q hq => ⟨hq.1, hq.2.1⟩).trans (v914.mono fun q hq => ⟨by omega, hq.2.2⟩);have hxb := w13.blk;have hyb := w9.blk;refine WI_nil ⟨by trivial, x13, y9, ws ++ [w], l ++ [q], ?_, by rw [List.length_append, hwl]; rfl, gt t1, gt t3, gt t4, gs, gt t6, ?_⟩
    ·intro z hz;rcases List.mem_append.1 hz with hz | hz
     ·exact hws z hz
     ·rw [List.mem_singleton.1 hz]; exact hwb
    refine ⟨c14, p14.may, V.cells ⟨by omega, fun e => by have := hyl _ e; omega, fun e => by have := hxl _ e; omega, by omega⟩ k6.c0, ?_, ?_, by rw [List.length_append, List.length_append, hll6]; rfl, fun i' q' hq' => ?_, fun q' h1' h2' => (by rw [hxb] at h1'; rw [hyb] at h2'; have := Option.some.inj h1'; have := Option.some.inj h2'; omega), k6.lt, k6.up.trans (V.mono fun q' hq' => ⟨by omega, fun e => by have := hyl _ e; omega, fun e => by have := hxl _ e; omega, hq'.2⟩), p14.ok w13.ok⟩
    ·refine (w13.grown.same ?_).up p14.up (fun q' hq' => by rw [hxb] at hq'; have := Option.some.inj hq'; omega);rw [kcells_snoc, hll6, hwl]; rfl
    ·refine (w9.grown.same (by rw [nums_append]; rfl)).up v914 (fun q' hq' => by rw [hyb] at hq'; have h1' := Option.some.inj hq'; exact ⟨by omega, fun e => by have := hxl _ e; omega, by omega⟩)
    ·rw [List.getElem?_append] at hq';split at hq'
     ·obtain ⟨w', k1, k2, k3, k4, k5, k6'⟩ := k6.kv i' q' hq';refine ⟨w', by rw [List.getElem?_append_left (gEi.1 k1).1]; exact k1, V.cells ⟨k4, k6', k5, by omega⟩ k2, k3, by omega, fun e => by rw [hxb] at e; have := Option.some.inj e; omega, fun e => by rw [hyb] at e; have := Option.some.inj e; omega⟩
     ·rename_i hjl
      have h0 : i' - l.length = 0 := by
       rcases Nat.eq_zero_or_pos (i' - l.length) with e | e
       ·exact e
       ·rw [List.getElem?_eq_none (by simp; omega)] at hq'; cases hq'
      rw [h0] at hq';simp at hq'; subst hq';have hil : i' = ws.length := by omega
      subst hil;refine ⟨w, by simp, ?_, by omega, by omega, fun e => by rw [hxb] at e; have := Option.some.inj e; omega, fun e => by rw [hyb] at e; have := Option.some.inj e; omega⟩;have v1114 : Up (fun q' => q' < h11.next ∧ S.blk x ≠ some q' ∧ q' ≠ h3.next) h11 h14 := (n12.up.mono fun q' hq' => hq'.1).trans ((w13.up.mono fun q' hq' => ⟨by omega, hq'.2.1⟩).trans (p14.up.mono fun q' hq' => hq'.2.2));exact v1114.cells ⟨hqb, fun e => by have := hxl _ e; omega, by omega⟩ cq11
   ·rintro T2 h8 ⟨x, y, ws, l, hws, hwl, t1, t3, t4, t5, t6, k8⟩;refine zR ?_
    iterate 3 (first | (refine VX (zB (Gs1 @t6) (Gs1 @t6) zA) ?_; (try rw [zI Om Om])) | (refine VX (Ga1 @t6) ?_))
    exact zN ⟨20 - (i + 1), by omega, i + 1, x, y, ws, l, rfl, by omega, hws, hwl, gt t1, gt t3, gt t4, gt t5, gs, k8⟩
  ·exact ⟨fun _ => ⟨rfl, x, y, ws, l, hws, by omega, t3, t4, t5, k6⟩, fun hne => absurd rfl hne⟩
 clear k5;rintro T h6 ⟨x, y, ws, l, hws, hwl, t3, t4, t5, k6⟩;obtain ⟨G, hL, hGl, hGk⟩ := wraps_G hws hwl hwd;have hok : LayOk (boxW ws) width := ⟨by rw [cnt_W hws hwl]; omega, by omega, by omega⟩;have hco : ∀ z ∈ ws, CO z := fun z hz => by have := hws z hz; unfold CO; omega
 have rb6 : h6.row h3.next 0 4 = some [.i .i64 1, .i .i64 0, .sl q0 0 19 19 1 false, x] := k6.cb.all;have un6 := k6.up.next
 (repeat refine zS ?_); refine zR ?_
 (refine VX (Gd3 @rb6 @t3 @t4) ?_)
 (refine VX (Ga2 @t3 @t4) ?_)
 refine WO_fn (ee) (by simp) Dc ((laytop_fn hs k6.ok (Nat.le_refl _) k6.val).mono ?_);rintro _ h7 ⟨hr, u7, o7⟩;rcases hr with ⟨hn, _⟩ | ⟨_, ks, rfl, g7⟩
 ·exact absurd hok hn
 rw [hL] at g7 ⊢;have hcs : (GeoT.mk 1 0 0 0 width (10 * ((segI 0 width [] ws).length : Int)) G).cells ks = [.i .i64 1, .i .i64 0, .c .f64 0 0, ptS width (10 * ((segI 0 width [] ws).length : Int)), ks] := size_corner;rw [hcs];change GeosAt h7 _ G ks at g7;have un7 := u7.next
 iterate 3 (refine VO ?_)
 refine WO_alloc zb37 rfl o7 Dc fun h8 n8 => ?_;have e8 := n8.next;refine WO_storeA (ee) (ee) sz37 rfl (by simp) n8.cells n8.may (by simp [V.cells]) fun h9 p9 => ?_;have c9 : Cells h9 h7.next 37 [.i .i64 1, .i .i64 0, .c .f64 0 0, ptS width (10 * ((segI 0 width [] ws).length : Int)), ks] := (p9.whole rfl).cells;have e9 := p9.next;have v79 : Up (· < h7.next) h7 h9 := n8.up.trans (p9.up.mono fun q hq => by omega);have g9 := g7.up v79 (fun q _ h2 => h2) fun _ h _ => h
 have gy9 := (k6.gy.up u7 (fun q hq => (k6.gy.lt hq).2)).up v79 (fun q hq => by have := (k6.gy.lt hq).2; omega);have o9 := p9.ok n8.ok;have d1 : decide ((0 : Int) = 0) = true := rfl;have r94 : h9.row h7.next (0 + 4) 1 = some [ks] := c9.at1 rfl;have r93 : h9.row h7.next (0 + 3) 1 = some [ptS width (10 * ((segI 0 width [] ws).length : Int))] := c9.at1 rfl;have un9 := v79.next;refine VO ?_;refine zN ?_; (repeat refine zS ?_);refine zR ?_;refine VO ?_;refine WO_fn (ee) (by simp) Dc ((num_fn hs).mono ?_);rintro _ h9 ⟨rfl, rfl⟩
 iterate 4 (first | (refine VX (zB (Gs2 @d1 @Bool.not_true) (Gs2 @d1 @Bool.not_true) in_neq) ?_) | (refine VN (zG rfl rfl (Gs2 @d1 @Bool.not_true) rfl) ?_) | (refine VG (zT rfl rfl (Gs2 @d1 @Bool.not_true) rfl) (Ga2 @d1 @Bool.not_true) ?_) | (refine VG (zT rfl rfl (Gs2 @d1 @Bool.not_true) rfl) (Gd3 @r94 @d1 @Bool.not_true) ?_) | (refine VX (Ga2 @d1 @Bool.not_true) ?_))
 refine VG (zT rfl rfl (Gs2 @d1 @Bool.not_true) rfl) (g9.lenS (Gt1 @d1)) ?_
 first | (refine VN (zG rfl rfl (Gs3 @t5 @d1 @Bool.not_true) rfl) ?_) | (refine VG (zT rfl rfl (Gs3 @t5 @d1 @Bool.not_true) rfl) (Ga3 @t5 @d1 @Bool.not_true) ?_)
 refine VG (zT rfl rfl (Gs2 @d1 @Bool.not_true) rfl) (gy9.len1 el26 (Gt2 @t5 @d1)) ?_;rw [nums_length, hGl];have d2 : decide ((ws.length : Int) = (ws.length : Int)) = true := decide_eq_true rfl
 first | (refine VN (zG rfl rfl (Gs3 @d1 @d2 @Bool.not_true) rfl) ?_) | (refine VG (zT rfl rfl (Gs3 @d1 @d2 @Bool.not_true) rfl) (zB (Gs3 @d1 @d2 @Bool.not_true) (Gs3 @d1 @d2 @Bool.not_true) in_neq) ?_)
 (refine VX (Ga3 @d1 @d2 @Bool.not_true) ?_)
 refine zN ?_; (repeat refine zS ?_);refine W_condF (Gt3 @d1 @d2 @Bool.not_true) rfl (W_skip ?_)
 (repeat refine zS ?_); refine zR ?_
 iterate 2 (refine VX (Ga2 @t3 @t5) ?_)
 refine WO_fn (ee) (by simp) Dc ((break_fn hs o9 gy9 Om hco (by unfold CO; omega)).mono ?_);rintro _ h10 ⟨z, rfl, gz, u10, o10⟩;rw [brk_segs] at gz;have un10 := u10.next;have g10 := g9.up u10 (fun q _ h2 => h2) fun _ h _ => h
 have gy10 := gy9.up u10 (fun q hq => (gy9.lt hq).2);have r104 : h10.row h7.next (0 + 4) 1 = some [ks] := by rw [u10.row (show h7.next < h9.next by omega)]; exact r94
 have r103 : h10.row h7.next (0 + 3) 1 = some [ptS width (10 * ((segI 0 width [] ws).length : Int))] := by rw [u10.row (show h7.next < h9.next by omega)]; exact r93
 have hflat := segI_flat (gap := 0) (room := width) ws [];rw [List.nil_append] at hflat;have hne := segI_ne (gap := 0) (room := width) ws [];generalize segI 0 width [] ws = SG at *
 have hSl : SG.length ≤ 20 ∧ ∀ (n : Nat) (seg : List Int), SG[n]? = some seg → (SG.take n).flatten.length + seg.length ≤ ws.length ∧ (∀ w ∈ seg, w ∈ ws) ∧ (ws.drop (SG.take n).flatten.length).take seg.length = seg := by
  refine ⟨by have := seg_count hne; rw [hflat] at this; omega, fun n seg h => ?_⟩;obtain ⟨h1, h2⟩ := flat_seg h;rw [hflat] at h1 h2;exact ⟨h2, fun w hx => by rw [← hflat]; exact List.mem_flatten.2 ⟨seg, List.mem_of_getElem? h, hx⟩, h1⟩
 refine VO ?_;refine zN ?_; (repeat refine zS ?_);refine zR ?_;refine VO ?_;refine zN ?_; (repeat refine zS ?_);refine zR ?_;refine VO ?_;refine zN ?_; (repeat refine zS ?_);refine W_cut (fun T h11 => h11 = h10 ∧ T.get 8 = some (.one (.p h7.next 0)) ∧ T.get 10 = some (.one z)) ?_ ?_
 ·refine zK (W_rounds (fun j T h11 => ∃ n : Nat, j = SG.length - n ∧ n ≤ SG.length ∧ h11 = h10 ∧ T.get 5 = some (.one y) ∧ T.get 8 = some (.one (.p h7.next 0)) ∧ T.get 10 = some (.one z) ∧ T.get 11 = some (.one (.i .i64 ((SG.take n).flatten.length : Int))) ∧ T.get 12 = some (.one (.i .i64 (n : Int)))) ?_ SG.length _ _ ?_);rotate_left
  ·exact ⟨0, rfl, Nat.zero_le _, rfl, gt t5, gs, gs, gs, gs⟩
  clear t3 t4 t5;rintro j T h11 ⟨n, rfl, hn, rfl, t5, t8, t10, t11, t12⟩
  (repeat refine zS ?_); refine zR ?_
  iterate 2 (refine VX (Ga2 @t10 @t12) ?_)
  refine zV (gz.len1 el26 (ee)) Dc ?_;rw [nums_length, List.length_map]
  (refine VX (zB ee ee zL) ?_)
  refine zN ?_; (repeat refine zS ?_);refine zC (ee) (fun hlt => W_skip ?_) (fun hge => W_exit ?_)
  ·have hn' : (n : Int) < (SG.length : Int) := by simpa using hlt
   have hn' : n < SG.length := by omega
   obtain ⟨seg, hseg⟩ : ∃ seg, SG[n]? = some seg := ⟨_, List.getElem?_eq_getElem hn'⟩;obtain ⟨hA, hsw, hsd⟩ := hSl.2 n seg hseg;have hft := flat_take hseg;obtain ⟨zb, hz, cz, _, _⟩ := gz.whole (by rw [List.length_map]; omega);rw [List.length_map] at hz;have rz : h11.row zb n 1 = some [.i .i64 (seg.length : Int)] := cz.at1 (nums_get (by rw [List.getElem?_map, hseg]; rfl));rw [hz] at t10
   repeat refine zS ?_
   refine W_cut (fun T2 h12 => h12 = h11 ∧ T2.get 5 = some (.one y) ∧ T2.get 8 = some (.one (.p h7.next 0)) ∧ T2.get 10 = some (.one z) ∧ T2.get 11 = some (.one (.i .i64 ((SG.take (n + 1)).flatten.length : Int))) ∧ T2.get 12 = some (.one (.i .i64 (n : Int)))) ?_ ?_
   ·refine zK ?_
    (repeat refine zS ?_); refine zR ?_
    refine VO ?_;refine zN ?_; (repeat refine zS ?_);refine zR ?_;refine VO ?_;refine zN ?_; (repeat refine zS ?_);refine zK (W_rounds (fun j T h12 => ∃ k : Nat, j = seg.length - k ∧ k ≤ seg.length ∧ h12 = h11 ∧ T.get 5 = some (.one y) ∧ T.get 8 = some (.one (.p h7.next 0)) ∧ T.get 10 = some (.one (.sl zb 0 SG.length SG.length 1 false)) ∧ T.get 11 = some (.one (.i .i64 (((SG.take n).flatten.length + k : Nat) : Int))) ∧ T.get 12 = some (.one (.i .i64 (n : Int))) ∧ T.get 13 = some (.one (.i .i64 (sumL (seg.take k)))) ∧ T.get 14 = some (.one (.i .i64 (k : Int)))) ?_ seg.length _ _ ?_);rotate_left
    ·exact ⟨0, rfl, Nat.zero_le _, rfl, gt t5, gt t8, gt t10, gt t11, gt t12, gs, gs⟩
    clear t5 t8 t10 t11 t12;rintro j T h12 ⟨k, rfl, hk, rfl, t5, t8, t10, t11, t12, t13, t14⟩
    (repeat refine zS ?_); refine zR ?_
    iterate 6 (first | (refine VX (zB (Gs3 @t10 @t12 @t14) (Gs3 @t10 @t12 @t14) zL) ?_) | (refine VX (Gd3 @t10 @t12 @t14) ?_) | (refine VX (Gd4 @rz @t10 @t12 @t14) ?_) | (refine VX (Ga3 @t10 @t12 @t14) ?_))
    refine zN ?_; (repeat refine zS ?_);refine zC (ee) (fun hlt => W_skip ?_) (fun hge => W_exit ?_)
    ·have hk' : (k : Int) < (seg.length : Int) := by simpa using hlt
     have hk' : k < seg.length := by omega
     obtain ⟨w, hw⟩ : ∃ w, seg[k]? = some w := ⟨_, List.getElem?_eq_getElem hk'⟩;have hwb := hws w (hsw w (List.mem_of_getElem? hw));obtain ⟨tt, hG⟩ := hGk n seg k w hseg hw
     have hwsk : ws[(SG.take n).flatten.length + k]? = some w := by
      rw [← hw]
      conv => rhs; rw [← hsd, List.getElem?_take, if_pos hk', List.getElem?_drop]
     have hsum := sumL_nn (l := seg.take k) (fun z hz => by have := hws z (hsw z (List.mem_of_mem_take hz)); omega);rw [List.length_take] at hsum;have hst := sumL_take hw;obtain ⟨gq, gc, gx, gks, hks, hgr⟩ := g10.geo hG;have hrc := row_sub hgr (j := 2) (x := ptS (sumL (seg.take k)) (10 * (n : Int))) rfl;have hrs := row_sub hgr (j := 3) (x := ptS w 10) rfl;obtain ⟨yb, hyv, yc, _, _⟩ := gy10.whole Om;have hyr : h12.row yb ((SG.take n).flatten.length + k) 1 = some [.i .i64 w] := yc.at1 (nums_get hwsk);rw [hks, hGl] at r104;rw [hyv] at t5;have hAk : (SG.take n).flatten.length + k < ws.length := by omega
     generalize hAA : (SG.take n).flatten.length + k = AA at *
     repeat refine zS ?_
     refine W_cut (fun T2 h13 => h13 = h12 ∧ T2.get 5 = some (.one y) ∧ T2.get 8 = some (.one (.p h7.next 0)) ∧ T2.get 10 = some (.one (.sl zb 0 SG.length SG.length 1 false)) ∧ T2.get 11 = some (.one (.i .i64 ((AA + 1 : Nat) : Int))) ∧ T2.get 12 = some (.one (.i .i64 (n : Int))) ∧ T2.get 13 = some (.one (.i .i64 (sumL (seg.take (k + 1))))) ∧ T2.get 14 = some (.one (.i .i64 (k : Int)))) ?_ ?_
     ·refine zK ?_
      (repeat refine zS ?_); refine zR ?_
      iterate 2 (refine VX (Ga2 @t12 @t13) ?_)
      (refine VX (zB (Gs2 @t12 @t13) (Gs2 @t12 @t13) in_mul) ?_; (try rw [zI Om Om]))
      refine WO_fn (ee) (by simp) Dc ((of_fn hs (x := sumL (seg.take k)) (y := 10 * (n : Int)) (by unfold CO; omega) (by unfold CO; omega)).mono ?_);rintro _ h12 ⟨rfl, rfl⟩
      iterate 5 (refine VO ?_)
      refine zN ?_; (repeat refine zS ?_);refine W_drawn dr11_23 (by kernel_rfl) o10.floor ?_;unfold dr11_23;have q1 : F64.feq (fO (sumL (seg.take k))) (fO (sumL (seg.take k))) = true := feq_one (by unfold CO; omega);have q2 : F64.feq (fO (10 * (n : Int))) (fO (10 * (n : Int))) = true := feq_one (by unfold CO; omega);have q3 : F64.feq (fO w) (fO w) = true := feq_one (by unfold CO; omega);have q4 : F64.feq (fO 10) 4621819117588971520 = true := by rw [fO_10]; exact (by kernel_rfl : F64.feq 4621819117588971520 4621819117588971520 = true)
      (refine zO rfl ?_)
      refine CP rfl (ee) (num_fn hs) ?_
      iterate 9 (first | (refine IX rfl (zB (Gs4 @t8 @t11 @d1 @Bool.not_true) (Gs4 @t8 @t11 @d1 @Bool.not_true) in_neq) ?_) | (refine IL rfl (zT rfl rfl (Gs4 @t8 @t11 @d1 @Bool.not_true) rfl) (Gs4 @t8 @t11 @d1 @Bool.not_true) (Gd2 @r104 @hrc) ?_) | (refine IN rfl (zG rfl rfl (Gs4 @t8 @t11 @d1 @Bool.not_true) rfl) ?_) | (refine IG rfl (zT rfl rfl (Gs4 @t8 @t11 @d1 @Bool.not_true) rfl) (Ga4 @t8 @t11 @d1 @Bool.not_true) ?_) | (refine IG rfl (zT rfl rfl (Gs4 @t8 @t11 @d1 @Bool.not_true) rfl) (Gd4 @t8 @t11 @d1 @Bool.not_true) ?_) | (refine IX rfl (Ga4 @t8 @t11 @d1 @Bool.not_true) ?_))
      refine IG rfl (zT rfl rfl (Gs2 @d1 @Bool.not_true) rfl) (ex_cne (ee) (ee)) ?_;rw [q1, q2]
      iterate 12 (first | (refine IL rfl (zT rfl rfl (Gs6 @t5 @t8 @t11 @d1 @Bool.not_true @Bool.and_self) rfl) (Gs6 @t5 @t8 @t11 @d1 @Bool.not_true @Bool.and_self) (Gd3 @r104 @hrs @hyr) ?_) | (refine IN rfl (zG rfl rfl (Gs6 @t5 @t8 @t11 @d1 @Bool.not_true @Bool.and_self) rfl) ?_) | (refine IG rfl (zT rfl rfl (Gs6 @t5 @t8 @t11 @d1 @Bool.not_true @Bool.and_self) rfl) (Ga6 @t5 @t8 @t11 @d1 @Bool.not_true @Bool.and_self) ?_) | (refine IG rfl (zT rfl rfl (Gs6 @t5 @t8 @t11 @d1 @Bool.not_true @Bool.and_self) rfl) (Gd6 @t5 @t8 @t11 @d1 @Bool.not_true @Bool.and_self) ?_) | (refine IX rfl (Ga6 @t5 @t8 @t11 @d1 @Bool.not_true @Bool.and_self) ?_))
      refine IG rfl (zT rfl rfl (Gs3 @d1 @Bool.not_true @Bool.and_self) rfl) (ex_toF (ee)) ?_;refine IG rfl (zT rfl rfl (Gs3 @d1 @Bool.not_true @Bool.and_self) rfl) (ex_cpx (ee) (by rfl)) ?_;refine IG rfl (zT rfl rfl (Gs3 @d1 @Bool.not_true @Bool.and_self) rfl) (ex_cne (ee) (ee)) ?_;rw [q3, q4]
      (refine IX rfl (Ga3 @d1 @Bool.not_true @Bool.and_self) ?_)
      refine WI_nil ?_; (repeat refine zS ?_);refine W_condF (Gt3 @d1 @Bool.not_true @Bool.and_self) rfl (W_skip ?_)
      (repeat refine zS ?_); refine zR ?_
      iterate 7 (first | (refine VX (zB (Gs3 @t5 @t11 @t13) (Gs3 @t5 @t11 @t13) zA) ?_; (try rw [zI Om Om])) | (refine VX (Gd3 @t5 @t11 @t13) ?_) | (refine VX (Gd4 @hyr @t5 @t11 @t13) ?_) | (refine VX (Ga3 @t5 @t11 @t13) ?_))
      refine zN ?_; (repeat refine zS ?_);refine zR ?_
      iterate 3 (first | (refine VX (zB (Gs1 @t11) (Gs1 @t11) zA) ?_; (try rw [zI Om Om])) | (refine VX (Ga1 @t11) ?_))
      exact zN ⟨rfl, rfl, (Gu2 @t5 @hyv), gt t8, gt t10, gs, gt t12, by rw [hst]; (simp only [go_sem, ↓reduceIte, Nat.reduceEqDiff] <;> first | rfl | simp), gt t14⟩
     ·rintro T2 h13 ⟨rfl, t5, t8, t10, t11, t12, t13, t14⟩;refine zR ?_
      iterate 3 (first | (refine VX (zB (Gs1 @t14) (Gs1 @t14) zA) ?_; (try rw [zI Om Om])) | (refine VX (Ga1 @t14) ?_))
      exact zN ⟨seg.length - (k + 1), by omega, k + 1, rfl, hk', rfl, gt t5, gt t8, gt t10, by rw [← Nat.add_assoc, hAA]; (simp only [go_sem, ↓reduceIte, Nat.reduceEqDiff, t11] <;> first | rfl | simp), gt t12, gt t13, gs⟩
    ·have hge2 : ¬ (k : Int) < (seg.length : Int) := by simpa using hge
     have hkN : k = seg.length := by omega
     subst hkN;exact ⟨fun _ => ⟨rfl, rfl, t5, t8, by rw [hz]; exact t10, by rw [hft]; exact t11, t12⟩, fun hne => absurd rfl hne⟩
   ·rintro T2 h12 ⟨rfl, t5, t8, t10, t11, t12⟩;refine zR ?_
    iterate 3 (first | (refine VX (zB (Gs1 @t12) (Gs1 @t12) zA) ?_; (try rw [zI Om Om])) | (refine VX (Ga1 @t12) ?_))
    exact zN ⟨SG.length - (n + 1), by omega, n + 1, rfl, hn', rfl, gt t5, gt t8, gt t10, gt t11, gs⟩
  ·exact ⟨fun _ => ⟨rfl, rfl, t8, t10⟩, fun hne => absurd rfl hne⟩
 clear t3 t4 t5;rintro T h11 ⟨rfl, t8, t10⟩;have q5 : F64.feq (fO (10 * (SG.length : Int))) (fO (10 * (SG.length : Int))) = true := feq_one (by unfold CO; omega)
 (repeat refine zS ?_); refine zR ?_
 (refine VX (Ga1 @t8) ?_)
 (refine VX (Gd2 @r103 @t8) ?_)
 refine zV (ex_imag (ee)) Dc ?_
 (refine VX (Ga1 @t10) ?_)
 refine zV (gz.len1 el26 (ee)) Dc ?_;rw [nums_length, List.length_map]
 (refine VX (zB ee ee in_mul) ?_; (try rw [zI Om Om]))
 refine zV (ex_toF (ee)) Dc ?_;refine zV (ex_feq (ee) (ee)) Dc ?_;rw [q5];refine VO ?_;refine WO_fnG (zT rfl rfl Gs0 rfl) (ee) (by simp) Dc ((wakes_fn hs o10).mono ?_);rintro _ h12 ⟨rfl, u12, o12⟩
 iterate 2 (refine VO ?_)
 exact zN (W_ret ⟨.inr rfl, _, RbA, rfl⟩)
end Go.Ai
