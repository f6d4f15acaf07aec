/-
LayoutWraps, part 24 of 48: FxShared.
-/
import Derived.Test.YthacbaagffpkoaaLw23
set_option linter.unusedVariables false
set_option linter.unusedSimpArgs false
set_option maxRecDepth 100000
set_option maxHeartbeats 0
namespace Go.Ai
open Go.Proofs
instance : Inhabited Itm := ⟨⟨0, 0, 0, 0, 0⟩⟩
structure PartsOk (spec : CallF) (prt : Int → List Int → List Int) : Prop where
 len : ∀ t ws, (prt t ws).length = ws.length
 bd : ∀ t ws, 0 ≤ t → t ≤ 1099511627776 → ws ≠ [] → (∀ x ∈ ws, 0 < x ∧ x ≤ 1048576) → ∀ y ∈ prt t ws, 0 ≤ y ∧ y ≤ 1099511627776
 fn : ∀ (h : H) (v : S) (t : Int) (ws : List Int), Ok h → IntsAt h v ws → ws ≠ [] → ws.length ≤ 64 → 0 ≤ t → t ≤ 1099511627776 → (∀ x ∈ ws, 0 < x ∧ x ≤ 1048576) → WF Try.prog spec 92 [.one (.i .i64 t), .one v] h fun r h1 => ∃ x, r = .one x ∧ Grown h1 x h.next 3 1 (nums (prt t ws)) ∧ Up (· < h.next) h h1 ∧ Ok h1
def wtsI (L : List Itm) (G : Bool) (opn : List Nat) : List Int := opn.map fun i => (L.getD i default).weight G
def newI (L : List Itm) (G : Bool) (i : Nat) (p : Int) : Int := if G then min ((L.getD i default).base + p) 1099511627776 else max ((L.getD i default).base - p) 0
def sharedI (prt : Int → List Int → List Int) (L : List Itm) (gap room : Int) (G : Bool) (ss : List Int) (fx : List Bool) (opn : List Nat) : List Int :=
 List.zipWith (newI L G) opn (prt (min (freeN L gap room G ss fx) 1099511627776) (wtsI L G opn))
theorem zip_take {α β γ : Type} {f : α → β → γ} {l : List α} {m : List β} {k : Nat} {x : α} {y : β} (hx : l[k]? = some x) (hy : m[k]? = some y) : (List.zipWith f l m).take (k + 1) = (List.zipWith f l m).take k ++ [f x y] := by
 obtain ⟨h1, rfl⟩ := gEi.1 hx;obtain ⟨h2, rfl⟩ := gEi.1 hy;have h3 : k < (List.zipWith f l m).length := by simp; omega
 rw [List.take_succ_eq_append_getElem h3];simp
theorem map_take {α β : Type} {f : α → β} {l : List α} {k : Nat} {x : α} (hx : l[k]? = some x) : (l.map f).take (k + 1) = (l.map f).take k ++ [f x] := by
 obtain ⟨h1, rfl⟩ := gEi.1 hx;rw [List.take_succ_eq_append_getElem (by simpa using h1)]; simp
theorem free_bd (L : List Itm) (gap room : Int) (G : Bool) (ss : List Int) (fx : List Bool) : 0 ≤ freeN L gap room G ss fx := by unfold freeN; split <;> omega
def castL (l : List Nat) : List Int := l.map fun (k : Nat) => (k : Int)
theorem idx_cast (l : List Nat) : idx l = nums (castL l) := by simp [idx, nums, castL]
theorem cast_get {l : List Nat} {k i : Nat} (h : l[k]? = some i) : (castL l)[k]? = some (i : Int) := by simp [castL, h]
theorem shared_fn {spec : CallF} (hs : SpecFlex spec) {prt : Int → List Int → List Int} (hP : PartsOk spec prt) {h : H} {bw bs bf bl ol cl : Nat} {ex : Bool} {L : List Itm} {gap room : Int} {G : Bool} {ss : List Int} {fx : List Bool} {vo : S} {opn : List Nat} (ok : Ok h) (lok : LineOk L gap room)
  (k : Work h bw bs bf bl ol cl ex L gap room G ss fx) (sok : ∀ s ∈ ss, 0 ≤ s ∧ s ≤ 1099511627776) (ho : IntsAt h vo (castL opn)) (hne : opn ≠ []) (hlt : ∀ i ∈ opn, i < L.length) (hlen : opn.length ≤ 64) (hw0 : ∀ i ∈ opn, (L.getD i default).weight G ≠ 0) :
  WF Try.prog spec 91 [.one (.p bw 0), .one vo] h fun v h1 => ∃ x, v = .one x ∧ Grown h1 x h.next 3 1 (nums (sharedI prt L gap room G ss fx opn)) ∧ Up (· < h.next) h h1 ∧ Ok h1 := by
 refine WF_of Try.func91 rfl (hs.s61 _ _) (by rw [Try.ntmps91]; simp) (by rw [Try.ntmps91]; decide) ?_;rw [Try.ntmps91, Try.results91];simp only [Sl.setMany_cons, Sl.setMany_nil, Nat.zero_add, Nat.reduceAdd]
 obtain ⟨bo, co, exo, rfl, hbo, hro⟩ : ∃ b c ex, vo = .sl b 0 opn.length c 1 ex ∧ b < h.next ∧ ∀ (k i : Nat), opn[k]? = some i → h.row b k 1 = some [.i .i64 (i : Int)] := by
  rcases ho with ⟨q, _⟩ | ⟨b, c, ex, rfl, q1, q2⟩
  ·exact absurd (by simpa [castL] using q) hne
  ·exact ⟨b, c, ex, by simp [castL], q1, fun k i hi => q2 k _ (cast_get hi)⟩
 (repeat refine zS ?_); refine zR ?_
 refine VO ?_;refine zN ?_; (repeat refine zS ?_);refine zR ?_;refine VO ?_;refine zN ?_; (repeat refine zS ?_);refine zR ?_;refine VO ?_
 (refine VX (ex_len el26 Gs0) ?_)
 refine VO ?_;refine zN ?_; (repeat refine zS ?_);refine zK (W_rounds (fun j T h1 => ∃ i x, j = opn.length - i ∧ i ≤ opn.length ∧ T.get 0 = some (.one (.p bw 0)) ∧ T.get 1 = some (.one (.sl bo 0 opn.length co 1 exo)) ∧ T.get 4 = some (.one .sl0) ∧ T.get 5 = some (.one x) ∧ T.get 11 = some (.one (.sl bo 0 opn.length co 1 exo)) ∧ T.get 12 = some (.one (.i .i64 (opn.length : Int))) ∧ T.get 13 = some (.one (.i .i64 (i : Int))) ∧ Grown h1 x h.next 3 1 (nums ((wtsI L G opn).take i)) ∧ Up (· < h.next) h h1 ∧ Ok h1) ?_ opn.length _ _ ?_);rotate_left
 ·exact ⟨0, .sl0, rfl, Nat.zero_le _, gs, gs, gs, gs, gs, gs, gs, .nil, .refl _ _, ok⟩
 rintro j T h1 ⟨i, x, rfl, hi, t0, t1, t4, t5, t11, t12, t13, gx, u1, o1⟩;have k1 := k.upLt u1;have c1 := k1.w;have hn1 := u1.next
 (repeat refine zS ?_); refine zR ?_
 (refine VX (zB (Gs2 @t12 @t13) (Gs2 @t12 @t13) zL) ?_)
 refine zN ?_; (repeat refine zS ?_);refine zC (ee) (fun hlt1 => W_skip ?_) (fun hge => W_exit ?_)
 ·have hlt1 : (i : Int) < (opn.length : Int) := by simpa using hlt1
  have hlt1 : i < opn.length := by omega
  obtain ⟨m, hm⟩ : ∃ m, opn[i]? = some m := ⟨_, List.getElem?_eq_getElem hlt1⟩;have hmL := hlt m (List.mem_of_getElem? hm);have r1 : h1.row bo i 1 = some [.i .i64 (m : Int)] := by rw [u1.row hbo]; exact hro i m hm
  obtain ⟨y, hy⟩ : ∃ y, L[m]? = some y := ⟨_, List.getElem?_eq_getElem hmL⟩;have hyd : L.getD m default = y := by rw [List.getD_eq_getElem?_getD, hy]; rfl
  have hyo := lok.ok y (List.mem_of_getElem? hy);have r2 := k1.items m y hy
  repeat refine zS ?_
  refine zK ?_
  (repeat refine zS ?_); refine zR ?_
  (refine VX (Gd2 @t11 @t13) ?_)
  (refine VX (Gd3 @r1 @t11 @t13) ?_)
  (refine VX (Ga2 @t11 @t13) ?_)
  refine zN ?_; (repeat refine zS ?_);refine zR ?_
  iterate 9 (first | (refine VX (Gd4 @c1.row @r2 @t0 @t5) ?_) | (refine VX (Gd2 @t0 @t5) ?_) | (refine VX (Ga2 @t0 @t5) ?_))
  refine WO_fn (ee) (by simp) Dc ((weight_ok hs.s60 hyo o1 c1 k1.lt.1).mono ?_);rintro r h2 ⟨rfl, u2, e2, o2⟩;refine WO_bs1 el26 ⟨_, ze26⟩ (ee) o2 Dc fun h3 n3 => ?_;have u3 : Up (· < h1.next) h1 h3 := u2.trans (n3.up.mono fun b hb => by omega);have e3 := n3.next;have g3 := gx.up u3 fun q hq => (gx.lt hq).2
  refine WO_app (n0 := h.next) ap26_26 (Gt1 @t5) (ee) n3.cells rfl g3 n3.ok Om (m := ((wtsI L G opn).take i).length) (by simp [nums]) (by simp; omega) (by simp; omega) Dc fun x4 h4 g4 => ?_;refine VO ?_;refine zN ?_; (repeat refine zS ?_);refine zR ?_
  (refine VX (zB (Gs1 @t13) (Gs1 @t13) zA) ?_; (try rw [zI Om Om]))
  (refine VX (Ga1 @t13) ?_)
  refine zN ?_;have e : (wtsI L G opn).take (i + 1) = (wtsI L G opn).take i ++ [y.weight G] := by unfold wtsI; rw [map_take hm, hyd]
  exact ⟨opn.length - (i + 1), by omega, i + 1, x4, rfl, hlt1, gt t0, gt t1, gt t4, gs, gt t11, gt t12, gs, g4.grown.same (by rw [e, nums_append]; rfl), (u1.trans (u3.mono fun b hb => by omega)).trans (g4.below g3 Om), g4.ok⟩
 ·have hge : ¬ (i : Int) < (opn.length : Int) := by simpa using hge
  have hi : i = opn.length := by omega
  subst hi;have ew : (wtsI L G opn).take opn.length = wtsI L G opn := List.take_of_length_le (by simp [wtsI]);rw [ew] at gx;refine ⟨fun _ => ?_, fun hne => absurd rfl hne⟩
  (repeat refine zS ?_); refine zR ?_
  (refine VX (Ga1 @t0) ?_)
  refine WO_fn (Gt1 @t0) (by simp) Dc ((free_ok hs.s66 o1 lok k1 sok).mono ?_);rintro r h2 ⟨rfl, u2, o2⟩;have hfr := free_bd L gap room G ss fx;have g2 := gx.up u2 fun q hq => (gx.lt hq).2
  have hn2 := u2.next
  (refine VX (ex_min (Gs1 @t5) (Gs1 @t5)) ?_)
  (refine VX (Ga1 @t5) ?_)
  have hws : ∀ x ∈ wtsI L G opn, 0 < x ∧ x ≤ 1048576 := by
   intro x hx;obtain ⟨m, hm, rfl⟩ := List.mem_map.1 hx;have h0 := hw0 m hm;have hmo := lok.ok (L.getD m default) (by rw [List.getD_eq_getElem?_getD, List.getElem?_eq_getElem (hlt m hm)]; exact List.getElem_mem _);have hb := hmo.mul;have hg := hmo.gr
   revert h0
   unfold Itm.weight;split <;> intro h0 <;> omega
  refine WO_fn (ee) (by simp) Dc ((hP.fn h2 x (min (freeN L gap room G ss fx) 1099511627776) (wtsI L G opn) o2 g2.ints (by simpa [wtsI] using hne) (by simpa [wtsI] using hlen) Om Om hws).mono ?_);rintro r h3 ⟨xp, rfl, g3, u3, o3⟩;have hPl : (prt (min (freeN L gap room G ss fx) 1099511627776) (wtsI L G opn)).length = opn.length := by rw [hP.len]; simp [wtsI]
  have hPb := hP.bd (min (freeN L gap room G ss fx) 1099511627776) (wtsI L G opn) Om Om (by simpa [wtsI] using hne) hws;have hsh : sharedI prt L gap room G ss fx opn = List.zipWith (newI L G) opn (prt (min (freeN L gap room G ss fx) 1099511627776) (wtsI L G opn)) := rfl;generalize prt (min (freeN L gap room G ss fx) 1099511627776) (wtsI L G opn) = ps at *;have hpos : 0 < opn.length := List.length_pos_iff.2 hne
  obtain ⟨bp, rfl, hcp, hbp⟩ : ∃ bp, xp = .sl bp 0 opn.length opn.length 1 false ∧ Cells h3 bp 3 (nums ps) ∧ h2.next ≤ bp ∧ bp < h3.next := by
   rcases g3 with ⟨q, _⟩ | ⟨q, n, rfl, q1, q2, q3, q4, q5, q6⟩
   ·have := congrArg List.length q; rw [nums_length, List.length_nil] at this; omega
   ·have : n = opn.length := by rw [nums_length, hPl] at q2; omega
    subst this; exact ⟨q, rfl, q3, q5, q6⟩
  (refine VX (ex_len el26 Gs0) ?_)
  refine VO ?_;refine zN ?_; (repeat refine zS ?_);have u13 : Up (· < h.next) h h3 := (u1.trans (u2.mono fun b hb => by omega)).trans (u3.mono fun b hb => by omega);refine zK (W_rounds (fun j T h4 => ∃ i x, j = opn.length - i ∧ i ≤ opn.length ∧ T.get 0 = some (.one (.p bw 0)) ∧ T.get 1 = some (.one (.sl bo 0 opn.length co 1 exo)) ∧ T.get 4 = some (.one x) ∧ T.get 34 = some (.one (.sl bp 0 opn.length opn.length 1 false)) ∧ T.get 35 = some (.one (.i .i64 (opn.length : Int))) ∧ T.get 36 = some (.one (.i .i64 (i : Int))) ∧ Grown h4 x h3.next 3 1 (nums ((List.zipWith (newI L G) opn ps).take i)) ∧ Up (· < h3.next) h3 h4 ∧ Ok h4) ?_ opn.length _ _ ?_);rotate_left
  ·exact ⟨0, .sl0, rfl, Nat.zero_le _, gt t0, gt t1, gt t4, gs, gs, gs, .nil, .refl _ _, o3⟩
  clear gx g2 g3 t13 hge hi t5 t11 t12;rintro j T h4 ⟨i, x, rfl, hi, t0, t1, t4, t34, t35, t36, gx, u4, o4⟩;have u14 := u13.trans (u4.mono fun b hb => by omega);have k4 := k.upLt u14;have c4 := k4.w;have hn4 := u4.next;have hn3 := u3.next
  (repeat refine zS ?_); refine zR ?_
  (refine VX (zB (Gs2 @t35 @t36) (Gs2 @t35 @t36) zL) ?_)
  refine zN ?_; (repeat refine zS ?_);refine zC (ee) (fun hlt1 => W_skip ?_) (fun hge => W_exit ?_)
  ·have hlt1 : (i : Int) < (opn.length : Int) := by simpa using hlt1
   have hlt1 : i < opn.length := by omega
   obtain ⟨m, hm⟩ : ∃ m, opn[i]? = some m := ⟨_, List.getElem?_eq_getElem hlt1⟩;have hmL := hlt m (List.mem_of_getElem? hm);obtain ⟨pv, hpv⟩ : ∃ pv, ps[i]? = some pv := ⟨_, List.getElem?_eq_getElem Om⟩;have hpb := hPb pv (List.mem_of_getElem? hpv);have r1 : h4.row bo i 1 = some [.i .i64 (m : Int)] := by rw [u14.row hbo]; exact hro i m hm
   have r3 : h4.row bp i 1 = some [.i .i64 pv] := (u4.cells hbp.2 hcp).at1 (nums_get hpv);obtain ⟨y, hy⟩ : ∃ y, L[m]? = some y := ⟨_, List.getElem?_eq_getElem hmL⟩;have hyd : L.getD m default = y := by rw [List.getD_eq_getElem?_getD, hy]; rfl
   have hyo := lok.ok y (List.mem_of_getElem? hy);have hyb := hyo.base
   have r2 : h4.row bl (ol + m * 5) 1 = some [.i .i64 y.base] := by
    have := k4.items m y hy;exact row_head this
   repeat refine zS ?_
   refine zK ?_
   (repeat refine zS ?_); refine zR ?_
   iterate 5 (first | (refine VX (Gd2 @t34 @t36) ?_) | (refine VX (Gd3 @r3 @t34 @t36) ?_) | (refine VX (Ga2 @t34 @t36) ?_))
   refine zN ?_; (repeat refine zS ?_);refine W_drawn dr91_10 (by kernel_rfl) o4.floor ?_;unfold dr91_10
   iterate 12 (first | (refine IL rfl zF (Gs3 @t0 @t1 @Nat.add_zero) (Gd3 @c4.row @r1 @r2) ?_) | (refine IX rfl (Gd3 @t0 @t1 @Nat.add_zero) ?_) | (refine IX rfl (Ga3 @t0 @t1 @Nat.add_zero) ?_))
   refine WI_nil ?_; (repeat refine zS ?_);refine zR ?_
   iterate 3 (refine VX (Ga1 @t0) ?_)
   (refine VX (Gd2 @c4.row @t0) ?_)
   refine zN ?_; (repeat refine zS ?_);have e : (List.zipWith (newI L G) opn ps).take (i + 1) = (List.zipWith (newI L G) opn ps).take i ++ [newI L G m pv] := zip_take hm hpv;have hle : ((List.zipWith (newI L G) opn ps).take i).length = i := by simp; omega
   refine zC (ee) (fun hg => ?_) (fun hg => ?_)
   ·subst hg;refine zR ?_
    iterate 5 (first | (refine VX (zB (Gs1 @t4) (Gs1 @t4) zA) ?_; (try rw [zI Om Om])) | (refine VX (ex_min (Gs1 @t4) (Gs1 @t4)) ?_) | (refine VX (Ga1 @t4) ?_))
    refine WO_bs1 el26 ⟨_, ze26⟩ (ee) o4 Dc fun h5 n5 => ?_;have e5 := n5.next;have g5 := gx.up n5.up fun q hq => (gx.lt hq).2
    refine WO_app (n0 := h3.next) ap26_26 (Gt1 @t4) (ee) n5.cells rfl g5 n5.ok Om (m := i) (by simp [nums]; omega) Om Om Dc fun x6 h6 g6 => ?_;refine VO ?_;refine zN ?_; (repeat refine zS ?_);refine zR ?_
    (refine VX (zB (Gs1 @t36) (Gs1 @t36) zA) ?_; (try rw [zI Om Om]))
    (refine VX (Ga1 @t36) ?_)
    refine zN ?_;exact ⟨opn.length - (i + 1), by omega, i + 1, x6, rfl, hlt1, gt t0, gt t1, gs, gt t34, gt t35, gs, g6.grown.same (by rw [e, nums_append]; unfold newI; rw [hyd]; rfl), (u4.trans (n5.up.mono fun b hb => by omega)).trans (g6.below g5 Om), g6.ok⟩
   ·subst hg;refine zR ?_
    iterate 5 (first | (refine VX (zB (Gs1 @t4) (Gs1 @t4) in_sub) ?_; (try rw [zI Om Om])) | (refine VX (ex_max (Gs1 @t4) (Gs1 @t4)) ?_) | (refine VX (Ga1 @t4) ?_))
    refine WO_bs1 el26 ⟨_, ze26⟩ (ee) o4 Dc fun h5 n5 => ?_;have e5 := n5.next;have g5 := gx.up n5.up fun q hq => (gx.lt hq).2
    refine WO_app (n0 := h3.next) ap26_26 (Gt1 @t4) (ee) n5.cells rfl g5 n5.ok Om (m := i) (by simp [nums]; omega) Om Om Dc fun x6 h6 g6 => ?_;refine VO ?_;refine zN ?_; (repeat refine zS ?_);refine zR ?_
    (refine VX (zB (Gs1 @t36) (Gs1 @t36) zA) ?_; (try rw [zI Om Om]))
    (refine VX (Ga1 @t36) ?_)
    refine zN ?_;exact ⟨opn.length - (i + 1), by omega, i + 1, x6, rfl, hlt1, gt t0, gt t1, gs, gt t34, gt t35, gs, g6.grown.same (by rw [e, nums_append]; unfold newI; rw [hyd]; rfl), (u4.trans (n5.up.mono fun b hb => by omega)).trans (g6.below g5 Om), g6.ok⟩
  ·have hge : ¬ (i : Int) < (opn.length : Int) := by simpa using hge
   have hi : i = opn.length := by omega
   subst hi;refine ⟨fun _ => ?_, fun hne => absurd rfl hne⟩
   (repeat refine zS ?_); refine zR ?_
   iterate 2 (refine VX (Ga1 @t4) ?_)
   have e : (List.zipWith (newI L G) opn ps).take opn.length = List.zipWith (newI L G) opn ps := List.take_of_length_le (by simp; omega);rw [e] at gx;refine zN (W_ret ⟨.inr rfl, _, RbA, x, rfl, ?_, u14, o4⟩);rw [hsh];rcases gx with q | ⟨q, n, rfl, q1, q2, q3, q4, q5, q6⟩
   ·exact .inl q
   ·exact .inr ⟨q, n, rfl, q1, q2, q3, q4, by omega, q6⟩
end Go.Ai
