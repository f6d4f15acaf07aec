/-
LayoutWraps, part 25 of 48: FxRound.
-/
import Derived.Test.YthacbaagffpkoaaLw24
set_option linter.unusedVariables false
set_option linter.unusedSimpArgs false
set_option maxRecDepth 100000
set_option maxHeartbeats 0
namespace Go.Ai
open Go.Proofs
def clampAt (L : List Itm) (i : Nat) (x : Int) : Int := clampI x (L.getD i default).mn (L.getD i default).mx
def sumL : List Int → Int
 | [] => 0
 | x :: l => x + sumL l
theorem sumL_append (l m : List Int) : sumL (l ++ m) = sumL l + sumL m := by
 induction l with
 | nil => simp [sumL]
 | cons x l ih => simp only [List.cons_append, sumL, ih]; omega
theorem sumL_bd {B : Int} (hB : 0 ≤ B) {l : List Int} (h : ∀ x ∈ l, -B ≤ x ∧ x ≤ B) : -(l.length * B) ≤ sumL l ∧ sumL l ≤ l.length * B := by
 induction l with
 | nil => simp [sumL]
 | cons x l ih =>
  have h1 := ih fun y hy => h y (by simp [hy])
  have h2 := h x (by simp);simp only [sumL, List.length_cons];have : ((l.length + 1 : Nat) : Int) * B = l.length * B + B := by rw [Int.natCast_add, Int.add_mul]; simp
  omega
def sets {α : Type} (s : List α) (l : List (Nat × α)) : List α := l.foldl (fun s p => s.set p.1 p.2) s
theorem sets_length {α : Type} (l : List (Nat × α)) : ∀ s : List α, (sets s l).length = s.length := by
 induction l with
 | nil => intro s; rfl
 | cons p l ih => intro s; exact (ih _).trans (by simp)
theorem sets_snoc {α : Type} (s : List α) (l : List (Nat × α)) (p : Nat × α) : sets s (l ++ [p]) = (sets s l).set p.1 p.2 := by unfold sets; rw [List.foldl_append]; rfl
theorem sets_get {α : Type} : ∀ (l : List (Nat × α)) (s : List α) (i : Nat), (∀ p ∈ l, p.1 ≠ i) → (sets s l)[i]? = s[i]?
 | [], s, i, _ => rfl
 | p :: l, s, i, h => by
  show (sets (s.set p.1 p.2) l)[i]? = _;rw [sets_get l _ i fun q hq => h q (by simp [hq]), List.getElem?_set_ne (h p (by simp))]
theorem sets_at {α : Type} : ∀ (l : List (Nat × α)) (s : List α) (k : Nat) (i : Nat) (x : α), l[k]? = some (i, x) → (l.map (·.1)).Nodup → i < s.length → (sets s l)[i]? = some x
 | [], s, k, i, x, h, _, _ => by simp at h
 | p :: l, s, k, i, x, h, hn, hi => by
  simp only [List.map_cons, List.nodup_cons] at hn;show (sets (s.set p.1 p.2) l)[i]? = _
  cases k with
  | zero =>
   simp at h; subst h;rw [sets_get l _ i fun q hq e => hn.1 (by rw [← e]; exact List.mem_map.2 ⟨q, hq, rfl⟩), List.getElem?_set_self hi]
  | succ k => exact sets_at l _ k i x (by simpa using h) hn.2 (by simpa using hi)
def pairS (L : List Itm) (i : Nat) (x : Int) : Nat × Int := (i, clampAt L i x)
def byI (L : List Itm) (i : Nat) (x : Int) : Int := clampAt L i x - x
def roundS (L : List Itm) (opn : List Nat) (xs ss : List Int) : List Int := sets ss (List.zipWith (pairS L) opn xs)
def bentI (L : List Itm) (opn : List Nat) (xs : List Int) : Int := sumL (List.zipWith (byI L) opn xs)
def fixesI (bent d : Int) : Bool := decide (bent = 0) || (decide (0 < bent) && decide (0 < d)) || (decide (bent < 0) && decide (d < 0))
def pairF (L : List Itm) (bent : Int) (i : Nat) (x : Int) : Nat × Bool := (i, fixesI bent (byI L i x))
def roundF (L : List Itm) (opn : List Nat) (xs : List Int) (fx : List Bool) : List Bool := sets fx (List.zipWith (pairF L (bentI L opn xs)) opn xs)
theorem nums_set {l : List Int} {m : Nat} {c : Int} (hm : m < l.length) : (nums l).take m ++ [S.i .i64 c] ++ (nums l).drop (m + 1) = nums (l.set m c) := by
 rw [List.set_eq_take_append_cons_drop, if_pos hm]; simp [nums]
theorem bools_set {l : List Bool} {m : Nat} {c : Bool} (hm : m < l.length) : (bools l).take m ++ [S.b c] ++ (bools l).drop (m + 1) = bools (l.set m c) := by
 rw [List.set_eq_take_append_cons_drop, if_pos hm]; simp [bools]
theorem zip_fst {L : List Itm} {opn : List Nat} {xs : List Int} (h : xs.length = opn.length) : (List.zipWith (pairS L) opn xs).map (·.1) = opn := by
 induction opn generalizing xs with
 | nil => simp
 | cons i opn ih => cases xs with
  | nil => simp at h
  | cons x xs => simp only [List.zipWith_cons_cons, List.map_cons, ih (by simpa using h)]; rfl
theorem zip_mem {α β γ : Type} {f : α → β → γ} {z : γ} : ∀ {l : List α} {m : List β}, z ∈ List.zipWith f l m → ∃ x ∈ l, ∃ y ∈ m, z = f x y
 | x :: l, y :: m, h => by
  simp only [List.zipWith_cons_cons, List.mem_cons] at h;rcases h with rfl | h
  ·exact ⟨x, by simp, y, by simp, rfl⟩
  ·obtain ⟨x', h1, y', h2, e⟩ := zip_mem h; exact ⟨x', by simp [h1], y', by simp [h2], e⟩
theorem LineOk.at {L : List Itm} {gap room : Int} (k : LineOk L gap room) {i : Nat} (hi : i < L.length) : (L.getD i default).ok := by
 rw [List.getD_eq_getElem?_getD, List.getElem?_eq_getElem hi]; exact k.ok _ (List.getElem_mem _)
theorem clampAt_bd {L : List Itm} {gap room : Int} (k : LineOk L gap room) {i : Nat} (hi : i < L.length) {x : Int} (hx : 0 ≤ x ∧ x ≤ 1099511627776) : 0 ≤ clampAt L i x ∧ clampAt L i x ≤ 1099511627776 := by
 have h1 := (k.at hi).mn;have h2 := (k.at hi).mx;unfold clampAt clampI; split <;> omega
theorem Work.putSizes {h h1 : H} {bw bs bf bl ol cl : Nat} {ex : Bool} {L : List Itm} {gap room : Int} {G : Bool} {ss ss' : List Int} {fx : List Bool} (k : Work h bw bs bf bl ol cl ex L gap room G ss fx) (p : Put h h1 bs 3 (nums ss')) (hl : ss'.length = L.length) : Work h1 bw bs bf bl ol cl ex L gap room G ss' fx :=
 have n := k.ne
 ⟨p.up.cells (show bw ≠ bs by omega) k.w, fun i x hx => by rw [p.up.row (show bl ≠ bs by omega)]; exact k.items i x hx, p.cells, p.up.cells (show bf ≠ bs by omega) k.fixed, hl, k.lf, by rw [p.next]; exact k.lt, k.ne, by rw [p.up.may, p.up.may, p.up.may]; exact k.may⟩
theorem Work.putFixed {h h1 : H} {bw bs bf bl ol cl : Nat} {ex : Bool} {L : List Itm} {gap room : Int} {G : Bool} {ss : List Int} {fx fx' : List Bool} (k : Work h bw bs bf bl ol cl ex L gap room G ss fx) (p : Put h h1 bf 4 (bools fx')) (hl : fx'.length = L.length) : Work h1 bw bs bf bl ol cl ex L gap room G ss fx' :=
 have n := k.ne
 ⟨p.up.cells (show bw ≠ bf by omega) k.w, fun i x hx => by rw [p.up.row (show bl ≠ bf by omega)]; exact k.items i x hx, p.up.cells (show bs ≠ bf by omega) k.sizes, p.cells, k.ls, hl, by rw [p.next]; exact k.lt, k.ne, by rw [p.up.may, p.up.may, p.up.may]; exact k.may⟩
theorem round_fn {spec : CallF} (hs : SpecFlex spec) {prt : Int → List Int → List Int} (hP : PartsOk spec prt) {h : H} {bw bs bf bl ol cl : Nat} {ex : Bool} {L : List Itm} {gap room : Int} {G : Bool} {ss : List Int} {fx : List Bool} {vo : S} {opn : List Nat} (ok : Ok h) (lok : LineOk L gap room)
  (k : Work h bw bs bf bl ol cl ex L gap room G ss fx) (sok : ∀ s ∈ ss, 0 ≤ s ∧ s ≤ 1099511627776) (ho : IntsAt h vo (castL opn)) (hob : S.blk vo ≠ some bs ∧ S.blk vo ≠ some bf) (hne : opn ≠ []) (hlt : ∀ i ∈ opn, i < L.length) (hlen : opn.length ≤ 64) (hnd : opn.Nodup) (hw0 : ∀ i ∈ opn, (L.getD i default).weight G ≠ 0) :
  WF Try.prog spec 86 [.one (.p bw 0), .one vo] h fun v h1 => v = .tup [] ∧ Up (fun b => b < h.next ∧ b ≠ bs ∧ b ≠ bf) h h1 ∧ Ok h1 ∧ Work h1 bw bs bf bl ol cl ex L gap room G (roundS L opn (sharedI prt L gap room G ss fx opn) ss) (roundF L opn (sharedI prt L gap room G ss fx opn) fx) := by
 refine WF_of Try.func86 rfl (hs.s53 _ _) (by rw [Try.ntmps86]; simp) (by rw [Try.ntmps86]; decide) ?_;rw [Try.ntmps86, Try.results86];simp only [Sl.setMany_cons, Sl.setMany_nil, Nat.zero_add, Nat.reduceAdd];have hpos : 0 < opn.length := List.length_pos_iff.2 hne;have hxl : (sharedI prt L gap room G ss fx opn).length = opn.length := by unfold sharedI; rw [List.length_zipWith, hP.len]; simp [wtsI]
 have hxb : ∀ x ∈ sharedI prt L gap room G ss fx opn, 0 ≤ x ∧ x ≤ 1099511627776 := by
  intro x hx;obtain ⟨i, hi, p, hp, rfl⟩ := zip_mem hx;have hfr := free_bd L gap room G ss fx
  have hpb := hP.bd _ _ Om Om (by simpa [wtsI] using hne) (fun w hw => by
   obtain ⟨m, hm, rfl⟩ := List.mem_map.1 hw;have h0 := hw0 m hm;have hmo := lok.at (hlt m hm);have hb := hmo.mul;have hg := hmo.gr
   revert h0
   unfold Itm.weight
   split <;> intro h0 <;> omega) p hp
  have hb := (lok.at (hlt i hi)).base;unfold newI; split <;> omega
 (repeat refine zS ?_); refine zR ?_
 refine VO ?_;refine zN ?_; (repeat refine zS ?_);refine zR ?_
 iterate 2 (refine VO ?_)
 refine WO_fn (ee) (by simp) Dc ((shared_fn hs hP ok lok k sok ho hne hlt hlen hw0).mono ?_);rintro r h1 ⟨xv, rfl, g1, u1, o1⟩;refine VO ?_;refine zN ?_; (repeat refine zS ?_);refine zR ?_;generalize sharedI prt L gap room G ss fx opn = xs at *
 obtain ⟨bx, rfl, hcx, hbx⟩ : ∃ bx, xv = .sl bx 0 opn.length opn.length 1 false ∧ Cells h1 bx 3 (nums xs) ∧ h.next ≤ bx ∧ bx < h1.next := by
  rcases g1 with ⟨q, _⟩ | ⟨q, n, rfl, q1, q2, q3, q4, q5, q6⟩
  ·have := congrArg List.length q; rw [nums_length, List.length_nil] at this; omega
  ·have : n = opn.length := by rw [nums_length] at q2; omega
   subst this; exact ⟨q, rfl, q3, q5, q6⟩
 obtain ⟨bo, co, exo, rfl, hbo, hro⟩ : ∃ b c ex, vo = .sl b 0 opn.length c 1 ex ∧ b < h.next ∧ ∀ (k i : Nat), opn[k]? = some i → h.row b k 1 = some [.i .i64 (i : Int)] := by
  rcases ho with ⟨q, _⟩ | ⟨b, c, ex, rfl, q1, q2⟩
  ·exact absurd (by simpa [castL] using q) hne
  ·exact ⟨b, c, ex, by simp [castL], q1, fun k i hi => q2 k _ (cast_get hi)⟩
 have hbos : bo ≠ bs := fun e => hob.1 (by rw [e]; rfl)
 have hbof : bo ≠ bf := fun e => hob.2 (by rw [e]; rfl)
 refine VO ?_
 (refine VX (ex_len el26 Gs0) ?_)
 refine VO ?_;refine zN ?_; (repeat refine zS ?_);have hn1 := u1.next;have k1 := k.upLt u1;have hkl := k.lt;have hkn := k.ne;refine zK (W_rounds (fun j T h2 => ∃ i, j = opn.length - i ∧ i ≤ opn.length ∧ T.get 0 = some (.one (.p bw 0)) ∧ T.get 1 = some (.one (.sl bo 0 opn.length co 1 exo)) ∧ T.get 4 = some (.one (.i .i64 (sumL ((List.zipWith (byI L) opn xs).take i)))) ∧ T.get 5 = some (.one (.sl bx 0 opn.length opn.length 1 false)) ∧ T.get 14 = some (.one (.sl bo 0 opn.length co 1 exo)) ∧ T.get 15 = some (.one (.i .i64 (opn.length : Int))) ∧ T.get 16 = some (.one (.i .i64 (i : Int))) ∧ Work h2 bw bs bf bl ol cl ex L gap room G (sets ss ((List.zipWith (pairS L) opn xs).take i)) fx ∧ Up (fun b => b < h1.next ∧ b ≠ bs) h1 h2 ∧ Ok h2) ?_ opn.length _ _ ?_);rotate_left
 ·exact ⟨0, rfl, Nat.zero_le _, gs, gs, by (simp only [go_sem, ↓reduceIte, Nat.reduceEqDiff, List.take_zero, sumL] <;> first | rfl | simp), gs, gs, gs, gs, k1, .refl _ _, o1⟩
 ·rintro j T h2 ⟨i, rfl, hi, t0, t1, t4, t5, t14, t15, t16, k2, u2, o2⟩;have hn2 := u2.next;have c2 := k2.w
  have hbent : -(70368744177664 : Int) ≤ sumL ((List.zipWith (byI L) opn xs).take i) ∧ sumL ((List.zipWith (byI L) opn xs).take i) ≤ 70368744177664 := by
   have h1 := sumL_bd (B := 1099511627776) (l := (List.zipWith (byI L) opn xs).take i) Om fun d hd => by
    obtain ⟨m, hm, x, hx, rfl⟩ := zip_mem (List.mem_of_mem_take hd);have q1 := hxb x hx;have q2 := clampAt_bd lok (hlt m hm) q1;unfold byI; omega
   have h2 : ((List.zipWith (byI L) opn xs).take i).length ≤ 64 := by simp; omega
   omega
  (repeat refine zS ?_); refine zR ?_
  (refine VX (zB (Gs2 @t15 @t16) (Gs2 @t15 @t16) zL) ?_)
  refine zN ?_; (repeat refine zS ?_);refine zC (ee) (fun hlt1 => W_skip ?_) (fun hge => W_exit ?_)
  ·have hlt1 : (i : Int) < (opn.length : Int) := by simpa using hlt1
   have hlt1 : i < opn.length := by omega
   obtain ⟨m, hm⟩ : ∃ m, opn[i]? = some m := ⟨_, List.getElem?_eq_getElem hlt1⟩;have hmL := hlt m (List.mem_of_getElem? hm);obtain ⟨xv, hxv⟩ : ∃ xv, xs[i]? = some xv := ⟨_, List.getElem?_eq_getElem Om⟩;have hxvb := hxb xv (List.mem_of_getElem? hxv);obtain ⟨y, hy⟩ : ∃ y, L[m]? = some y := ⟨_, List.getElem?_eq_getElem hmL⟩;have hyd : L.getD m default = y := by rw [List.getD_eq_getElem?_getD, hy]; rfl
   have hyo := lok.ok y (List.mem_of_getElem? hy);have hymn := hyo.mn;have hymx := hyo.mx;have r1 : h2.row bo i 1 = some [.i .i64 (m : Int)] := by rw [u2.row ⟨by omega, hbos⟩, u1.row hbo]; exact hro i m hm
   have r2 : h2.row bx i 1 = some [.i .i64 xv] := (u2.cells ⟨hbx.2, by omega⟩ hcx).at1 (nums_get hxv);have ri := k2.items m y hy;have r3 : h2.row bl (ol + m * 5 + 1) 1 = some [.i .i64 y.mn] := row_sub ri rfl;have r4 : h2.row bl (ol + m * 5 + 2) 1 = some [.i .i64 y.mx] := row_sub ri rfl;have hcl : clampAt L m xv = clampI xv y.mn y.mx := by unfold clampAt; rw [hyd]
   have hclb : 0 ≤ clampI xv y.mn y.mx ∧ clampI xv y.mn y.mx ≤ 1099511627776 := by unfold clampI; split <;> omega
   have hsl := sets_length ((List.zipWith (pairS L) opn xs).take i) ss;have hls := k.ls
   repeat refine zS ?_
   refine zK ?_
   (repeat refine zS ?_); refine zR ?_
   iterate 5 (first | (refine VX (Gd2 @t14 @t16) ?_) | (refine VX (Gd3 @r1 @t14 @t16) ?_) | (refine VX (Ga2 @t14 @t16) ?_))
   refine zN ?_; (repeat refine zS ?_);refine W_drawn dr86_5 (by kernel_rfl) o2.floor ?_;unfold dr86_5
   iterate 25 (first | (refine IL rfl zF (Gs2 @t0 @t5) (Gd4 @c2.row @r2 @r3 @r4) ?_) | (refine IX rfl (Gd2 @t0 @t5) ?_) | (refine IX rfl (Ga2 @t0 @t5) ?_))
   refine WI_call rfl rfl (doCall_fn (ee) (by simp)) Dc ((within_fn hs.s55).mono ?_);rintro r h3 ⟨rfl, rfl⟩;simp only [back_fenced, fenced_next]
   (refine IX rfl Gd0 ?_)
   refine WI_store1 rfl (ee) (ee) sz3 k2.sizes k2.may.2.1 (by rw [nums_length, hsl]; omega) OffA OffA (H.may_iff k2.may.2.1).1.1 fun h4 p4 => ?_;rw [nums_set (by rw [hsl]; omega)] at p4;have k4 := k2.putSizes p4 (by rw [List.length_set, hsl]; exact hls);have c4 := k4.w;have o4 := p4.ok o2;have e4 := p4.next;have r5 : h4.row bs m 1 = some [.i .i64 (clampI xv y.mn y.mx)] := p4.cells.at1 (nums_get (by rw [List.getElem?_set_self (by rw [hsl]; omega)]));have r6 : h4.row bx i 1 = some [.i .i64 xv] := by rw [p4.up.row (show bx ≠ bs by omega)]; exact r2
   refine WI_nil ?_; (repeat refine zS ?_);refine W_drawn dr86_6 (by kernel_rfl) o4.floor ?_;unfold dr86_6
   iterate 15 (first | (refine IX rfl (zB (Gs3 @t0 @t4 @t5) (Gs3 @t0 @t4 @t5) in_sub) ?_; (try rw [zI Om Om])) | (refine IX rfl (zB (Gs3 @t0 @t4 @t5) (Gs3 @t0 @t4 @t5) zA) ?_; (try rw [zI Om Om])) | (refine IL rfl zF (Gs3 @t0 @t4 @t5) (Gd3 @c4.row @r5 @r6) ?_) | (refine IX rfl (Gd3 @t0 @t4 @t5) ?_) | (refine IX rfl (Ga3 @t0 @t4 @t5) ?_))
   refine WI_nil ?_; (repeat refine zS ?_);refine zR ?_
   (refine VX (zB (Gs1 @t16) (Gs1 @t16) zA) ?_; (try rw [zI Om Om]))
   (refine VX (Ga1 @t16) ?_)
   refine zN ?_;have e1 : (List.zipWith (pairS L) opn xs).take (i + 1) = (List.zipWith (pairS L) opn xs).take i ++ [pairS L m xv] := zip_take hm hxv;have e2 : (List.zipWith (byI L) opn xs).take (i + 1) = (List.zipWith (byI L) opn xs).take i ++ [byI L m xv] := zip_take hm hxv
   have hk4 : Work h4 bw bs bf bl ol cl ex L gap room G (sets ss ((List.zipWith (pairS L) opn xs).take (i + 1))) fx := by
    rw [e1, sets_snoc]; unfold pairS; rw [hcl]; exact k4
   refine ⟨opn.length - (i + 1), by omega, i + 1, rfl, hlt1, gt t0, gt t1, ?_, gt t5, gt t14, gt t15, gs, hk4, u2.trans (p4.up.mono fun b hb => hb.2), o4⟩;simp only [go_sem, ↓reduceIte, Nat.reduceEqDiff];rw [e2, sumL_append];unfold byI sumL;rw [hcl]
   congr 3
   simp [sumL]
  ·have hge : ¬ (i : Int) < (opn.length : Int) := by simpa using hge
   have hi : i = opn.length := by omega
   subst hi;have e1 : (List.zipWith (pairS L) opn xs).take opn.length = List.zipWith (pairS L) opn xs := List.take_of_length_le (by simp; omega);have e2 : (List.zipWith (byI L) opn xs).take opn.length = List.zipWith (byI L) opn xs := List.take_of_length_le (by simp; omega);rw [e1] at k2;rw [e2] at t4 hbent;change Work h2 bw bs bf bl ol cl ex L gap room G (roundS L opn xs ss) fx at k2;change T.get 4 = some (V.one (S.i .i64 (bentI L opn xs))) at t4;refine ⟨fun _ => ?_, fun hne => absurd rfl hne⟩;clear t14 t15 t16
   (repeat refine zS ?_); refine zR ?_
   iterate 3 (first | (refine VX (ex_len el26 (Gs1 @t1)) ?_) | (refine VX (Ga1 @t1) ?_))
   refine zN ?_; (repeat refine zS ?_);have u02 : Up (fun b => b < h.next ∧ b ≠ bs) h h2 := (u1.mono fun b hb => hb.1).trans (u2.mono fun b hb => ⟨by omega, hb.2⟩);have hsl := sets_length (List.zipWith (pairS L) opn xs) ss;have hls := k.ls;have hlf := k.lf;generalize hB : bentI L opn xs = B at *;have hcx2 := u2.cells ⟨hbx.2, by omega⟩ hcx;refine zK (W_rounds (fun j T h3 => ∃ i, j = opn.length - i ∧ i ≤ opn.length ∧ T.get 0 = some (.one (.p bw 0)) ∧ T.get 4 = some (.one (.i .i64 B)) ∧ T.get 5 = some (.one (.sl bx 0 opn.length opn.length 1 false)) ∧ T.get 63 = some (.one (.sl bo 0 opn.length co 1 exo)) ∧ T.get 64 = some (.one (.i .i64 (opn.length : Int))) ∧ T.get 65 = some (.one (.i .i64 (i : Int))) ∧ Work h3 bw bs bf bl ol cl ex L gap room G (roundS L opn xs ss) (sets fx ((List.zipWith (pairF L B) opn xs).take i)) ∧ Up (fun b => b < h2.next ∧ b ≠ bf) h2 h3 ∧ Ok h3) ?_ opn.length _ _ ?_);rotate_left
   ·exact ⟨0, rfl, Nat.zero_le _, gt t0, gt t4, gt t5, gs, gs, gs, k2, .refl _ _, o2⟩
   clear k2 c2 o2 t0 t1 t4 t5 e1 e2 hge hi;rintro j T h3 ⟨i, rfl, hi, t0, t4, t5, t63, t64, t65, k2, u3, o2⟩;have c2 := k2.w;have hn3 := u3.next
   (repeat refine zS ?_); refine zR ?_
   (refine VX (zB (Gs2 @t64 @t65) (Gs2 @t64 @t65) zL) ?_)
   refine zN ?_; (repeat refine zS ?_);refine zC (ee) (fun hlt1 => W_skip ?_) (fun hge => W_exit ?_)
   ·have hlt1 : (i : Int) < (opn.length : Int) := by simpa using hlt1
    have hlt1 : i < opn.length := by omega
    obtain ⟨m, hm⟩ : ∃ m, opn[i]? = some m := ⟨_, List.getElem?_eq_getElem hlt1⟩;have hmL := hlt m (List.mem_of_getElem? hm);obtain ⟨xv, hxv⟩ : ∃ xv, xs[i]? = some xv := ⟨_, List.getElem?_eq_getElem Om⟩;have hxvb := hxb xv (List.mem_of_getElem? hxv);have hcb := clampAt_bd lok hmL hxvb;have r1 : h3.row bo i 1 = some [.i .i64 (m : Int)] := by rw [u3.row ⟨by omega, hbof⟩, u2.row ⟨by omega, hbos⟩, u1.row hbo]; exact hro i m hm
    have r2 : h3.row bx i 1 = some [.i .i64 xv] := (u3.cells ⟨by omega, by omega⟩ hcx2).at1 (nums_get hxv)
    have hat : (roundS L opn xs ss)[m]? = some (clampAt L m xv) := by
     refine sets_at _ ss i m _ ?_ (by rw [zip_fst hxl]; exact hnd) Om;rw [List.getElem?_zipWith, hm, hxv]; rfl
    have r3 : h3.row bs m 1 = some [.i .i64 (clampAt L m xv)] := k2.sizes.at1 (nums_get hat);have hfl := sets_length ((List.zipWith (pairF L B) opn xs).take i) fx;have eF : (List.zipWith (pairF L B) opn xs).take (i + 1) = (List.zipWith (pairF L B) opn xs).take i ++ [pairF L B m xv] := zip_take hm hxv
    repeat refine zS ?_
    refine zK ?_
    (repeat refine zS ?_); refine zR ?_
    iterate 5 (first | (refine VX (Gd2 @t63 @t65) ?_) | (refine VX (Gd3 @r1 @t63 @t65) ?_) | (refine VX (Ga2 @t63 @t65) ?_))
    refine zN ?_; (repeat refine zS ?_);refine W_drawn dr86_11 (by kernel_rfl) o2.floor ?_;unfold dr86_11
    iterate 13 (first | (refine IX rfl (zB (Gs2 @t0 @t5) (Gs2 @t0 @t5) in_sub) ?_; (try rw [zI Om Om])) | (refine IL rfl zF (Gs2 @t0 @t5) (Gd3 @c2.row @r2 @r3) ?_) | (refine IX rfl (Gd2 @t0 @t5) ?_) | (refine IX rfl (Ga2 @t0 @t5) ?_))
    refine WI_nil ?_; (repeat refine zS ?_);refine zR ?_;have hby : byI L m xv = clampAt L m xv - xv := rfl;generalize hD : clampAt L m xv - xv = D at *
    have fin : ∀ h4 (T' : Sl) (r : Bool), Put h3 h4 bf 4 (bools ((sets fx ((List.zipWith (pairF L B) opn xs).take i)).set m r)) → r = fixesI B D → T'.get 0 = some (.one (.p bw 0)) → T'.get 4 = some (.one (.i .i64 B)) → T'.get 5 = some (.one (.sl bx 0 opn.length opn.length 1 false)) → T'.get 63 = some (.one (.sl bo 0 opn.length co 1 exo)) → T'.get 64 = some (.one (.i .i64 (opn.length : Int))) → T'.get 65 = some (.one (.i .i64 ((i : Int) + 1))) →
      ∃ j, j < opn.length - i ∧ ∃ i, j = opn.length - i ∧ i ≤ opn.length ∧ T'.get 0 = some (.one (.p bw 0)) ∧ T'.get 4 = some (.one (.i .i64 B)) ∧ T'.get 5 = some (.one (.sl bx 0 opn.length opn.length 1 false)) ∧ T'.get 63 = some (.one (.sl bo 0 opn.length co 1 exo)) ∧ T'.get 64 = some (.one (.i .i64 (opn.length : Int))) ∧ T'.get 65 = some (.one (.i .i64 (i : Int))) ∧ Work h4 bw bs bf bl ol cl ex L gap room G (roundS L opn xs ss) (sets fx ((List.zipWith (pairF L B) opn xs).take i)) ∧ Up (fun b => b < h2.next ∧ b ≠ bf) h2 h4 ∧ Ok h4 := by
     intro h4 T' r p4 hr q0 q4 q5 q63 q64 q65;refine ⟨opn.length - (i + 1), by omega, i + 1, rfl, hlt1, q0, q4, q5, q63, q64, by rw [q65]; rfl, ?_, u3.trans (p4.up.mono fun b hb => hb.2), p4.ok o2⟩;have ep : pairF L B m xv = (m, r) := by unfold pairF; rw [hby, ← hr]
     rw [eF, sets_snoc, ep];exact k2.putFixed p4 (by rw [List.length_set, hfl]; exact hlf)
    rcases Int.lt_trichotomy B 0 with hb | hb | hb
    ·have f1 : decide (B = 0) = false := decide_eq_false Om;have f2 : decide (0 < B) = false := decide_eq_false Om;have f3 : decide (B < 0) = true := decide_eq_true hb
     iterate 24 (first | (refine VX (zB (Gs5 @t0 @t4 @f1 @f2 @f3) (Gs5 @t0 @t4 @f1 @f2 @f3) in_eql) ?_) | (refine VG (zT rfl rfl (Gs5 @t0 @t4 @f1 @f2 @f3) rfl) (zB (Gs5 @t0 @t4 @f1 @f2 @f3) (Gs5 @t0 @t4 @f1 @f2 @f3) in_gtr) ?_) | (refine VG (zT rfl rfl (Gs5 @t0 @t4 @f1 @f2 @f3) rfl) (zB (Gs5 @t0 @t4 @f1 @f2 @f3) (Gs5 @t0 @t4 @f1 @f2 @f3) zL) ?_) | (refine VN (zG rfl rfl (Gs5 @t0 @t4 @f1 @f2 @f3) rfl) ?_) | (refine VG (zT rfl rfl (Gs5 @t0 @t4 @f1 @f2 @f3) rfl) (Ga5 @t0 @t4 @f1 @f2 @f3) ?_) | (refine VX (Gd6 @c2.row @t0 @t4 @f1 @f2 @f3) ?_) | (refine VX (Gd5 @t0 @t4 @f1 @f2 @f3) ?_) | (refine VX (Ga5 @t0 @t4 @f1 @f2 @f3) ?_))
     refine WO_store1 (Gt3 @f1 @f2 @f3) (Gt3 @f1 @f2 @f3) sz4 k2.fixed k2.may.2.2 (by simp [bools, hfl]; omega) fun h4 p4 => ?_;rw [bools_set (by rw [hfl]; omega)] at p4;refine zN ?_; (repeat refine zS ?_);refine zR ?_
     (refine VX (zB (Gs1 @t65) (Gs1 @t65) zA) ?_; (try rw [zI Om Om]))
     (refine VX (Ga1 @t65) ?_)
     refine zN (fin h4 _ (decide (D < 0)) p4 ?_ (gt t0) (gt t4) (gt t5) (gt t63) (gt t64) (gs));unfold fixesI; rw [f1, f2, f3]; simp
    ·have f1 : decide (B = 0) = true := decide_eq_true hb
     iterate 24 (first | (refine VX (zB (Gs3 @t0 @t4 @f1) (Gs3 @t0 @t4 @f1) in_eql) ?_) | (refine VG (zT rfl rfl (Gs3 @t0 @t4 @f1) rfl) (zB (Gs3 @t0 @t4 @f1) (Gs3 @t0 @t4 @f1) in_gtr) ?_) | (refine VG (zT rfl rfl (Gs3 @t0 @t4 @f1) rfl) (zB (Gs3 @t0 @t4 @f1) (Gs3 @t0 @t4 @f1) zL) ?_) | (refine VN (zG rfl rfl (Gs3 @t0 @t4 @f1) rfl) ?_) | (refine VG (zT rfl rfl (Gs3 @t0 @t4 @f1) rfl) (Ga3 @t0 @t4 @f1) ?_) | (refine VX (Gd4 @c2.row @t0 @t4 @f1) ?_) | (refine VX (Gd3 @t0 @t4 @f1) ?_) | (refine VX (Ga3 @t0 @t4 @f1) ?_))
     refine WO_store1 (Gt1 @f1) (Gt1 @f1) sz4 k2.fixed k2.may.2.2 (by simp [bools, hfl]; omega) fun h4 p4 => ?_;rw [bools_set (by rw [hfl]; omega)] at p4;refine zN ?_; (repeat refine zS ?_);refine zR ?_
     (refine VX (zB (Gs1 @t65) (Gs1 @t65) zA) ?_; (try rw [zI Om Om]))
     (refine VX (Ga1 @t65) ?_)
     refine zN (fin h4 _ (true) p4 ?_ (gt t0) (gt t4) (gt t5) (gt t63) (gt t64) (gs));unfold fixesI; rw [f1]; rfl
    ·have f1 : decide (B = 0) = false := decide_eq_false Om;have f2 : decide (0 < B) = true := decide_eq_true hb;have f3 : decide (B < 0) = false := decide_eq_false Om
     by_cases hd : 0 < D
     ·have f4 : decide (0 < D) = true := decide_eq_true hd
      iterate 24 (first | (refine VX (zB (Gs6 @t0 @t4 @f1 @f2 @f3 @f4) (Gs6 @t0 @t4 @f1 @f2 @f3 @f4) in_eql) ?_) | (refine VG (zT rfl rfl (Gs6 @t0 @t4 @f1 @f2 @f3 @f4) rfl) (zB (Gs6 @t0 @t4 @f1 @f2 @f3 @f4) (Gs6 @t0 @t4 @f1 @f2 @f3 @f4) in_gtr) ?_) | (refine VG (zT rfl rfl (Gs6 @t0 @t4 @f1 @f2 @f3 @f4) rfl) (zB (Gs6 @t0 @t4 @f1 @f2 @f3 @f4) (Gs6 @t0 @t4 @f1 @f2 @f3 @f4) zL) ?_) | (refine VN (zG rfl rfl (Gs6 @t0 @t4 @f1 @f2 @f3 @f4) rfl) ?_) | (refine VG (zT rfl rfl (Gs6 @t0 @t4 @f1 @f2 @f3 @f4) rfl) (Ga6 @t0 @t4 @f1 @f2 @f3 @f4) ?_) | (refine VX (Gd7 @c2.row @t0 @t4 @f1 @f2 @f3 @f4) ?_) | (refine VX (Gd6 @t0 @t4 @f1 @f2 @f3 @f4) ?_) | (refine VX (Ga6 @t0 @t4 @f1 @f2 @f3 @f4) ?_))
      refine WO_store1 (Gt4 @f1 @f2 @f3 @f4) (Gt4 @f1 @f2 @f3 @f4) sz4 k2.fixed k2.may.2.2 (by simp [bools, hfl]; omega) fun h4 p4 => ?_;rw [bools_set (by rw [hfl]; omega)] at p4;refine zN ?_; (repeat refine zS ?_);refine zR ?_
      (refine VX (zB (Gs1 @t65) (Gs1 @t65) zA) ?_; (try rw [zI Om Om]))
      (refine VX (Ga1 @t65) ?_)
      refine zN (fin h4 _ (true) p4 ?_ (gt t0) (gt t4) (gt t5) (gt t63) (gt t64) (gs));unfold fixesI; rw [f1, f2, f4]; rfl
     ·have f4 : decide (0 < D) = false := decide_eq_false hd
      iterate 24 (first | (refine VX (zB (Gs6 @t0 @t4 @f1 @f2 @f3 @f4) (Gs6 @t0 @t4 @f1 @f2 @f3 @f4) in_eql) ?_) | (refine VG (zT rfl rfl (Gs6 @t0 @t4 @f1 @f2 @f3 @f4) rfl) (zB (Gs6 @t0 @t4 @f1 @f2 @f3 @f4) (Gs6 @t0 @t4 @f1 @f2 @f3 @f4) in_gtr) ?_) | (refine VG (zT rfl rfl (Gs6 @t0 @t4 @f1 @f2 @f3 @f4) rfl) (zB (Gs6 @t0 @t4 @f1 @f2 @f3 @f4) (Gs6 @t0 @t4 @f1 @f2 @f3 @f4) zL) ?_) | (refine VN (zG rfl rfl (Gs6 @t0 @t4 @f1 @f2 @f3 @f4) rfl) ?_) | (refine VG (zT rfl rfl (Gs6 @t0 @t4 @f1 @f2 @f3 @f4) rfl) (Ga6 @t0 @t4 @f1 @f2 @f3 @f4) ?_) | (refine VX (Gd7 @c2.row @t0 @t4 @f1 @f2 @f3 @f4) ?_) | (refine VX (Gd6 @t0 @t4 @f1 @f2 @f3 @f4) ?_) | (refine VX (Ga6 @t0 @t4 @f1 @f2 @f3 @f4) ?_))
      refine WO_store1 (Gt4 @f1 @f2 @f3 @f4) (Gt4 @f1 @f2 @f3 @f4) sz4 k2.fixed k2.may.2.2 (by simp [bools, hfl]; omega) fun h4 p4 => ?_;rw [bools_set (by rw [hfl]; omega)] at p4;refine zN ?_; (repeat refine zS ?_);refine zR ?_
      (refine VX (zB (Gs1 @t65) (Gs1 @t65) zA) ?_; (try rw [zI Om Om]))
      (refine VX (Ga1 @t65) ?_)
      refine zN (fin h4 _ (false) p4 ?_ (gt t0) (gt t4) (gt t5) (gt t63) (gt t64) (gs));unfold fixesI; rw [f1, f2, f3, f4]; rfl
   ·have hge : ¬ (i : Int) < (opn.length : Int) := by simpa using hge
    have hi : i = opn.length := by omega
    subst hi;have e1 : (List.zipWith (pairF L B) opn xs).take opn.length = List.zipWith (pairF L B) opn xs := List.take_of_length_le (by simp; omega);rw [e1] at k2;refine ⟨fun _ => ?_, fun hne => absurd rfl hne⟩;refine ⟨.inl rfl, V.tup [], RbA, rfl, (u02.mono fun b hb => ⟨hb.1, hb.2.1⟩).trans (u3.mono fun b hb => ⟨by omega, hb.2.2⟩), o2, ?_⟩;unfold roundF;rw [hB];exact k2
end Go.Ai
