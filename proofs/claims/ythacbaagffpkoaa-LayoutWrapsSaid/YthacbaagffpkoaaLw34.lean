/-
LayoutWraps, part 34 of 48: FxSolve FxLayM FxLayN.
-/
import Derived.Test.YthacbaagffpkoaaLw33
set_option linter.unusedVariables false
set_option linter.unusedSimpArgs false
set_option maxRecDepth 100000
set_option maxHeartbeats 0
namespace Go.Ai
open Go.Proofs
def solveLoop (prt : Int → List Int → List Int) (L : List Itm) (gap room : Int) (G : Bool) : Nat → List Int → List Bool → List Int
 | 0, ss, _ => ss
 | n + 1, ss, fx => if opens 0 fx = [] then ss else solveLoop prt L gap room G n (roundS L (opens 0 fx) (sharedI prt L gap room G ss fx (opens 0 fx)) ss) (roundF L (opens 0 fx) (sharedI prt L gap room G ss fx (opens 0 fx)) fx)
def solveI (prt : Int → List Int → List Int) (L : List Itm) (gap room : Int) : List Int := solveLoop prt L gap room (grows0 L gap room) (L.length + 1) (plains L) (L.map (Itm.fixed0 (grows0 L gap room)))
theorem opens_mem : ∀ (l : List Bool) (k i : Nat), i ∈ opens k l ↔ k ≤ i ∧ l[i - k]? = some false
 | [], k, i => by simp [opens]
 | b :: l, k, i => by
  simp only [opens];have ih := opens_mem l (k + 1) i
  by_cases hik : i = k
  ·subst hik;have : ¬ (i + 1 ≤ i) := by omega
   cases b <;> simp [ih, this]
  ·have e : k ≤ i → i - k = (i - (k + 1)) + 1 := fun h => by omega
   constructor
   ·intro h
    have h' : i ∈ opens (k + 1) l := by
     cases b with
     | true => simpa using h
     | false => rcases List.mem_cons.1 (by simpa using h) with h | h
                ·exact absurd h hik
                ·exact h
    obtain ⟨q1, q2⟩ := ih.1 h';refine ⟨by omega, ?_⟩;rw [e Om, List.getElem?_cons_succ]; exact q2
   ·rintro ⟨q1, q2⟩;rw [e q1, List.getElem?_cons_succ] at q2;have h' := ih.2 ⟨by omega, q2⟩;cases b <;> simp [h']
theorem opens_nodup : ∀ (l : List Bool) (k : Nat), (opens k l).Nodup
 | [], k => by simp [opens]
 | b :: l, k => by
  simp only [opens];have ih := opens_nodup l (k + 1)
  cases b with
  | true => simpa using ih
  | false =>
   simp only [Bool.false_eq_true, if_false, List.nodup_cons];exact ⟨fun h => by have := ((opens_mem l (k + 1) k).1 h).1; omega, ih⟩
theorem count_set {l : List Bool} {i : Nat} (h : l[i]? = some false) (r : Bool) : (l.set i r).count false + (if r then 1 else 0) = l.count false := by
 induction l generalizing i with
 | nil => simp at h
 | cons b l ih =>
  cases i with
  | zero => simp at h; subst h; cases r <;> simp
  | succ i =>
   have := ih (i := i) (by simpa using h);rw [List.set_cons_succ];cases b <;> simp [List.count_cons] <;> omega
theorem count_sets : ∀ (ps : List (Nat × Bool)) (l : List Bool), (∀ p ∈ ps, l[p.1]? = some false) → (ps.map (·.1)).Nodup → (sets l ps).count false + (ps.filter (·.2)).length = l.count false
 | [], l, _, _ => by simp [sets]
 | p :: ps, l, h, hn => by
  simp only [List.map_cons, List.nodup_cons] at hn;have h1 := count_set (h p (by simp)) p.2
  have h2 := count_sets ps (l.set p.1 p.2) (fun q hq => by
   have hne : p.1 ≠ q.1 := fun e => hn.1 (by rw [e]; exact List.mem_map.2 ⟨q, hq, rfl⟩)
   rw [List.getElem?_set_ne hne]; exact h q (by simp [hq])) hn.2
  show (sets (l.set p.1 p.2) ps).count false + _ = _;rw [List.filter_cons];cases hp : p.2 <;> simp [hp] at h1 h2 ⊢ <;> omega
theorem sumL_pos {l : List Int} (h : 0 < sumL l) : ∃ x ∈ l, 0 < x := by
 induction l with
 | nil => simp [sumL] at h
 | cons x l ih =>
  by_cases hx : 0 < x
  ·exact ⟨x, by simp, hx⟩
  ·obtain ⟨y, h1, h2⟩ := ih (by simp only [sumL] at h; omega); exact ⟨y, by simp [h1], h2⟩
theorem sumL_neg {l : List Int} (h : sumL l < 0) : ∃ x ∈ l, x < 0 := by
 induction l with
 | nil => simp [sumL] at h
 | cons x l ih =>
  by_cases hx : x < 0
  ·exact ⟨x, by simp, hx⟩
  ·obtain ⟨y, h1, h2⟩ := ih (by simp only [sumL] at h; omega); exact ⟨y, by simp [h1], h2⟩
theorem zip_fstF {L : List Itm} {B : Int} {opn : List Nat} {xs : List Int} (h : xs.length = opn.length) : (List.zipWith (pairF L B) opn xs).map (·.1) = opn := by
 induction opn generalizing xs with
 | nil => simp
 | cons i opn ih => cases xs with
  | nil => simp at h
  | cons x xs => simp only [List.zipWith_cons_cons, List.map_cons, ih (by simpa using h)]; rfl
theorem round_less {L : List Itm} {opn : List Nat} {xs : List Int} {fx : List Bool} (hx : xs.length = opn.length) (hne : opn ≠ []) (hnd : opn.Nodup) (hf : ∀ i ∈ opn, fx[i]? = some false) : (roundF L opn xs fx).count false < fx.count false := by
 have h1 := count_sets (List.zipWith (pairF L (bentI L opn xs)) opn xs) fx (fun p hp => by
  obtain ⟨i, hi, x, _, rfl⟩ := zip_mem hp
  exact hf i hi) (by rw [zip_fstF hx]; exact hnd)
 have h2 : ∃ p ∈ List.zipWith (pairF L (bentI L opn xs)) opn xs, p.2 = true := by
  have mem : ∀ {z : Int}, z ∈ List.zipWith (byI L) opn xs → fixesI (bentI L opn xs) z = true → ∃ p ∈ List.zipWith (pairF L (bentI L opn xs)) opn xs, p.2 = true := by
   intro z hz hfz;obtain ⟨k, hk⟩ := List.mem_iff_getElem?.1 hz;rw [List.getElem?_zipWith] at hk
   cases ho : opn[k]? with
   | none => rw [ho] at hk; simp at hk
   | some i =>
    cases hxk : xs[k]? with
    | none => rw [ho, hxk] at hk; simp at hk
    | some x =>
     rw [ho, hxk] at hk;simp at hk;refine ⟨pairF L (bentI L opn xs) i x, List.mem_iff_getElem?.2 ⟨k, by rw [List.getElem?_zipWith, ho, hxk]⟩, ?_⟩;show fixesI (bentI L opn xs) (byI L i x) = true;rw [hk]; exact hfz
  rcases Int.lt_trichotomy (bentI L opn xs) 0 with hb | hb | hb
  ·obtain ⟨z, hz, hz0⟩ := sumL_neg hb;exact mem hz (by unfold fixesI; simp [hb, hz0])
  ·cases opn with
   | nil => exact absurd rfl hne
   | cons i opn => cases xs with
    | nil => simp at hx
    | cons x xs => exact ⟨_, List.mem_cons_self, by show fixesI _ _ = true; rw [hb]; rfl⟩
  ·obtain ⟨z, hz, hz0⟩ := sumL_pos hb;exact mem hz (by unfold fixesI; simp [hb, hz0])
 obtain ⟨p, hp, hp2⟩ := h2;have h3 : 0 < ((List.zipWith (pairF L (bentI L opn xs)) opn xs).filter (·.2)).length := List.length_pos_iff.2 (List.ne_nil_of_mem (List.mem_filter.2 ⟨hp, hp2⟩));unfold roundF;omega
theorem roundF_false {L : List Itm} {opn : List Nat} {xs : List Int} {fx : List Bool} {i : Nat} (hf : ∀ i ∈ opn, fx[i]? = some false) (h : (roundF L opn xs fx)[i]? = some false) : fx[i]? = some false := by
 by_cases hi : i ∈ opn
 ·exact hf i hi
 ·unfold roundF at h
  rw [sets_get _ _ _ fun p hp => by
   obtain ⟨j, hj, x, _, rfl⟩ := zip_mem hp
   exact fun e => hi (by rw [← e]; exact hj)] at h
  exact h
theorem sets_mem {α : Type} : ∀ (l : List (Nat × α)) (s : List α) (x : α), x ∈ sets s l → x ∈ s ∨ ∃ p ∈ l, p.2 = x
 | [], s, x, h => .inl h
 | p :: l, s, x, h => by
  rcases sets_mem l _ x h with h | ⟨q, h1, h2⟩
  ·rcases List.mem_or_eq_of_mem_set h with h | h
   ·exact .inl h
   ·exact .inr ⟨p, by simp, h.symm⟩
  ·exact .inr ⟨q, by simp [h1], h2⟩
theorem Grown.len {h : H} {v : S} {n0 : Nat} {l : List S} (k : Grown h v n0 3 1 l) {T : Sl} {x : Operand} (hx : ev T x = some (.one v)) {d : Option Tmp} {ty : TypeId} {ps : String} {af : Array Edge} {g : Option (Nat × Bool)} : execO Try.prog T h ⟨d, .call ⟨.builtin .len, #[x], #[26]⟩, ty, ps, af, g⟩ = some (.val (.one (.i .i64 (l.length : Int))) h) := by
 rcases k with ⟨rfl, rfl⟩ | ⟨q, n, rfl, h1, h2, _⟩
 ·exact ex_len0 el26 hx
 ·have : l.length = n := by omega
  rw [this]; exact ex_len el26 hx
theorem bd72 {T : Sl} {h : H} {x y z : Operand} {a b c : S} (hx : ev T x = some (.one a)) (hy : ev T y = some (.one b)) (hz : ev T z = some (.one c)) {d : Option Tmp} {ty : TypeId} {ps : String} {af : Array Edge} {g : Option (Nat × Bool)} :
  execO Try.prog T h ⟨d, .build 130 #[(0, x), (1, y), (2, z)], ty, ps, af, g⟩ = some (.val (.agg [a, b, c, .b false, .sl0, .sl0]) h) := by
 rw [ex_build];unfold doBuild;have hp : evParts T [(0, x), (1, y), (2, z)] = some [(0, .one a), (1, .one b), (2, .one c)] := by simp only [evParts, hx, hy, hz]
 have hu := Try.underlying130
 have hpl : ∀ fs, Try.prog.underlying 130 = some (.struct fs) → placesB Try.prog fs.toList = some [(0, 1), (1, 1), (2, 1), (3, 1), (4, 1), (5, 1)] := by
  intro fs h;rw [hu] at h;cases h
  kernel_rfl
 rw [zb130]
 cases hfs : Try.prog.underlying 130 with
 | none => rw [hu] at hfs; cases hfs
 | some td =>
  have htd : ∃ fs, td = .struct fs := by rw [hu] at hfs; cases hfs; exact ⟨_, rfl⟩
  obtain ⟨fs, rfl⟩ := htd;have hpl := hpl fs hfs;simp only [hp, hpl];rfl
theorem solve_fn {spec : CallF} (hs : SpecFlex spec) {prt : Int → List Int → List Int} (hP : PartsOk spec prt) {h : H} {v : S} {L : List Itm} {gap room : Int} (ok : Ok h) (lok : LineOk L gap room) (hi : ItemsAt h v L) :
  WF Try.prog spec 74 [.one v, .one (.i .i64 gap), .one (.i .i64 room)] h fun r h1 => ∃ x, r = .one x ∧ Grown h1 x h.next 3 1 (nums (solveI prt L gap room)) ∧ Up (· < h.next) h h1 ∧ Ok h1 := by
 refine WF_of Try.func74 rfl (hs.s42 _ _) (by rw [Try.ntmps74]; simp) (by rw [Try.ntmps74]; decide) ?_;rw [Try.ntmps74, Try.results74];simp only [Sl.setMany_cons, Sl.setMany_nil, Nat.zero_add, Nat.reduceAdd]
 (repeat refine zS ?_); refine zR ?_
 refine VO ?_;refine zN ?_; (repeat refine zS ?_);refine W_scoped ?_
 repeat refine zS ?_
 (repeat refine zS ?_); refine zR ?_
 refine VO ?_;refine zN ?_; (repeat refine zS ?_);refine zR ?_
 iterate 3 (refine VO ?_)
 refine zV (bd72 (ee) (ee) (ee)) Dc ?_;refine WO_boxA (ee) ok Dc fun h1 n1 => ?_;have e1 := n1.next;refine VO ?_;refine zN ?_; (repeat refine zS ?_);refine zR ?_;refine VO ?_;have hlt := fun b (hb : S.blk v = some b) => hi.lt hb
 refine WO_fn (ee) (by simp) Dc ((begin_fn hs n1.ok lok (hi.upLt n1.up) (fun e => by have := hlt _ e; omega) Om n1.may n1.cells).mono ?_);rintro r h2 ⟨rfl, u2, o2, x, bf, c2, g2, f2, hbf1, hbf2, hxf⟩;have hn2 := u2.next;have u02 : Up (· < h.next) h h2 := n1.up.trans (u2.mono fun b hb => by omega);generalize hG : grows0 L gap room = G at *;have hfl : (L.map (Itm.fixed0 G)).length = L.length := by simp
 have mw2 : h2.may h.next = true := by rw [u2.may]; exact n1.may
 have mf2 : h2.may bf = true := n1.ok.mayNew u2 hbf1;have hlen64 := lok.len
 have hwork : L ≠ [] → ∃ bl ol cl ex bs, v = .sl bl ol L.length cl 5 ex ∧ x = .sl bs 0 L.length L.length 1 false ∧ h1.next ≤ bs ∧ bs < h2.next ∧ bl < h.next ∧ bs ≠ bf ∧ Work h2 h.next bs bf bl ol cl ex L gap room G (plains L) (L.map (Itm.fixed0 G)) := by
  intro hL;have hpos : 0 < L.length := List.length_pos_iff.2 hL;rcases hi with ⟨q, _⟩ | ⟨bl, ol, cl, ex, rfl, q1, q2⟩
  ·exact absurd q hL
  ·obtain ⟨bs, rfl, hcs, hbs, hms⟩ : ∃ bs, x = .sl bs 0 L.length L.length 1 false ∧ Cells h2 bs 3 (nums (plains L)) ∧ (h1.next ≤ bs ∧ bs < h2.next) ∧ h2.may bs = true := by
    rcases g2 with ⟨q, _⟩ | ⟨q, n, rfl, q1, q2, q3, q4, q5, q6⟩
    ·have := congrArg List.length q; rw [nums_length, List.length_nil] at this; unfold plains at this; rw [List.length_map] at this; omega
    ·have : n = L.length := by rw [nums_length] at q2; simp [plains] at q2; omega
     subst this; exact ⟨q, rfl, q3, ⟨q5, q6⟩, q4⟩
   have hne : bs ≠ bf := fun e => hxf (by rw [← e]; rfl)
   exact ⟨bl, ol, cl, ex, bs, rfl, rfl, hbs.1, hbs.2, q1, hne, c2, fun i y hy => by rw [u02.row q1]; exact q2 i y hy, hcs, f2, by simp [plains], hfl, ⟨by omega, hbs.2, hbf2, by omega⟩, ⟨by omega, by omega, Ne.symm hne, by omega, by omega, by omega⟩, ⟨mw2, hms, mf2⟩⟩
 have hR : solveLoop prt L gap room G (L.length + 1) (plains L) (L.map (Itm.fixed0 G)) = solveI prt L gap room := by unfold solveI; rw [hG]
 have hcnt : (L.map (Itm.fixed0 G)).count false ≤ L.length := by have := List.count_le_length (a := false) (l := L.map (Itm.fixed0 G)); simpa using this
 skip
 refine zN ?_; (repeat refine zS ?_);refine W_label ?_;refine W_here (fun j T h3 => ∃ ss fx n, j = fx.count false ∧ T.get 8 = some (.one (.p h.next 0)) ∧ Cells h3 h.next 130 [v, .i .i64 gap, .i .i64 room, .b G, x, .sl bf 0 L.length L.length 1 true] ∧ Cells h3 bf 4 (bools fx) ∧ fx.length = L.length ∧ Grown h3 x h1.next 3 1 (nums ss) ∧ (L ≠ [] → ∃ bl ol cl ex bs, v = .sl bl ol L.length cl 5 ex ∧ x = .sl bs 0 L.length L.length 1 false ∧ h1.next ≤ bs ∧ bs < h2.next ∧ bl < h.next ∧ bs ≠ bf ∧ Work h3 h.next bs bf bl ol cl ex L gap room G ss fx) ∧ (∀ s ∈ ss, 0 ≤ s ∧ s ≤ 1099511627776) ∧ (∀ i, fx[i]? = some false → (L.getD i default).weight G ≠ 0) ∧ fx.count false < n ∧ solveLoop prt L gap room G n ss fx = solveI prt L gap room ∧ Up (· < h.next) h h3 ∧ Ok h3 ∧ h2.next ≤ h3.next) ?_ _ _ _ ⟨plains L, L.map (Itm.fixed0 G), L.length + 1, rfl, gs, c2, f2, hfl, g2, hwork, ?_, ?_, by omega, hR, u02, o2, Nat.le_refl _⟩;rotate_left
 ·intro s hs';obtain ⟨y, hy, rfl⟩ := List.mem_map.1 hs';exact (lok.ok y hy).plain
 ·intro i hi';rw [List.getElem?_map] at hi'
  cases hy : L[i]? with
  | none => rw [hy] at hi'; simp at hi'
  | some y =>
   rw [hy] at hi';have hy' : L.getD i default = y := by rw [List.getD_eq_getElem?_getD, hy]; rfl
   rw [hy'];intro h0;simp [Itm.fixed0, h0] at hi'
 clear c2 f2 g2 hwork hR hcnt u02 o2 u2 mw2 mf2;rintro j T h3 ih ⟨ss, fx, n, rfl, t8, c3, f3, hfl3, g3, hwork, sok, hw, hn, hR, u3, o3, hn3⟩;have hopl := opens_length 0 fx
 (repeat refine zS ?_); refine zR ?_
 (refine VX (Ga1 @t8) ?_)
 refine WO_fn (Gt1 @t8) (by simp) Dc ((open_ok hs.s52 (fx := fx) o3 (by rw [hfl3]; exact c3) Om f3 Om Om).mono ?_);rintro r h4 ⟨xo, rfl, go, u4, o4⟩;refine VO ?_;refine zN ?_; (repeat refine zS ?_);refine zR ?_;refine VO ?_;refine zV (go.len (ee)) Dc ?_
 (refine VX (zB ee ee in_gtr) ?_)
 refine zN ?_; (repeat refine zS ?_);have hil : (idx (opens 0 fx)).length = (opens 0 fx).length := by simp [idx]
 have hn4 := u4.next;refine zC (ee) (fun hlt1 => ?_) (fun hge => W_skip ?_)
 ·have hpos : 0 < (opens 0 fx).length := by
   have : (0 : Int) < ((idx (opens 0 fx)).length : Int) := by simpa using hlt1
   omega
  have hne : opens 0 fx ≠ [] := List.ne_nil_of_length_pos hpos;have hL : L ≠ [] := fun e => by rw [e, List.length_nil] at hfl3; omega
  obtain ⟨bl, ol, cl, ex, bs, rfl, rfl, hb1, hb2, hb3, hb4, k3⟩ := hwork hL;have hof : ∀ i ∈ opens 0 fx, fx[i]? = some false := fun i hi' => by have := ((opens_mem fx 0 i).1 hi').2; simpa using this
  have holt : ∀ i ∈ opens 0 fx, i < L.length := fun i hi' => by have := (gEi.1 (hof i hi')).1; omega
  have k4 := k3.upLt u4
  (repeat refine zS ?_); refine zR ?_
  iterate 2 (refine VX (Ga1 @t8) ?_)
  refine WO_fn (Gt1 @t8) (by simp) Dc ((round_fn hs hP o4 lok k4 sok (opn := opens 0 fx) (by have := go.same (idx_cast _); exact this.ints) ⟨fun e => by have := (go.lt e).1; omega, fun e => by have := (go.lt e).1; omega⟩ hne holt Om (opens_nodup fx 0) (fun i hi' => hw i (hof i hi'))).mono ?_);rintro r h5 ⟨rfl, u5, o5, k5⟩;have hn5 := u5.next;have hxl : (sharedI prt L gap room G ss fx (opens 0 fx)).length = (opens 0 fx).length := by unfold sharedI; rw [List.length_zipWith, hP.len]; simp [wtsI]
  have hless := round_less (L := L) hxl hne (opens_nodup fx 0) hof;obtain ⟨n, rfl⟩ : ∃ m, n = m + 1 := ⟨n - 1, by omega⟩
  skip
  refine zN ?_; (repeat refine zS ?_);refine W_goto ?_; (repeat first | refine thenQ_goto ?_ | refine blockQ_goto ?_); refine scope_jump (by rfl) ?_; (repeat refine zS ?_);refine W_skip ?_;refine ih _ hless _ _ ⟨_, _, n, rfl, gt t8, k5.w, k5.fixed, k5.lf, .inr ⟨bs, L.length, rfl, List.length_pos_iff.2 hL, by rw [nums_length, k5.ls, Nat.mul_one], k5.sizes, k5.may.2.1, hb1, k5.lt.2.1⟩, fun _ => ⟨bl, ol, cl, ex, bs, rfl, rfl, hb1, hb2, hb3, hb4, k5⟩, ?_, fun i hi' => hw i (roundF_false hof hi'), by omega, ?_, u3.trans ((u4.mono fun b hb => by omega).trans (u5.mono fun b hb => by omega)), o5, by omega⟩
  ·intro s hs';rcases sets_mem _ _ _ hs' with q | ⟨p, hp, rfl⟩
   ·exact sok s q
   ·obtain ⟨i, hi', y, hy, rfl⟩ := zip_mem hp;refine clampAt_bd lok (holt i hi') ?_;obtain ⟨i2, hi2, p2, hp2, rfl⟩ := zip_mem hy;have hfr := free_bd L gap room G ss fx
    have hpb := hP.bd _ _ Om Om (by simpa [wtsI] using hne) (fun w hw' => by
     obtain ⟨m, hm, rfl⟩ := List.mem_map.1 hw';have h0 := hw m (hof m hm);have hmo := lok.at (holt m hm);have hb := hmo.mul;have hg := hmo.gr
     revert h0
     unfold Itm.weight
     split <;> intro h0 <;> omega) p2 hp2
    have hb := (lok.at (holt i2 hi2)).base;unfold newI; split <;> omega
  ·rw [← hR];show _ = (if opens 0 fx = [] then ss else _);rw [if_neg hne]
 ·have hz : opens 0 fx = [] := by
   have : ¬ (0 : Int) < ((idx (opens 0 fx)).length : Int) := by simpa using hge
   exact List.eq_nil_of_length_eq_zero Om
  have hss : solveI prt L gap room = ss := by
   rw [← hR];obtain ⟨n, rfl⟩ : ∃ m, n = m + 1 := ⟨n - 1, by omega⟩;show (if opens 0 fx = [] then ss else _) = ss;rw [if_pos hz]
  have c4 := u4.cells (show h.next < h3.next by omega) c3
  repeat refine zS ?_
  (repeat refine zS ?_); refine zR ?_
  iterate 5 (first | (refine VX (Gd2 @c4.row @t8) ?_) | (refine VX (Ga1 @t8) ?_))
  refine zN (W_ret ⟨.inr rfl, _, RbA, x, rfl, ?_, u3.trans (u4.mono fun b hb => by omega), o4⟩);rw [hss];have g4 := g3.up u4 fun q hq => (g3.lt hq).2
  rcases g4 with q | ⟨q, n, rfl, q1, q2, q3, q4, q5, q6⟩
  ·exact .inl q
  ·exact .inr ⟨q, n, rfl, q1, q2, q3, q4, by omega, q6⟩
end Go.Ai
namespace Go.Ai
open Go.Proofs
theorem loop_length {prt : Int → List Int → List Int} {L : List Itm} {gap room : Int} {G : Bool} : ∀ (n : Nat) (ss : List Int) (fx : List Bool), (solveLoop prt L gap room G n ss fx).length = ss.length
 | 0, ss, fx => rfl
 | n + 1, ss, fx => by
  unfold solveLoop;split
  ·rfl
  ·rw [loop_length n]; exact sets_length _ _
theorem solve_length {prt : Int → List Int → List Int} {L : List Itm} {gap room : Int} : (solveI prt L gap room).length = L.length := by
 unfold solveI;rw [loop_length]; simp [plains]
def NN (x : Int) : Prop := 0 ≤ x ∧ x ≤ 1099511627776
theorem NN.co {x : Int} (h : NN x) : CO x := co_nn h
theorem clampAt_nn {L : List Itm} (k : ∀ x ∈ L, x.ok) {i : Nat} {z : Int} (hi : i < L.length) (hz : z ≤ 1099511627776) : NN (clampAt L i z) := by
 have ho : (L.getD i default).ok := by rw [List.getD_eq_getElem?_getD, List.getElem?_eq_getElem hi]; exact k _ (List.getElem_mem hi)
 have h1 := ho.mn;have h2 := ho.mx;unfold NN clampAt clampI; split <;> omega
theorem loop_nn {L : List Itm} {gap room : Int} {G : Bool} (k : ∀ x ∈ L, x.ok) : ∀ (n : Nat) (ss : List Int) (fx : List Bool), fx.length = L.length → (∀ s ∈ ss, NN s) → ∀ s ∈ solveLoop prtI L gap room G n ss fx, NN s
 | 0, ss, fx, _, h => h
 | n + 1, ss, fx, hl, h => by
  unfold solveLoop;split
  ·exact h
  ·have holt : ∀ i ∈ opens 0 fx, i < L.length := fun i hi => by
    have := ((opens_mem fx 0 i).1 hi).2;have := (gEi.1 this).1;omega
   refine loop_nn k n _ _ ?_ fun s hs => ?_
   ·unfold roundF; rw [sets_length]; exact hl
   ·rcases sets_mem _ _ _ hs with q | ⟨p, hp, rfl⟩
    ·exact h s q
    ·obtain ⟨i, hi, y, hy, rfl⟩ := zip_mem hp;refine clampAt_nn k (holt i hi) ?_;obtain ⟨i2, hi2, p2, hp2, rfl⟩ := zip_mem hy;have hp0 := prtI_nn p2 hp2;have ho : (L.getD i2 default).ok := by rw [List.getD_eq_getElem?_getD, List.getElem?_eq_getElem (holt i2 hi2)]; exact k _ (List.getElem_mem (holt i2 hi2))
     have hb := ho.base;unfold newI; split <;> omega
theorem solve_nn {L : List Itm} {gap room : Int} (k : ∀ x ∈ L, x.ok) : ∀ s ∈ solveI prtI L gap room, NN s := by
 refine loop_nn k _ _ _ (by simp) fun s hs => ?_;obtain ⟨y, hy, rfl⟩ := List.mem_map.1 hs;exact (k y hy).plain
theorem plains_nn {L : List Itm} (k : ∀ x ∈ L, x.ok) : ∀ s ∈ plains L, NN s := fun s hs => by
 obtain ⟨y, hy, rfl⟩ := List.mem_map.1 hs;exact (k y hy).plain
noncomputable section
structure Kid where
 vals : List Int
 lay : Int → Int → Int → GeoT
def kv (K : List Kid) (i : Nat) : List Int := ((K[i]?).map Kid.vals).getD []
def outH (k : Kid) (g : GeoT) : Int := outI (vAt k.vals 12) g.h
def blockHs (inner : Int) (K : List Kid) : List Int := K.map fun k => outH k (k.lay inner (-1) (-1))
def cornered (c : Nat → Int × Int) (G : List GeoT) : List GeoT := G.mapIdx fun i g => g.corner (c i)
def blockAt (fv : List Int) (inner : Int) (K : List Kid) : List Int := rowI [vAt fv 14] 0 (blockHs inner K)
def blockI (fv : List Int) (inner : Int) (K : List Kid) : List GeoT × Int :=
 (cornered (fun i => (putI fv (kv K i) 0, putI fv (kv K i) ((blockAt fv inner K).getD i 0))) (K.map fun k => k.lay inner (-1) (-1)), endI (blockAt fv inner K) (blockHs inner K))
def downI (inner : Int) (K : List Kid) : List Itm := K.map fun k => itemI k.vals (if vAt k.vals 11 = -1 then (k.lay inner (-1) (-1)).h else vAt k.vals 11) (vAt k.vals 7) (vAt k.vals 8)
def colSizes (fv : List Int) (f : Frm) (K : List Kid) : List Int := if f.h ≠ -1 then solveI prtI (downI f.inner K) (vAt fv 14) f.tall else plains (downI f.inner K)
def colAt (fv : List Int) (f : Frm) (K : List Kid) : List Int := if f.h ≠ -1 then spreadL (colSizes fv f K) (vAt fv 14) f.tall (vAt fv 15) else rowI [vAt fv 14] 0 (colSizes fv f K)
def colG (f : Frm) (K : List Kid) (sizes : List Int) : List GeoT := List.zipWith (fun k s => k.lay f.inner (-1) (withinI s (vAt k.vals 12))) K sizes
def columnI (fv : List Int) (f : Frm) (K : List Kid) : List GeoT × Int :=
 ((colG f K (colSizes fv f K)).mapIdx fun i g => g.corner (putI fv (kv K i) (acrossI (outI (vAt (kv K i) 12) g.w) f.inner (vAt fv 16)).1, putI fv (kv K i) ((colAt fv f K).getD i 0)), endI (colAt fv f K) (colSizes fv f K))
structure Ln where
 fr : Nat
 n : Nat
 x : List Int
 y : List Int
 cross : Int
 gs : List GeoT
def lnHs (f : Frm) (K : List Kid) (sizes : List Int) : List Int := List.zipWith (fun k s => outH k (k.lay f.inner (withinI s (vAt k.vals 12)) (-1))) K sizes
def lnCross (fv : List Int) (f : Frm) (hs : List Int) : Int := if vAt fv 2 = 0 ∧ f.h ≠ -1 then f.tall else hs.foldl max 0
def lnY (fv : List Int) (hs : List Int) (cross : Int) : List Int := hs.map fun x => (acrossI x cross (vAt fv 16)).1
def lnG (fv : List Int) (f : Frm) (K : List Kid) (sizes : List Int) (cross : Int) : List GeoT :=
 List.zipWith (fun k s => if stretchI fv k.vals cross ≠ -1 then k.lay f.inner (withinI s (vAt k.vals 12)) (stretchI fv k.vals cross) else k.lay f.inner (withinI s (vAt k.vals 12)) (-1)) K sizes
def lnI (fv : List Int) (f : Frm) (K : List Kid) (L : List Itm) (fr n : Nat) : Ln :=
 let s := solveI prtI L (vAt fv 14) f.inner
 let c := lnCross fv f (lnHs f K s)
 ⟨fr, n, spreadL s (vAt fv 14) f.inner (vAt fv 15), lnY fv (lnHs f K s) c, c, lnG fv f K s c⟩
def lnsI (fv : List Int) (f : Frm) (K : List Kid) (L : List Itm) : Nat → List Int → List Ln
 | _, [] => []
 | fr, n :: ns => lnI fv f ((K.drop fr).take n.toNat) ((L.drop fr).take n.toNat) fr n.toNat :: lnsI fv f K L (fr + n.toNat) ns
def rowLns (fv : List Int) (f : Frm) (K : List Kid) : List Ln := lnsI fv f K (K.map fun k => acrossItm k.vals) 0 (lineI fv f.inner (K.map fun k => acrossItm k.vals))
def rowAt (fv : List Int) (l : List Ln) : List Int := rowI [vAt fv 14] 0 (l.map Ln.cross)
def rowX (l : List Ln) : List Int := l.flatMap Ln.x
def rowY (l : List Ln) (at_ : List Int) : List Int := (List.zipWith (fun (l : Ln) a => l.y.map fun y => plusI a [y]) l at_).flatten
def rowK (fv : List Int) (f : Frm) (K : List Kid) : List GeoT × Int :=
 let l := rowLns fv f K
 (cornered (fun i => (putI fv (kv K i) ((rowX l).getD i 0), putI fv (kv K i) ((rowY l (rowAt fv l)).getD i 0))) (l.flatMap Ln.gs), endI (rowAt fv l) (l.map Ln.cross))
def kidsI (fv : List Int) (f : Frm) (K : List Kid) : List GeoT × Int :=
 if vAt fv 0 ≠ 1 ∨ 64 < K.length then blockI fv f.inner K else if vAt fv 1 = 0 then rowK fv f K else columnI fv f K
def layW (t r : Int) (vals : List Int) (K : List Kid) (a w h : Int) : GeoT :=
 .mk t r 0 0 (beginI vals a w h).w (if (beginI vals a w h).h = -1 then highI vals (plI (kidsI vals (beginI vals a w h) K).2 (twI (vAt vals 13))) else (beginI vals a w h).h) (kidsI vals (beginI vals a w h) K).1
mutual
def kidOf : BoxT → Kid
 | .mk t r vals kids => ⟨vals, layW t r vals (kidsOf kids)⟩
def kidsOf : List BoxT → List Kid
 | [] => []
 | k :: l => kidOf k :: kidsOf l
end
end
theorem kidsOf_map : ∀ l : List BoxT, kidsOf l = l.map kidOf
 | [] => rfl
 | k :: l => by show kidOf k :: kidsOf l = _; rw [kidsOf_map l]; rfl
theorem kidOf_vals (B : BoxT) : (kidOf B).vals = B.vals := by cases B; rfl
noncomputable def layI (B : BoxT) : Int → Int → Int → GeoT := (kidOf B).lay
theorem layI_eq (B : BoxT) (a w h : Int) : layI B a w h = layW B.t B.r B.vals (B.kids.map kidOf) a w h := by
 cases B; show layW _ _ _ (kidsOf _) _ _ _ = _; rw [kidsOf_map]; rfl
theorem layI_w {B : BoxT} (k : VOk B.vals) {a w h : Int} (q : QOk a w h) : NN (layI B a w h).w := by rw [layI_eq]; exact begW_nn k q
theorem layI_h {B : BoxT} (k : VOk B.vals) {a w h : Int} (q : QOk a w h) : NN (layI B a w h).h := by
 rw [layI_eq];show NN (if _ then _ else _);split
 ·exact highI_nn k (plI_in _ _).2
 ·rename_i hc;have := begH_nn k q;have e : (beginI B.vals a w h).h = begH B.vals h := rfl;unfold NN; rw [e] at hc ⊢; omega
theorem row_mono {h h1 : H} {b o n : Nat} {xs : List S} (e : ∀ x, h.get b = some x → h1.get b = some x) (k : h.row b o n = some xs) : h1.row b o n = some xs := by
 unfold H.row at k ⊢
 cases hg : h.get b with
 | none => rw [hg] at k; cases k
 | some x => rw [hg] at k; rw [e x hg]; exact k
theorem Vals.mono {h h1 : H} {n0 b o : Nat} {vals : List Int} (k : Vals h n0 b o vals) (e : ∀ q x, q < n0 → h.get q = some x → h1.get q = some x) : Vals h1 n0 b o vals := by
 obtain ⟨vb, vo, c, ex, w1, w2, w3⟩ := k.at_;exact ⟨k.lt, vb, vo, c, ex, row_mono (fun x => e _ x k.lt) w1, w2, fun i x hx => row_mono (fun x => e _ x w2) (w3 i x hx)⟩
theorem BoxOwn.mono {h h1 : H} {n0 b o : Nat} {t r : Int} {vals : List Int} (k : BoxOwn h n0 t r vals b o) (e : ∀ q x, q < n0 → h.get q = some x → h1.get q = some x) : BoxOwn h1 n0 t r vals b o :=
 ⟨k.val.mono e, k.vok, row_mono (fun x => e _ x k.val.lt) k.id, k.pk.mono fun x hx => e _ x k.val.lt hx⟩
theorem BoxAt.mono {h h1 : H} {n0 b o : Nat} {B : BoxT} (k : BoxAt h n0 B b o) (e : ∀ q x, q < n0 → h.get q = some x → h1.get q = some x) : BoxAt h1 n0 B b o := by
 induction k with
 | leaf h1 h2 h3 => exact .leaf (h1.mono e) (row_mono (fun x => e _ x h1.val.lt) h2) h3
 | node h1 h2 h3 h4 h5 ih => exact .node (h1.mono e) (row_mono (fun x => e _ x h1.val.lt) h2) h3 h4 ih
theorem GeosAt.mono {h h1 : H} {A A1 : Nat → Prop} {l : List GeoT} {v : S} (k : GeosAt h A l v) (hn : h.next ≤ h1.next) (e : ∀ q x, A q → q < h.next → h.get q = some x → h1.get q = some x) (hA : ∀ q, A q → q < h.next → A1 q) : GeosAt h1 A1 l v := by
 induction k with
 | nil => exact .nil
 | node ks h1 h2 h3 h4 h5 ih => exact .node ks h1 (hA _ h2 h3) Om (fun i g hg => row_mono (fun x => e _ x h2 h3) (h4 i g hg)) ih
def Al (wb : Nat) (X : Nat → Prop) (q : Nat) : Prop := wb < q ∧ ¬ X q
structure MapOk (h : H) (n0 wb mb : Nat) (X : Nat → Prop) : Prop where
 lt : n0 ≤ mb ∧ mb < wb ∧ wb < h.next
 w : h.row wb 0 1 = some [.m mb]
 may : h.may mb = true
 es : ∃ es, h.get mb = some (.map es) ∧ ∀ e ∈ es, ∃ B b o a w hh ks, e = (.agg [.p b o, .i .i64 a, .i .i64 w, .i .i64 hh], .agg ((layI B a w hh).cells ks)) ∧ BoxAt h n0 B b o ∧ GeosAt h (Al wb X) (layI B a w hh).kids ks
theorem MapOk.mono {h h1 : H} {n0 wb mb : Nat} {X X1 : Nat → Prop} (k : MapOk h n0 wb mb X) (hn : h.next ≤ h1.next) (e : ∀ q x, q ≤ wb ∨ ¬ X q → q < h.next → h.get q = some x → h1.get q = some x) (hX : ∀ q, wb < q → q < h.next → X1 q → X q) (hm : h1.may mb = true) : MapOk h1 n0 wb mb X1 := by
 obtain ⟨es, e1, e2⟩ := k.es;have l := k.lt;refine ⟨⟨l.1, l.2.1, by omega⟩, row_mono (fun x => e _ x (.inl (Nat.le_refl _)) l.2.2) k.w, hm, es, e _ _ (.inl Om) Om e1, fun x hx => ?_⟩;obtain ⟨B, b, o, a, w, hh, ks, e3, e4, e5⟩ := e2 x hx;exact ⟨B, b, o, a, w, hh, ks, e3, e4.mono fun q x hq => e q x (.inl Om) Om, e5.mono hn (fun q x h1 hq => e q x (.inr h1.2) hq) fun q h1 h2 => ⟨h1.1, fun h3 => h1.2 (hX q h1.1 h2 h3)⟩⟩
theorem MapOk.up {h h1 : H} {n0 wb mb : Nat} {X : Nat → Prop} (k : MapOk h n0 wb mb X) (u : Up (· < h.next) h h1) : MapOk h1 n0 wb mb X :=
 k.mono u.next (fun q x _ hq hx => by rw [u.get hq]; exact hx) (fun _ _ _ h => h) (by rw [u.may]; exact k.may)
theorem back_get {h h1 : H} {p : Nat → Prop} {l z : List (Nat × Nat)} {f : Nat} (u : Up p (h.fenced l z f) h1) {q : Nat} {x : O} (hx : h1.get q = some x) : (h.back h1).get q = some x := by
 obtain ⟨e1, e2⟩ := H.get_some hx;rw [u.hid] at e1;refine H.get_of (h := h.back h1) ?_ e2;rw [show (h.fenced l z f).hid = l ++ h.hid from rfl, hidden_append, Bool.or_eq_false_iff] at e1;exact e1.2
end Go.Ai
namespace Go.Ai
open Go.Proofs
def LayFn (spec : CallF) (B : BoxT) : Prop := ∀ (h : H) (n0 wb mb b o : Nat) (X : Nat → Prop) (a w hh : Int), Ok h → MapOk h n0 wb mb X → (∀ q, X q → q < h.next) → BoxAt h n0 B b o → QOk a w hh →
 WF Try.prog spec 37 [.one (.p wb 0), .agg [.p b o, .i .i64 a, .i .i64 w, .i .i64 hh]] h fun r h1 => ∃ ks, r = .agg ((layI B a w hh).cells ks) ∧ GeosAt h1 (Al wb X) (layI B a w hh).kids ks ∧ Up (fun q => q < h.next ∧ q ≠ mb) h h1 ∧ MapOk h1 n0 wb mb X ∧ Ok h1
section
variable {spec : CallF} {nt : Nat} {T : Sl} {h : H} {K : Sl → H → Prop} {ops : Array Oper} {rg ld : List (Nat × Nat × Nat)} {ix : List (Nat × Nat × Bool)} {i m : Nat} {bar : Bool} {ty : TypeId} {ps : String} {af : Array Edge} {d : Tmp} {f : FuncId} {args : List V} {xs : Array Operand} {ts : Array TypeId}
theorem fenced_mono {h0 : H} {l z : List (Nat × Nat)} {fl : Nat} (u : Up (· < h0.next) h0 h) (off : ∀ q, q < h0.next → Off l q) (q : Nat) (x : O) (hq : q < h0.next) (hx : h0.get q = some x) : (h.fenced l z fl).get q = some x := by
 rw [fenced_get (off q hq), u.get hq]; exact hx
theorem CLay {h0 : H} {n0 wb mb b o : Nat} {X : Nat → Prop} {a w hh : Int} {B : BoxT} (ho : ops.toList[i]? = some ⟨some d, .call ⟨.value (.func 37), xs, ts⟩, ty, ps, af, none⟩) (ha : evs T xs.toList = some [.one (.p wb 0), .agg [.p b o, .i .i64 a, .i .i64 w, .i .i64 hh]]) (ok : Ok h)
  (okF : Ok (h.fenced (unseen m rg) (cond bar (unseen m ld) []) (cond bar h.floor h.next))) (k0 : MapOk h0 n0 wb mb X) (hX : ∀ q, X q → q < h.next) (u : Up (· < h0.next) h0 h) (off : ∀ q, q < h0.next → Off (unseen m rg) q) (offz : Off (cond bar (unseen m ld) []) mb) (fl : cond bar h.floor h.next ≤ mb) (bx : BoxAt h0 n0 B b o) (qk : QOk a w hh) (hL : LayFn spec B)
  (hk : ∀ ks h3, GeosAt h3 (Al wb X) (layI B a w hh).kids ks → Up (fun q => q < h.next ∧ q ≠ mb) h h3 → MapOk h3 n0 wb mb X → Ok h3 → h.next ≤ h3.next → WI Try.prog spec nt ops ix (T.set d (.agg ((layI B a w hh).cells ks))) h3 ((i, h.next, h3.next) :: rg) ld K) (hd : d < nt := by decide) : WI Try.prog spec nt ops ((i, m, bar) :: ix) T h rg ld K := by
 have hmb := k0.lt;have un := u.next
 have kF : MapOk (h.fenced (unseen m rg) (cond bar (unseen m ld) []) (cond bar h.floor h.next)) n0 wb mb X :=
  k0.mono un (fun q x _ hq hx => fenced_mono u off q x hq hx) (fun _ _ _ h => h) (fenced_may (off mb Om) offz fl (by rw [u.may]; exact k0.may))
 have bF : BoxAt (h.fenced (unseen m rg) (cond bar (unseen m ld) []) (cond bar h.floor h.next)) n0 B b o := bx.mono fun q x hq hx => fenced_mono u off q x Om hx
 refine WI_call ho rfl (doCall_fn ha (by simp)) hd ((hL _ n0 wb mb b o X a w hh okF kF hX bF qk).mono fun r h1 q => ?_);obtain ⟨ks, rfl, g1, u1, k1, o1⟩ := q;have hn : h.next ≤ h1.next := u1.next;have u2 : Up (fun q => q < h.next ∧ q ≠ mb) h (h.back h1) := u1.back;exact hk ks (h.back h1) (g1.mono (Nat.le_refl _) (fun q x _ _ hx => back_get u1 hx) fun _ h _ => h) u2 (k1.mono (Nat.le_refl _) (fun q x _ _ hx => back_get u1 hx) (fun _ _ _ h => h) (by rw [u2.may, u.may]; exact k0.may)) (ok.back u1) hn
theorem WI_al {P : Program} {e : TypeId} {z : V} (ho : ops.toList[i]? = some ⟨some d, .alloc e, ty, ps, af, none⟩) (hz : zeroB P e = some z) (ht : z.isTup = false) (o : Ok h) (hd : d < nt)
  (hk : ∀ h1, New h h1 e z.cells → WI P spec nt ops ix (T.set d (.one (.p h.next 0))) h1 ((i, h.next, h.next + 1) :: rg) ld K) : WI P spec nt ops ((i, m, bar) :: ix) T h rg ld K := by
 refine WI_alloc ho rfl rfl (x := .cells e (Go.Ai.T.setMany .e 0 z.cells) z.cells.length) ?_ (putT_some hd) (hk _ (.of o));rw [ex_alloc];exact doAlloc_of hz ht
end
section
variable {P : Program} {spec : CallF} {nt : Nat} {T : Sl} {h : H} {K : Sl → H → Prop} {all l : List Oper} {ty : TypeId} {ps : String} {af : Array Edge} {d : Tmp}
theorem WO_bsA {t : TypeId} {x : Operand} {e n : Nat} (ht : elemAt P t = some (e, n)) {zs : List S} (hz : zeroB P e = some (.agg zs)) (hn : zs.length = n) (h1 : 0 < n) (h2 : n ≤ 16777216) {xs : List S} (hx : ev T x = some (.agg xs)) (hl : xs.length = n) (o : Ok h) (hd : d < nt)
  (hk : ∀ h1, New h h1 e xs → WO P spec nt all l (T.set d (.one (.sl h.next 0 1 1 n true))) h1 K) : WO P spec nt all (⟨some d, .buildSlice t 1 #[(0, x)], ty, ps, af, none⟩ :: l) T h K :=
 zV (by rw [ex_buildSlice]; exact bs_agg ht hz hn h1 h2 hx hl) hd (hk _ (.of o))
end
theorem size_fnG {spec : CallF} (hs : SpecLay spec) {h : H} {g : GeoT} {ks : S} (ok : Ok h) (hw : NN g.w) (hh : NN g.h) :
  WF Try.prog spec 65 [.agg (g.cells ks)] h fun v h1 => v = .tup [(false, [.i .i64 g.w]), (false, [.i .i64 g.h])] ∧ Up (· < h.next) h h1 ∧ Ok h1 := by
 cases g; exact size_fn2 hs ok hw.co hh.co
structure Fr (h : H) (n0 wb mb : Nat) (X : Nat → Prop) (pf : Nat) (B : BoxT) (bb bo : Nat) (f : Frm) : Prop where
 map : MapOk h n0 wb mb X
 box : BoxAt h n0 B bb bo
 cf : Cells h pf 83 (f.cells bb bo)
 lt : wb < pf ∧ pf < h.next
 inner : NN f.inner
 tall : NN f.tall
 h : -1 ≤ f.h ∧ f.h ≤ 1099511627776
theorem Fr.up {h h1 : H} {n0 wb mb pf bb bo : Nat} {X X1 : Nat → Prop} {B : BoxT} {f : Frm} {p : Nat → Prop} (k : Fr h n0 wb mb X pf B bb bo f) (u : Up p h h1) (hp : ∀ q, q < n0 ∨ q = pf → p q) (m : MapOk h1 n0 wb mb X1) : Fr h1 n0 wb mb X1 pf B bb bo f := by
 have l := k.lt;have lm := k.map.lt;have hn := u.next;exact ⟨m, k.box.mono fun q x hq hx => by rw [u.get (hp q (.inl hq))]; exact hx, u.cells (hp pf (.inr rfl)) k.cf, by omega, k.inner, k.tall, k.h⟩
theorem BoxAt.kid {h : H} {n0 b o : Nat} {B : BoxT} (k : BoxAt h n0 B b o) {i : Nat} {C : BoxT} (hC : B.kids[i]? = some C) : ∃ kb ko c ex, h.row b (o + 3) 1 = some [.sl kb ko B.kids.length c 4 ex] ∧ kb < n0 ∧ BoxAt h n0 C kb (ko + i * 4) := by
 obtain ⟨_, ks, h1, h2⟩ := k.kidsS;rcases h2 with ⟨h2, _⟩ | ⟨kb, ko, c, ex, rfl, h3, h4⟩
 ·rw [h2] at hC; simp at hC
 ·exact ⟨kb, ko, c, ex, h1, h3, h4 i C hC⟩
end Go.Ai
