/-
flex: sizes along a line: what the machine comes to.
-/
import Derived.Test.YtjjlmmebkemlgaaFxRound
set_option linter.unusedVariables false
set_option linter.unusedSimpArgs false
namespace Go.Ai
open Go.Proofs

def solveLoop (prt : Int → List Int → List Int) (L : List Itm) (gap room : Int) (G : Bool) : Nat → List Int → List Bool → List Int
  | 0, ss, _ => ss
  | n + 1, ss, fx => if opens 0 fx = [] then ss else solveLoop prt L gap room G n (roundS L (opens 0 fx) (sharedI prt L gap room G ss fx (opens 0 fx)) ss) (roundF L (opens 0 fx) (sharedI prt L gap room G ss fx (opens 0 fx)) fx)
def solveI (prt : Int → List Int → List Int) (L : List Itm) (gap room : Int) : List Int := solveLoop prt L gap room (grows0 L gap room) (L.length + 1) (plains L) (L.map (Itm.fixed0 (grows0 L gap room)))
/-! Those that are open. -/
theorem opens_mem : ∀ (l : List Bool) (k i : Nat), i ∈ opens k l ↔ k ≤ i ∧ l[i - k]? = some false
  | [], k, i => by simp [opens]
  | b :: l, k, i => by
    simp only [opens]
    have ih := opens_mem l (k + 1) i
    by_cases hik : i = k
    · subst hik
      have : ¬ (i + 1 ≤ i) := by omega
      cases b <;> simp [ih, this]
    · have e : k ≤ i → i - k = (i - (k + 1)) + 1 := fun h => by omega
      constructor
      · intro h
        have h' : i ∈ opens (k + 1) l := by
          cases b with
          | true => simpa using h
          | false => rcases List.mem_cons.1 (by simpa using h) with h | h
                     · exact absurd h hik
                     · exact h
        obtain ⟨q1, q2⟩ := ih.1 h'
        refine ⟨by omega, ?_⟩
        rw [e (by omega), List.getElem?_cons_succ]; exact q2
      · rintro ⟨q1, q2⟩
        rw [e q1, List.getElem?_cons_succ] at q2
        have h' := ih.2 ⟨by omega, q2⟩
        cases b <;> simp [h']
theorem opens_nodup : ∀ (l : List Bool) (k : Nat), (opens k l).Nodup
  | [], k => by simp [opens]
  | b :: l, k => by
    simp only [opens]
    have ih := opens_nodup l (k + 1)
    cases b with
    | true => simpa using ih
    | false =>
      simp only [Bool.false_eq_true, if_false, List.nodup_cons]
      exact ⟨fun h => by have := ((opens_mem l (k + 1) k).1 h).1; omega, ih⟩
theorem count_set {l : List Bool} {i : Nat} (h : l[i]? = some false) (r : Bool) : (l.set i r).count false + (if r then 1 else 0) = l.count false := by
  induction l generalizing i with
  | nil => simp at h
  | cons b l ih =>
    cases i with
    | zero => simp at h; subst h; cases r <;> simp
    | succ i =>
      have := ih (i := i) (by simpa using h)
      rw [List.set_cons_succ]
      cases b <;> simp [List.count_cons] <;> omega
theorem count_sets : ∀ (ps : List (Nat × Bool)) (l : List Bool), (∀ p ∈ ps, l[p.1]? = some false) → (ps.map (·.1)).Nodup → (sets l ps).count false + (ps.filter (·.2)).length = l.count false
  | [], l, _, _ => by simp [sets]
  | p :: ps, l, h, hn => by
    simp only [List.map_cons, List.nodup_cons] at hn
    have h1 := count_set (h p (by simp)) p.2
    have h2 := count_sets ps (l.set p.1 p.2) (fun q hq => by
      have hne : p.1 ≠ q.1 := fun e => hn.1 (by rw [e]; exact List.mem_map.2 ⟨q, hq, rfl⟩)
      rw [List.getElem?_set_ne hne]; exact h q (by simp [hq])) hn.2
    show (sets (l.set p.1 p.2) ps).count false + _ = _
    rw [List.filter_cons]
    cases hp : p.2 <;> simp [hp] at h1 h2 ⊢ <;> omega
theorem sumL_pos {l : List Int} (h : 0 < sumL l) : ∃ x ∈ l, 0 < x := by
  induction l with
  | nil => simp [sumL] at h
  | cons x l ih =>
    by_cases hx : 0 < x
    · exact ⟨x, by simp, hx⟩
    · obtain ⟨y, h1, h2⟩ := ih (by simp only [sumL] at h; omega); exact ⟨y, by simp [h1], h2⟩
theorem sumL_neg {l : List Int} (h : sumL l < 0) : ∃ x ∈ l, x < 0 := by
  induction l with
  | nil => simp [sumL] at h
  | cons x l ih =>
    by_cases hx : x < 0
    · exact ⟨x, by simp, hx⟩
    · obtain ⟨y, h1, h2⟩ := ih (by simp only [sumL] at h; omega); exact ⟨y, by simp [h1], h2⟩
theorem zip_fstF {L : List Itm} {B : Int} {opn : List Nat} {xs : List Int} (h : xs.length = opn.length) : (List.zipWith (pairF L B) opn xs).map (·.1) = opn := by
  induction opn generalizing xs with
  | nil => simp
  | cons i opn ih => cases xs with
    | nil => simp at h
    | cons x xs => simp only [List.zipWith_cons_cons, List.map_cons, ih (by simpa using h)]; rfl
/-- Each round fixes one at least. -/
theorem round_less {L : List Itm} {opn : List Nat} {xs : List Int} {fx : List Bool} (hx : xs.length = opn.length) (hne : opn ≠ []) (hnd : opn.Nodup) (hf : ∀ i ∈ opn, fx[i]? = some false) : (roundF L opn xs fx).count false < fx.count false := by
  have h1 := count_sets (List.zipWith (pairF L (bentI L opn xs)) opn xs) fx (fun p hp => by
    obtain ⟨i, hi, x, _, rfl⟩ := zip_mem hp
    exact hf i hi) (by rw [zip_fstF hx]; exact hnd)
  have h2 : ∃ p ∈ List.zipWith (pairF L (bentI L opn xs)) opn xs, p.2 = true := by
    have mem : ∀ {z : Int}, z ∈ List.zipWith (byI L) opn xs → fixesI (bentI L opn xs) z = true → ∃ p ∈ List.zipWith (pairF L (bentI L opn xs)) opn xs, p.2 = true := by
      intro z hz hfz
      obtain ⟨k, hk⟩ := List.mem_iff_getElem?.1 hz
      rw [List.getElem?_zipWith] at hk
      cases ho : opn[k]? with
      | none => rw [ho] at hk; simp at hk
      | some i =>
        cases hxk : xs[k]? with
        | none => rw [ho, hxk] at hk; simp at hk
        | some x =>
          rw [ho, hxk] at hk
          simp at hk
          refine ⟨pairF L (bentI L opn xs) i x, List.mem_iff_getElem?.2 ⟨k, by rw [List.getElem?_zipWith, ho, hxk]⟩, ?_⟩
          show fixesI (bentI L opn xs) (byI L i x) = true
          rw [hk]; exact hfz
    rcases Int.lt_trichotomy (bentI L opn xs) 0 with hb | hb | hb
    · obtain ⟨z, hz, hz0⟩ := sumL_neg hb
      exact mem hz (by unfold fixesI; simp [hb, hz0])
    · cases opn with
      | nil => exact absurd rfl hne
      | cons i opn => cases xs with
        | nil => simp at hx
        | cons x xs => exact ⟨_, List.mem_cons_self, by show fixesI _ _ = true; rw [hb]; rfl⟩
    · obtain ⟨z, hz, hz0⟩ := sumL_pos hb
      exact mem hz (by unfold fixesI; simp [hb, hz0])
  obtain ⟨p, hp, hp2⟩ := h2
  have h3 : 0 < ((List.zipWith (pairF L (bentI L opn xs)) opn xs).filter (·.2)).length := List.length_pos_iff.2 (List.ne_nil_of_mem (List.mem_filter.2 ⟨hp, hp2⟩))
  unfold roundF
  omega
theorem roundF_false {L : List Itm} {opn : List Nat} {xs : List Int} {fx : List Bool} {i : Nat} (hf : ∀ i ∈ opn, fx[i]? = some false) (h : (roundF L opn xs fx)[i]? = some false) : fx[i]? = some false := by
  by_cases hi : i ∈ opn
  · exact hf i hi
  · unfold roundF at h
    rw [sets_get _ _ _ fun p hp => by
      obtain ⟨j, hj, x, _, rfl⟩ := zip_mem hp
      exact fun e => hi (by rw [← e]; exact hj)] at h
    exact h
theorem sets_mem {α : Type} : ∀ (l : List (Nat × α)) (s : List α) (x : α), x ∈ sets s l → x ∈ s ∨ ∃ p ∈ l, p.2 = x
  | [], s, x, h => .inl h
  | p :: l, s, x, h => by
    rcases sets_mem l _ x h with h | ⟨q, h1, h2⟩
    · rcases List.mem_or_eq_of_mem_set h with h | h
      · exact .inl h
      · exact .inr ⟨p, by simp, h.symm⟩
    · exact .inr ⟨q, by simp [h1], h2⟩
theorem Grown.len {h : H} {v : S} {n0 : Nat} {l : List S} (k : Grown h v n0 3 1 l) {T : Sl} {x : Operand} (hx : ev T x = some (.one v)) {d : Option Tmp} {ty : TypeId} {ps : String} {af : Array Edge} {g : Option (Nat × Bool)} : execO Try.prog T h ⟨d, .call ⟨.builtin .len, #[x], #[23]⟩, ty, ps, af, g⟩ = some (.val (.one (.i .i64 (l.length : Int))) h) := by
  rcases k with ⟨rfl, rfl⟩ | ⟨q, n, rfl, h1, h2, _⟩
  · exact ex_len0 el23 hx
  · have : l.length = n := by omega
    rw [this]; exact ex_len el23 hx
theorem bd72 {T : Sl} {h : H} {x y z : Operand} {a b c : S} (hx : ev T x = some (.one a)) (hy : ev T y = some (.one b)) (hz : ev T z = some (.one c)) {d : Option Tmp} {ty : TypeId} {ps : String} {af : Array Edge} {g : Option (Nat × Bool)} :
    execO Try.prog T h ⟨d, .build 72 #[(0, x), (1, y), (2, z)], ty, ps, af, g⟩ = some (.val (.agg [a, b, c, .b false, .sl0, .sl0]) h) := by
  rw [ex_build]
  unfold doBuild
  have hp : evParts T [(0, x), (1, y), (2, z)] = some [(0, .one a), (1, .one b), (2, .one c)] := by simp only [evParts, hx, hy, hz]
  have hu := Try.underlying72
  have hpl : ∀ fs, Try.prog.underlying 72 = some (.struct fs) → placesB Try.prog fs.toList = some [(0, 1), (1, 1), (2, 1), (3, 1), (4, 1), (5, 1)] := by
    intro fs h
    rw [hu] at h
    cases h
    kernel_rfl
  rw [zb72]
  cases hfs : Try.prog.underlying 72 with
  | none => rw [hu] at hfs; cases hfs
  | some td =>
    have htd : ∃ fs, td = .struct fs := by rw [hu] at hfs; cases hfs; exact ⟨_, rfl⟩
    obtain ⟨fs, rfl⟩ := htd
    have hpl := hpl fs hfs
    simp only [hp, hpl]
    rfl
set_option maxHeartbeats 0 in
theorem solve_fn {spec : CallF} (hs : SpecFlex spec) {prt : Int → List Int → List Int} (hP : PartsOk spec prt) {h : H} {v : S} {L : List Itm} {gap room : Int} (ok : Ok h) (lok : LineOk L gap room) (hi : ItemsAt h v L) :
    WF Try.prog spec 42 [.one v, .one (.i .i64 gap), .one (.i .i64 room)] h fun r h1 => ∃ x, r = .one x ∧ Grown h1 x h.next 3 1 (nums (solveI prt L gap room)) ∧ Up (· < h.next) h h1 ∧ Ok h1 := by
  refine WF_of Try.func42 rfl (hs.s42 _ _) (by rw [Try.ntmps42]; simp) (by rw [Try.ntmps42]; decide) ?_
  rw [Try.ntmps42, Try.results42]
  simp only [Sl.setMany_cons, Sl.setMany_nil, Nat.zero_add, Nat.reduceAdd]
  (repeat refine W_seq ?_); refine W_region ?_
  (refine VO ?_)
  refine WO_nil ?_; (repeat refine W_seq ?_)
  refine W_scoped ?_
  repeat refine W_seq ?_
  (repeat refine W_seq ?_); refine W_region ?_
  (refine VO ?_)
  refine WO_nil ?_; (repeat refine W_seq ?_)
  refine W_region ?_
  iterate 3 (refine VO ?_)
  refine WO_val (bd72 (ee) (ee) (ee)) (by decide) ?_
  refine WO_boxA (ee) ok (by decide) fun h1 n1 => ?_
  have e1 := n1.next
  (refine VO ?_)
  refine WO_nil ?_; (repeat refine W_seq ?_)
  refine W_region ?_
  (refine VO ?_)
  have hlt := fun b (hb : S.blk v = some b) => hi.lt hb
  refine WO_fn (ee) (by simp) (by decide) ((begin_fn hs n1.ok lok (hi.upLt n1.up) (fun e => by have := hlt _ e; omega) (by omega) n1.may n1.cells).mono ?_)
  rintro r h2 ⟨rfl, u2, o2, x, bf, c2, g2, f2, hbf1, hbf2, hxf⟩
  have hn2 := u2.next
  have u02 : Up (· < h.next) h h2 := n1.up.trans (u2.mono fun b hb => by omega)
  generalize hG : grows0 L gap room = G at *
  have hfl : (L.map (Itm.fixed0 G)).length = L.length := by simp
  have mw2 : h2.may h.next = true := by rw [u2.may]; exact n1.may
  have mf2 : h2.may bf = true := n1.ok.mayNew u2 hbf1
  have hlen64 := lok.len
  have hwork : L ≠ [] → ∃ bl ol cl ex bs, v = .sl bl ol L.length cl 5 ex ∧ x = .sl bs 0 L.length L.length 1 false ∧ h1.next ≤ bs ∧ bs < h2.next ∧ bl < h.next ∧ bs ≠ bf ∧ Work h2 h.next bs bf bl ol cl ex L gap room G (plains L) (L.map (Itm.fixed0 G)) := by
    intro hL
    have hpos : 0 < L.length := List.length_pos_iff.2 hL
    rcases hi with ⟨q, _⟩ | ⟨bl, ol, cl, ex, rfl, q1, q2⟩
    · exact absurd q hL
    · obtain ⟨bs, rfl, hcs, hbs, hms⟩ : ∃ bs, x = .sl bs 0 L.length L.length 1 false ∧ Cells h2 bs 3 (nums (plains L)) ∧ (h1.next ≤ bs ∧ bs < h2.next) ∧ h2.may bs = true := by
        rcases g2 with ⟨q, _⟩ | ⟨q, n, rfl, q1, q2, q3, q4, q5, q6⟩
        · have := congrArg List.length q; rw [nums_length, List.length_nil] at this; unfold plains at this; rw [List.length_map] at this; omega
        · have : n = L.length := by rw [nums_length] at q2; simp [plains] at q2; omega
          subst this; exact ⟨q, rfl, q3, ⟨q5, q6⟩, q4⟩
      have hne : bs ≠ bf := fun e => hxf (by rw [← e]; rfl)
      exact ⟨bl, ol, cl, ex, bs, rfl, rfl, hbs.1, hbs.2, q1, hne, c2, fun i y hy => by rw [u02.row q1]; exact q2 i y hy, hcs, f2, by simp [plains], hfl, ⟨by omega, hbs.2, hbf2, by omega⟩, ⟨by omega, by omega, Ne.symm hne, by omega, by omega, by omega⟩, ⟨mw2, hms, mf2⟩⟩
  have hR : solveLoop prt L gap room G (L.length + 1) (plains L) (L.map (Itm.fixed0 G)) = solveI prt L gap room := by unfold solveI; rw [hG]
  have hcnt : (L.map (Itm.fixed0 G)).count false ≤ L.length := by have := List.count_le_length (a := false) (l := L.map (Itm.fixed0 G)); simpa using this
  skip
  refine WO_nil ?_; (repeat refine W_seq ?_)
  refine W_label ?_
  refine W_here (fun j T h3 => ∃ ss fx n, j = fx.count false ∧ T.get 8 = some (.one (.p h.next 0)) ∧ Cells h3 h.next 72 [v, .i .i64 gap, .i .i64 room, .b G, x, .sl bf 0 L.length L.length 1 true] ∧ Cells h3 bf 4 (bools fx) ∧ fx.length = L.length ∧ Grown h3 x h1.next 3 1 (nums ss) ∧ (L ≠ [] → ∃ bl ol cl ex bs, v = .sl bl ol L.length cl 5 ex ∧ x = .sl bs 0 L.length L.length 1 false ∧ h1.next ≤ bs ∧ bs < h2.next ∧ bl < h.next ∧ bs ≠ bf ∧ Work h3 h.next bs bf bl ol cl ex L gap room G ss fx) ∧ (∀ s ∈ ss, 0 ≤ s ∧ s ≤ 1099511627776) ∧ (∀ i, fx[i]? = some false → (L.getD i default).weight G ≠ 0) ∧ fx.count false < n ∧ solveLoop prt L gap room G n ss fx = solveI prt L gap room ∧ Up (· < h.next) h h3 ∧ Ok h3 ∧ h2.next ≤ h3.next) ?_ _ _ _ ⟨plains L, L.map (Itm.fixed0 G), L.length + 1, rfl, gs, c2, f2, hfl, g2, hwork, ?_, ?_, by omega, hR, u02, o2, Nat.le_refl _⟩
  rotate_left
  · intro s hs'
    obtain ⟨y, hy, rfl⟩ := List.mem_map.1 hs'
    exact (lok.ok y hy).plain
  · intro i hi'
    rw [List.getElem?_map] at hi'
    cases hy : L[i]? with
    | none => rw [hy] at hi'; simp at hi'
    | some y =>
      rw [hy] at hi'
      have hy' : L.getD i default = y := by rw [List.getD_eq_getElem?_getD, hy]; rfl
      rw [hy']
      intro h0
      simp [Itm.fixed0, h0] at hi'
  clear c2 f2 g2 hwork hR hcnt u02 o2 u2 mw2 mf2
  rintro j T h3 ih ⟨ss, fx, n, rfl, t8, c3, f3, hfl3, g3, hwork, sok, hw, hn, hR, u3, o3, hn3⟩
  have hopl := opens_length 0 fx
  (repeat refine W_seq ?_); refine W_region ?_
  (refine VX (by simp only [go_sem, ↓reduceIte, Nat.reduceEqDiff, Nat.reduceAdd, t8]; rfl) ?_)
  refine WO_fn (by (simp only [go_sem, ↓reduceIte, Nat.reduceEqDiff, t8] <;> rfl)) (by simp) (by decide) ((open_ok hs.s52 (fx := fx) o3 (by rw [hfl3]; exact c3) (by omega) f3 (by omega) (by omega)).mono ?_)
  rintro r h4 ⟨xo, rfl, go, u4, o4⟩
  (refine VO ?_)
  refine WO_nil ?_; (repeat refine W_seq ?_)
  refine W_region ?_
  (refine VO ?_)
  refine WO_val (go.len (ee)) (by decide) ?_
  (refine VX (ex_bin ee ee in_gtr) ?_)
  refine WO_nil ?_; (repeat refine W_seq ?_)
  have hil : (idx (opens 0 fx)).length = (opens 0 fx).length := by simp [idx]
  have hn4 := u4.next
  refine W_cond (ee) (fun hlt1 => ?_) (fun hge => W_skip ?_)
  · have hpos : 0 < (opens 0 fx).length := by
      have : (0 : Int) < ((idx (opens 0 fx)).length : Int) := by simpa using hlt1
      omega
    have hne : opens 0 fx ≠ [] := List.ne_nil_of_length_pos hpos
    have hL : L ≠ [] := fun e => by rw [e, List.length_nil] at hfl3; omega
    obtain ⟨bl, ol, cl, ex, bs, rfl, rfl, hb1, hb2, hb3, hb4, k3⟩ := hwork hL
    have hof : ∀ i ∈ opens 0 fx, fx[i]? = some false := fun i hi' => by have := ((opens_mem fx 0 i).1 hi').2; simpa using this
    have holt : ∀ i ∈ opens 0 fx, i < L.length := fun i hi' => by have := (List.getElem?_eq_some_iff.1 (hof i hi')).1; omega
    have k4 := k3.upLt u4
    (repeat refine W_seq ?_); refine W_region ?_
    iterate 2 (refine VX (by simp only [go_sem, ↓reduceIte, Nat.reduceEqDiff, Nat.reduceAdd, t8]; rfl) ?_)
    refine WO_fn (by (simp only [go_sem, ↓reduceIte, Nat.reduceEqDiff, t8] <;> rfl)) (by simp) (by decide) ((round_fn hs hP o4 lok k4 sok (opn := opens 0 fx) (by have := go.same (idx_cast _); exact this.ints) ⟨fun e => by have := (go.lt e).1; omega, fun e => by have := (go.lt e).1; omega⟩ hne holt (by omega) (opens_nodup fx 0) (fun i hi' => hw i (hof i hi'))).mono ?_)
    rintro r h5 ⟨rfl, u5, o5, k5⟩
    have hn5 := u5.next
    have hxl : (sharedI prt L gap room G ss fx (opens 0 fx)).length = (opens 0 fx).length := by unfold sharedI; rw [List.length_zipWith, hP.len]; simp [wtsI]
    have hless := round_less (L := L) hxl hne (opens_nodup fx 0) hof
    obtain ⟨n, rfl⟩ : ∃ m, n = m + 1 := ⟨n - 1, by omega⟩
    skip
    refine WO_nil ?_; (repeat refine W_seq ?_)
    refine W_goto ?_; (repeat first | refine thenQ_goto ?_ | refine blockQ_goto ?_); refine scope_jump (by rfl) ?_; (repeat refine W_seq ?_)
    refine W_skip ?_
    refine ih _ hless _ _ ⟨_, _, n, rfl, gt t8, k5.w, k5.fixed, k5.lf, .inr ⟨bs, L.length, rfl, List.length_pos_iff.2 hL, by rw [nums_length, k5.ls, Nat.mul_one], k5.sizes, k5.may.2.1, hb1, k5.lt.2.1⟩, fun _ => ⟨bl, ol, cl, ex, bs, rfl, rfl, hb1, hb2, hb3, hb4, k5⟩, ?_, fun i hi' => hw i (roundF_false hof hi'), by omega, ?_, u3.trans ((u4.mono fun b hb => by omega).trans (u5.mono fun b hb => by omega)), o5, by omega⟩
    · intro s hs'
      rcases sets_mem _ _ _ hs' with q | ⟨p, hp, rfl⟩
      · exact sok s q
      · obtain ⟨i, hi', y, hy, rfl⟩ := zip_mem hp
        refine clampAt_bd lok (holt i hi') ?_
        obtain ⟨i2, hi2, p2, hp2, rfl⟩ := zip_mem hy
        have hfr := free_bd L gap room G ss fx
        have hpb := hP.bd _ _ (by omega) (by omega) (by simpa [wtsI] using hne) (fun w hw' => by
          obtain ⟨m, hm, rfl⟩ := List.mem_map.1 hw'
          have h0 := hw m (hof m hm)
          have hmo := lok.at (holt m hm)
          have hb := hmo.mul
          have hg := hmo.gr
          revert h0
          unfold Itm.weight
          split <;> intro h0 <;> omega) p2 hp2
        have hb := (lok.at (holt i2 hi2)).base
        unfold newI; split <;> omega
    · rw [← hR]
      show _ = (if opens 0 fx = [] then ss else _)
      rw [if_neg hne]
  · have hz : opens 0 fx = [] := by
      have : ¬ (0 : Int) < ((idx (opens 0 fx)).length : Int) := by simpa using hge
      exact List.eq_nil_of_length_eq_zero (by omega)
    have hss : solveI prt L gap room = ss := by
      rw [← hR]
      obtain ⟨n, rfl⟩ : ∃ m, n = m + 1 := ⟨n - 1, by omega⟩
      show (if opens 0 fx = [] then ss else _) = ss
      rw [if_pos hz]
    have c4 := u4.cells (show h.next < h3.next by omega) c3
    repeat refine W_seq ?_
    (repeat refine W_seq ?_); refine W_region ?_
    iterate 5 (first | (refine VX (by simp only [go_sem, ↓reduceIte, Nat.reduceEqDiff, Nat.reduceAdd, t8]; rfl) ?_) | (refine VX (by simp (disch := first | omega | simp) only [go_sem, ↓reduceIte, Nat.reduceEqDiff, Nat.reduceAdd, c4.row, t8]; rfl) ?_))
    refine WO_nil (W_ret ⟨.inr rfl, _, by (simp only [resultB, resB, parts, V.part, Sl.get_set', ↓reduceIte, Nat.reduceEqDiff] <;> rfl), x, rfl, ?_, u3.trans (u4.mono fun b hb => by omega), o4⟩)
    rw [hss]
    have g4 := g3.up u4 fun q hq => (g3.lt hq).2
    rcases g4 with q | ⟨q, n, rfl, q1, q2, q3, q4, q5, q6⟩
    · exact .inl q
    · exact .inr ⟨q, n, rfl, q1, q2, q3, q4, by omega, q6⟩
end Go.Ai
