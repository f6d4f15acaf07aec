/-
The law FlexFills, by the machine.
-/
import Derived.Test.YtjjlmmebkemlgaaFxFillP
import Derived.Test.YtjjlmmebkemlgaaFxWithin
set_option linter.unusedVariables false
set_option linter.unusedSimpArgs false
namespace Go.Ai
open Go.Proofs
attribute [local go_sem] ex_extract ex_move ex_assign ex_nilCheck ex_fieldAddr ex_indexAddr ex_load ex_pick ex_field pick_b ev evs Sl.get_set' ofInt ofBool ofNil mv_some nil_p Nat.zero_add Nat.mul_one List.drop_succ_cons List.drop_zero List.take_succ_cons List.take_zero List.nil_append List.cons_append oneR_some aggR_some cond_true cond_false
attribute [local go_sem] IX38 LD41 FA41_0 LD39 IX39 FA41_1 LD3 FA41_2 IX23 LD46 FA46_0 FA46_3 FA46_1 FA46_2 FA46_4 IX61 LD4 IX64 LD66 FA66_1 FA72_4 LD23 FA66_0 FA72_0 FA72_5 LD61 FA72_1 FA72_2 FA72_3
theorem bd46 {T : Sl} {h : H} {x y z w : Operand} {a b c e : S} (hx : ev T x = some (.one a)) (hy : ev T y = some (.one b)) (hz : ev T z = some (.one c)) (hw : ev T w = some (.one e)) {d : Option Tmp} {ty : TypeId} {ps : String} {af : Array Edge} {g : Option (Nat × Bool)} :
    execO Try.prog T h ⟨d, .build 46 #[(0, x), (2, y), (3, z), (4, w)], ty, ps, af, g⟩ = some (.val (.agg [a, .i .i64 0, b, c, e]) h) := by
  rw [ex_build]
  unfold doBuild
  have hp : evParts T [(0, x), (2, y), (3, z), (4, w)] = some [(0, .one a), (2, .one b), (3, .one c), (4, .one e)] := by simp only [evParts, hx, hy, hz, hw]
  have hu := Try.underlying46
  have hpl : ∀ fs, Try.prog.underlying 46 = some (.struct fs) → placesB Try.prog fs.toList = some [(0, 1), (1, 1), (2, 1), (3, 1), (4, 1)] := by
    intro fs h
    rw [hu] at h
    cases h
    kernel_rfl
  rw [zb46]
  cases hfs : Try.prog.underlying 46 with
  | none => rw [hu] at hfs; cases hfs
  | some td =>
    have htd : ∃ fs, td = .struct fs := by rw [hu] at hfs; cases hfs; exact ⟨_, rfl⟩
    obtain ⟨fs, rfl⟩ := htd
    have hpl := hpl fs hfs
    simp only [hp, hpl]
    rfl
/-- An item as the law makes it. -/
def mkI (m g : Int) : Itm := ⟨64 * (1 + m), 0, -1, 1 + g, 1⟩
/-- What Resolve comes to in the one room and in the other. -/
structure Room (M : List Itm) (gap : Int) (t : Nat) (room : Int) (X : List Int) : Prop where
  eq : solveI prtI M gap room = X
  len : X.length = M.length
  sum : Lf.sumI X = room - gap * ((M.length : Int) - 1)
  at_ : ∀ (i : Nat) (y : Itm) (x : Int), M[i]? = some y → X[i]? = some x → (0 ≤ x ∧ x ≤ 1099511627776) ∧ (t = 0 → y.base ≤ x) ∧ (t = 1 → x ≤ y.base)
  room : 0 ≤ room ∧ room ≤ 1099511627776
theorem gaps_bd {g : Int} {n : Nat} (hg : 0 ≤ g ∧ g < 10) (h1 : 1 ≤ n) (h2 : n ≤ 64) : 0 ≤ g * ((n : Int) - 1) ∧ g * ((n : Int) - 1) ≤ 630 := by
  have h3 : 0 ≤ (n : Int) - 1 := by omega
  refine ⟨Int.mul_nonneg hg.1 h3, ?_⟩
  have := Int.mul_le_mul_of_nonneg_right (show g ≤ 10 by omega) h3
  omega
theorem room_grow {M : List Itm} (k : FillL M) {gap r : Int} (hg : 0 ≤ gap ∧ gap < 10) (hr : 0 ≤ r ∧ r < 100000) : ∃ X, Room M gap 0 (bases M + gap * ((M.length : Int) - 1) + 1 + r) X := by
  obtain ⟨X, h1, h2, h3, h4⟩ := fill_grow k hg hr
  have hb := bases_bd M k.it
  have hp := List.length_pos_iff.2 k.ne
  have hl := k.len
  have hgl := gaps_bd hg (show 1 ≤ M.length by omega) hl
  refine ⟨X, h1, h2, by omega, fun i y x hy hx => ?_, by omega⟩
  obtain ⟨q1, q2⟩ := h4 i y x hy hx
  obtain ⟨m, g, hm, hg', e⟩ := k.it y (List.mem_of_getElem? hy)
  have hbase : y.base = 64 * (1 + m) := by rw [e]
  exact ⟨⟨by omega, q2⟩, fun _ => q1, fun h => by omega⟩
theorem room_shrink {M : List Itm} (k : FillL M) {gap r : Int} (hg : 0 ≤ gap ∧ gap < 10) (hr : 0 ≤ r ∧ r < bases M / 2) : ∃ X, Room M gap 1 (gap * ((M.length : Int) - 1) + bases M - r) X := by
  obtain ⟨X, h1, h2, h3, h4⟩ := fill_shrink k hg hr
  have hb := bases_bd M k.it
  have hp := List.length_pos_iff.2 k.ne
  have hl := k.len
  have hgl := gaps_bd hg (show 1 ≤ M.length by omega) hl
  refine ⟨X, h1, h2, by omega, fun i y x hy hx => ?_, by omega⟩
  obtain ⟨q1, q2⟩ := h4 i y x hy hx
  obtain ⟨m, g, hm, hg', e⟩ := k.it y (List.mem_of_getElem? hy)
  have hbase : y.base = 64 * (1 + m) := by rw [e]
  exact ⟨⟨by omega, by omega⟩, fun h => by omega, fun _ => q2⟩
theorem FillL.line {M : List Itm} (k : FillL M) {gap room : Int} (hg : 0 ≤ gap ∧ gap < 10) (hr : 0 ≤ room ∧ room ≤ 1099511627776) : LineOk M gap room := by
  refine ⟨fun y hy => ?_, k.len, by omega, hr⟩
  obtain ⟨m, g, hm, hg', rfl⟩ := k.it y hy
  constructor <;> simp only <;> omega
theorem sumI_snoc {l : List Int} {k : Nat} {x : Int} (hx : l[k]? = some x) : Lf.sumI (l.take (k + 1)) = Lf.sumI (l.take k) + x := by
  obtain ⟨hk, rfl⟩ := List.getElem?_eq_some_iff.1 hx
  rw [List.take_succ_eq_append_getElem hk, Lf.sumI_app]
  simp [Lf.sumI]
theorem sumI_part {l : List Int} (h : ∀ x ∈ l, 0 ≤ x) (k : Nat) : 0 ≤ Lf.sumI (l.take k) ∧ Lf.sumI (l.take k) ≤ Lf.sumI l := by
  have h1 := Lf.sumI_app (l.take k) (l.drop k)
  rw [List.take_append_drop] at h1
  have h2 := (le_sumI (l.take k) fun x hx => h x (List.mem_of_mem_take hx)).1
  have h3 := (le_sumI (l.drop k) fun x hx => h x (List.mem_of_mem_drop hx)).1
  omega
theorem bases_snoc {M : List Itm} {y : Itm} : bases (M ++ [y]) = bases M + y.base := by
  unfold bases
  rw [List.map_append, Lf.sumI_app]
  simp [Lf.sumI]
set_option maxHeartbeats 0 in
theorem fills_fn {spec : CallF} (hs : SpecRes spec) (hs1 : SpecFlex spec) (hs2 : SpecSort spec) (hs3 : SpecEq spec) (hs7 : ∀ args h, spec 7 args h = none) (hs21 : ∀ args h, spec 21 args h = none) {h : H} {v : S} {A : List Ask} (ok : Ok h) (hA : AsksAt h v A) :
    WF Try.prog spec 7 [.one v] h fun r h1 => r = .one (.b true) := by
  refine WF_of Try.func7 rfl (hs7 _ _) (by rw [Try.ntmps7]; simp) (by rw [Try.ntmps7]; decide) ?_
  rw [Try.ntmps7, Try.results7]
  simp only [Sl.setMany_cons, Sl.setMany_nil, Nat.zero_add, Nat.reduceAdd]
  (repeat refine W_seq ?_); refine W_region ?_
  (refine WO_val (by simp only [go_sem, ↓reduceIte, Nat.reduceEqDiff, Nat.reduceAdd]; rfl) (by decide) ?_)
  refine WO_nil ?_; (repeat refine W_seq ?_)
  refine W_region ?_
  (refine WO_val (by simp only [go_sem, ↓reduceIte, Nat.reduceEqDiff, Nat.reduceAdd]; rfl) (by decide) ?_)
  refine WO_nil ?_; (repeat refine W_seq ?_)
  refine W_block (W_rounds (fun j T h1 => ∃ k, j = 10 - k ∧ k ≤ 10 ∧ T.get 0 = some (.one v) ∧ T.get 3 = some (.one (.i .i64 (k : Int))) ∧ Up (· < h.next) h h1 ∧ Ok h1) ?_ 10 _ _ ⟨0, rfl, by omega, by (simp only [go_sem, ↓reduceIte, Nat.reduceEqDiff] <;> first | rfl | simp), by (simp only [go_sem, ↓reduceIte, Nat.reduceEqDiff] <;> first | rfl | simp), .refl _ _, ok⟩)
  rintro j T h1 ⟨k, rfl, hk, t0, t3, u1, o1⟩
  have hn1 := u1.next
  repeat refine W_seq ?_
  refine W_cut (fun T1 h2 => h2 = h1 ∧ T1.get 0 = some (.one v) ∧ T1.get 3 = some (.one (.i .i64 (k : Int))) ∧ T1.get 26 = some (.one (.b (decide ((k : Int) < (A.length : Int)) && decide ((k : Int) < 10))))) ?_ ?_
  · refine W_region ?_
    iterate 2 (refine WO_val (by simp only [go_sem, ↓reduceIte, Nat.reduceEqDiff, Nat.reduceAdd, t0, t3]; rfl) (by decide) ?_)
    refine WO_val (hA.len (by (simp only [go_sem, ↓reduceIte, Nat.reduceEqDiff] <;> rfl))) (by decide) ?_
    (refine WO_val (ex_bin (by simp only [go_sem, ↓reduceIte, Nat.reduceEqDiff, t0, t3]; rfl) (by simp only [go_sem, ↓reduceIte, Nat.reduceEqDiff, t0, t3]; rfl) in_lss) (by decide) ?_)
    (refine WO_val (by simp only [go_sem, ↓reduceIte, Nat.reduceEqDiff, Nat.reduceAdd, t0, t3]; rfl) (by decide) ?_)
    refine WO_grd rfl rfl (by simp only [go_sem, ↓reduceIte, Nat.reduceEqDiff, t0, t3]; rfl) (fun c1 => ?_) (fun c1 => ?_)
    · (refine WO_valG (wantB_true rfl rfl (by simp only [go_sem, ↓reduceIte, Nat.reduceEqDiff, t0, t3, c1]; rfl) rfl) (by simp only [go_sem, ↓reduceIte, Nat.reduceEqDiff, Nat.reduceAdd, t0, t3, c1]; rfl) (by decide) ?_)
      (refine WO_valG (wantB_true rfl rfl (by simp only [go_sem, ↓reduceIte, Nat.reduceEqDiff, t0, t3, c1]; rfl) rfl) (ex_bin (by simp only [go_sem, ↓reduceIte, Nat.reduceEqDiff, t0, t3, c1]; rfl) (by simp only [go_sem, ↓reduceIte, Nat.reduceEqDiff, t0, t3, c1]; rfl) in_lss) (by decide) ?_)
      (refine WO_val (by simp only [go_sem, ↓reduceIte, Nat.reduceEqDiff, Nat.reduceAdd, t0, t3, c1]; rfl) (by decide) ?_)
      refine WO_nil ⟨rfl, rfl, by (simp only [go_sem, ↓reduceIte, Nat.reduceEqDiff, t0, c1] <;> first | rfl | simp), by (simp only [go_sem, ↓reduceIte, Nat.reduceEqDiff, t3, c1] <;> first | rfl | simp), ?_⟩
      simp only [go_sem, ↓reduceIte, Nat.reduceEqDiff, c1]
      simp [c1]
    · refine WO_notG (wantB_no rfl rfl (by simp only [go_sem, ↓reduceIte, Nat.reduceEqDiff, t0, t3, c1]; rfl) rfl) (by decide) ?_
      refine WO_notG (wantB_no rfl rfl (by simp only [go_sem, ↓reduceIte, Nat.reduceEqDiff, t0, t3, c1]; rfl) rfl) (by decide) ?_
      (refine WO_val (by simp only [go_sem, ↓reduceIte, Nat.reduceEqDiff, Nat.reduceAdd, t0, t3, c1]; rfl) (by decide) ?_)
      refine WO_nil ⟨rfl, rfl, by (simp only [go_sem, ↓reduceIte, Nat.reduceEqDiff, t0, c1] <;> first | rfl | simp), by (simp only [go_sem, ↓reduceIte, Nat.reduceEqDiff, t3, c1] <;> first | rfl | simp), ?_⟩
      simp only [go_sem, ↓reduceIte, Nat.reduceEqDiff, c1]
      simp [c1]
  clear t0 t3
  rintro T1 h1 ⟨rfl, t0, t3, t26⟩
  refine W_cond (by (simp only [go_sem, ↓reduceIte, Nat.reduceEqDiff, t26] <;> rfl)) (fun hlt => W_skip ?_) (fun hge => W_exit ?_)
  · have hlt : k < A.length ∧ k < 10 := by simp at hlt; omega
    obtain ⟨a, ha⟩ : ∃ a, A[k]? = some a := ⟨_, List.getElem?_eq_getElem hlt.1⟩
    obtain ⟨b, c, rfl, hbn, hrow⟩ : ∃ b c, v = .sl b 0 A.length c 3 false ∧ b < h.next ∧ ∀ k a, A[k]? = some a → ∃ s, h.row b (k * 3) 3 = some [s, .i .i64 a.gap, .i .i64 a.room] ∧ ItemsAt h s a.L := by
      rcases hA with ⟨rfl, _⟩ | q
      · simp at hlt
      · exact q
    obtain ⟨s, hrs, hiS⟩ := hrow k a ha
    have r1 : h1.row b (k * 3) 3 = some [s, .i .i64 a.gap, .i .i64 a.room] := by rw [u1.row hbn]; exact hrs
    obtain ⟨L, gap, room⟩ := a
    simp only at r1 hiS
    have hlen8 := hlt.1
    repeat refine W_seq ?_
    refine W_cut (fun T1 h2 => T1.get 0 = some (.one (.sl b 0 A.length c 3 false)) ∧ T1.get 3 = some (.one (.i .i64 (k : Int))) ∧ Up (· < h.next) h h2 ∧ Ok h2) ?_ ?_
    · refine W_block ?_
      (repeat refine W_seq ?_); refine W_region ?_
      iterate 2 (refine WO_val (by simp only [go_sem, ↓reduceIte, Nat.reduceEqDiff, Nat.reduceAdd, t0, t3]; rfl) (by decide) ?_)
      (refine WO_val (by simp (disch := first | omega | simp) only [go_sem, ↓reduceIte, Nat.reduceEqDiff, Nat.reduceAdd, t0, t3]; rfl) (by decide) ?_)
      (refine WO_val (by simp (disch := first | omega | simp) only [go_sem, ↓reduceIte, Nat.reduceEqDiff, Nat.reduceAdd, r1, t0, t3]; rfl) (by decide) ?_)
      refine WO_alloc zb41 rfl o1 (by decide) fun h4 n4 => ?_
      refine WO_storeA (by (simp only [go_sem, ↓reduceIte, Nat.reduceEqDiff] <;> rfl)) (by (simp only [go_sem, ↓reduceIte, Nat.reduceEqDiff] <;> rfl)) sz41 rfl (by simp) n4.cells n4.may (by simp [V.cells]) fun h5 p5 => ?_
      have c5 := p5.cells
      simp only [V.cells, List.take_zero, List.nil_append, List.length_cons, List.length_nil, Nat.reduceAdd, Nat.zero_add, List.drop_succ_cons, List.drop_zero, List.append_nil] at c5
      have e4 := n4.next
      have e5 := p5.next
      have u5 : Up (· < h1.next) h1 h5 := n4.up.trans (p5.up.mono fun b hb => by omega)
      have o5 := p5.ok n4.ok
      have hi5 := (hiS.upLt u1).upLt u5
      have u15 : Up (· < h.next) h h5 := u1.trans (u5.mono fun b hb => by omega)
      refine WO_nil ?_; (repeat refine W_seq ?_)
      refine W_cut (fun T2 h6 => h6 = h5 ∧ T2.get 0 = some (.one (.sl b 0 A.length c 3 false)) ∧ T2.get 3 = some (.one (.i .i64 (k : Int))) ∧ T2.get 4 = some (.one (.p h1.next 0)) ∧ T2.get 42 = some (.one (.b (decide ((64 : Int) < (L.length : Int)) || decide ((L.length : Int) = 0))))) ?_ ?_
      · refine W_region ?_
        (refine WO_val (by simp only [go_sem, ↓reduceIte, Nat.reduceEqDiff, Nat.reduceAdd]; rfl) (by decide) ?_)
        (refine WO_val (by simp (disch := first | omega | simp) only [go_sem, ↓reduceIte, Nat.reduceEqDiff, Nat.reduceAdd, c5.row]; rfl) (by decide) ?_)
        refine WO_val (hi5.len (by (simp only [go_sem, ↓reduceIte, Nat.reduceEqDiff] <;> rfl))) (by decide) ?_
        by_cases h64 : (64 : Int) < (L.length : Int)
        · have d1 : decide ((64 : Int) < (L.length : Int)) = true := decide_eq_true h64
          (refine WO_val (ex_bin (by simp only [go_sem, ↓reduceIte, Nat.reduceEqDiff, d1]; rfl) (by simp only [go_sem, ↓reduceIte, Nat.reduceEqDiff, d1]; rfl) in_gtr) (by decide) ?_)
          (refine WO_val (by simp only [go_sem, ↓reduceIte, Nat.reduceEqDiff, Nat.reduceAdd, d1]; rfl) (by decide) ?_)
          first | (refine WO_notG (wantB_no rfl rfl (by simp only [go_sem, ↓reduceIte, Nat.reduceEqDiff, d1]; rfl) rfl) (by decide) ?_) | (refine WO_valG (wantB_true rfl rfl (by simp only [go_sem, ↓reduceIte, Nat.reduceEqDiff, d1]; rfl) rfl) (by simp only [go_sem, ↓reduceIte, Nat.reduceEqDiff, Nat.reduceAdd, d1]; rfl) (by decide) ?_)
          first | (refine WO_notG (wantB_no rfl rfl (by simp only [go_sem, ↓reduceIte, Nat.reduceEqDiff, d1]; rfl) rfl) (by decide) ?_) | (refine WO_valG (wantB_true rfl rfl (by simp only [go_sem, ↓reduceIte, Nat.reduceEqDiff, d1]; rfl) rfl) (by simp (disch := first | omega | simp) only [go_sem, ↓reduceIte, Nat.reduceEqDiff, Nat.reduceAdd, c5.row, d1]; rfl) (by decide) ?_)
          refine WO_notG (wantB_false rfl rfl (by simp only [go_sem, ↓reduceIte, Nat.reduceEqDiff, d1]; rfl) rfl) (by decide) ?_
          first | (refine WO_notG (wantB_no rfl rfl (by simp only [go_sem, ↓reduceIte, Nat.reduceEqDiff, d1]; rfl) rfl) (by decide) ?_) | (refine WO_valG (wantB_true rfl rfl (by simp only [go_sem, ↓reduceIte, Nat.reduceEqDiff, d1]; rfl) rfl) (ex_bin (by simp only [go_sem, ↓reduceIte, Nat.reduceEqDiff, d1]; rfl) (by simp only [go_sem, ↓reduceIte, Nat.reduceEqDiff, d1]; rfl) in_eql) (by decide) ?_)
          (refine WO_val (by simp only [go_sem, ↓reduceIte, Nat.reduceEqDiff, Nat.reduceAdd, d1]; rfl) (by decide) ?_)
          exact WO_nil ⟨rfl, rfl, by (simp only [go_sem, ↓reduceIte, Nat.reduceEqDiff, t0] <;> first | rfl | simp), by (simp only [go_sem, ↓reduceIte, Nat.reduceEqDiff, t3] <;> first | rfl | simp), by (simp only [go_sem, ↓reduceIte, Nat.reduceEqDiff] <;> first | rfl | simp), by simp only [go_sem, ↓reduceIte, Nat.reduceEqDiff, d1]; rfl⟩
        · have d1 : decide ((64 : Int) < (L.length : Int)) = false := decide_eq_false h64
          (refine WO_val (ex_bin (by simp only [go_sem, ↓reduceIte, Nat.reduceEqDiff, d1]; rfl) (by simp only [go_sem, ↓reduceIte, Nat.reduceEqDiff, d1]; rfl) in_gtr) (by decide) ?_)
          (refine WO_val (by simp only [go_sem, ↓reduceIte, Nat.reduceEqDiff, Nat.reduceAdd, d1]; rfl) (by decide) ?_)
          first | (refine WO_notG (wantB_no rfl rfl (by simp only [go_sem, ↓reduceIte, Nat.reduceEqDiff, d1]; rfl) rfl) (by decide) ?_) | (refine WO_valG (wantB_true rfl rfl (by simp only [go_sem, ↓reduceIte, Nat.reduceEqDiff, d1]; rfl) rfl) (by simp only [go_sem, ↓reduceIte, Nat.reduceEqDiff, Nat.reduceAdd, d1]; rfl) (by decide) ?_)
          first | (refine WO_notG (wantB_no rfl rfl (by simp only [go_sem, ↓reduceIte, Nat.reduceEqDiff, d1]; rfl) rfl) (by decide) ?_) | (refine WO_valG (wantB_true rfl rfl (by simp only [go_sem, ↓reduceIte, Nat.reduceEqDiff, d1]; rfl) rfl) (by simp (disch := first | omega | simp) only [go_sem, ↓reduceIte, Nat.reduceEqDiff, Nat.reduceAdd, c5.row, d1]; rfl) (by decide) ?_)
          refine WO_valG (wantB_true rfl rfl (by simp only [go_sem, ↓reduceIte, Nat.reduceEqDiff, d1]; rfl) rfl) (hi5.len (by (simp only [go_sem, ↓reduceIte, Nat.reduceEqDiff] <;> rfl))) (by decide) ?_
          first | (refine WO_notG (wantB_no rfl rfl (by simp only [go_sem, ↓reduceIte, Nat.reduceEqDiff, d1]; rfl) rfl) (by decide) ?_) | (refine WO_valG (wantB_true rfl rfl (by simp only [go_sem, ↓reduceIte, Nat.reduceEqDiff, d1]; rfl) rfl) (ex_bin (by simp only [go_sem, ↓reduceIte, Nat.reduceEqDiff, d1]; rfl) (by simp only [go_sem, ↓reduceIte, Nat.reduceEqDiff, d1]; rfl) in_eql) (by decide) ?_)
          (refine WO_val (by simp only [go_sem, ↓reduceIte, Nat.reduceEqDiff, Nat.reduceAdd, d1]; rfl) (by decide) ?_)
          exact WO_nil ⟨rfl, rfl, by (simp only [go_sem, ↓reduceIte, Nat.reduceEqDiff, t0] <;> first | rfl | simp), by (simp only [go_sem, ↓reduceIte, Nat.reduceEqDiff, t3] <;> first | rfl | simp), by (simp only [go_sem, ↓reduceIte, Nat.reduceEqDiff] <;> first | rfl | simp), by simp only [go_sem, ↓reduceIte, Nat.reduceEqDiff, d1]; rfl⟩
      clear t0 t3
      rintro T2 h6 ⟨rfl, t0, t3, t4, t42⟩
      refine W_cond (by (simp only [go_sem, ↓reduceIte, Nat.reduceEqDiff, t42] <;> rfl)) (fun hc => W_exit ?_) (fun hc => W_skip ?_)
      · exact ⟨fun _ => ⟨rfl, t0, t3, u15, o5⟩, fun hne => absurd rfl hne⟩
      have hL1 : L.length ≤ 64 ∧ 1 ≤ L.length := by rw [Bool.or_eq_false_iff, decide_eq_false_iff_not, decide_eq_false_iff_not] at hc; omega
      (repeat refine W_seq ?_); refine W_region ?_
      (refine WO_val (by simp only [go_sem, ↓reduceIte, Nat.reduceEqDiff, Nat.reduceAdd, t0]; rfl) (by decide) ?_)
      refine WO_nil ?_; (repeat refine W_seq ?_)
      refine W_region ?_
      (refine WO_val (by simp only [go_sem, ↓reduceIte, Nat.reduceEqDiff, Nat.reduceAdd, t0]; rfl) (by decide) ?_)
      refine WO_nil ?_; (repeat refine W_seq ?_)
      refine W_region ?_
      (refine WO_val (by simp only [go_sem, ↓reduceIte, Nat.reduceEqDiff, Nat.reduceAdd, t0]; rfl) (by decide) ?_)
      refine WO_nil ?_; (repeat refine W_seq ?_)
      refine W_cut (fun T h7 => ∃ w7 M, T.get 0 = some (.one (.sl b 0 A.length c 3 false)) ∧ T.get 3 = some (.one (.i .i64 (k : Int))) ∧ T.get 4 = some (.one (.p h1.next 0)) ∧ T.get 5 = some (.one w7) ∧ T.get 6 = some (.one (.i .i64 (bases M))) ∧ Grown h7 w7 h6.next 46 5 (citems M) ∧ FillL M ∧ Up (· < h6.next) h6 h7 ∧ Ok h7) ?_ ?_
      · refine W_block (W_rounds (fun j T h7 => ∃ k2 w7 M, j = L.length - k2 ∧ k2 ≤ L.length ∧ M.length = k2 ∧ (∀ y ∈ M, ∃ m g : Int, (0 ≤ m ∧ m < 100) ∧ (0 ≤ g ∧ g < 9) ∧ y = ⟨64 * (1 + m), 0, -1, 1 + g, 1⟩) ∧ T.get 0 = some (.one (.sl b 0 A.length c 3 false)) ∧ T.get 3 = some (.one (.i .i64 (k : Int))) ∧ T.get 4 = some (.one (.p h1.next 0)) ∧ T.get 5 = some (.one w7) ∧ T.get 6 = some (.one (.i .i64 (bases M))) ∧ T.get 7 = some (.one (.i .i64 (k2 : Int))) ∧ Grown h7 w7 h6.next 46 5 (citems M) ∧ Up (· < h6.next) h6 h7 ∧ Ok h7) ?_ L.length _ _ ⟨0, .sl0, [], rfl, by omega, rfl, by simp, by (simp only [go_sem, ↓reduceIte, Nat.reduceEqDiff, t0] <;> first | rfl | simp), by (simp only [go_sem, ↓reduceIte, Nat.reduceEqDiff, t3] <;> first | rfl | simp), by (simp only [go_sem, ↓reduceIte, Nat.reduceEqDiff, t4] <;> first | rfl | simp), by (simp only [go_sem, ↓reduceIte, Nat.reduceEqDiff] <;> first | rfl | simp), by (simp only [go_sem, ↓reduceIte, Nat.reduceEqDiff] <;> first | rfl | simp), by (simp only [go_sem, ↓reduceIte, Nat.reduceEqDiff] <;> first | rfl | simp), .nil, .refl _ _, o5⟩)
        clear t0 t3 t4 t42
        rintro j T2 h7 ⟨k2, w7, M, rfl, hk2, hMl, hMi, t0, t3, t4, t5, t6, t7, g7, u7, o7⟩
        have hn7 := u7.next
        have c7 := u7.cells (show h1.next < h6.next by omega) c5
        have hi7 := hi5.upLt u7
        (repeat refine W_seq ?_); refine W_region ?_
        iterate 2 (refine WO_val (by simp only [go_sem, ↓reduceIte, Nat.reduceEqDiff, Nat.reduceAdd, t4, t7]; rfl) (by decide) ?_)
        (refine WO_val (by simp (disch := first | omega | simp) only [go_sem, ↓reduceIte, Nat.reduceEqDiff, Nat.reduceAdd, c7.row, t4, t7]; rfl) (by decide) ?_)
        refine WO_val (hi7.len (by (simp only [go_sem, ↓reduceIte, Nat.reduceEqDiff] <;> rfl))) (by decide) ?_
        (refine WO_val (ex_bin (by simp only [go_sem, ↓reduceIte, Nat.reduceEqDiff, t7]; rfl) (by simp only [go_sem, ↓reduceIte, Nat.reduceEqDiff, t7]; rfl) in_lss) (by decide) ?_)
        refine WO_nil ?_; (repeat refine W_seq ?_)
        refine W_cond (by (simp only [go_sem, ↓reduceIte, Nat.reduceEqDiff] <;> rfl)) (fun hlt2 => W_skip ?_) (fun hge2 => W_exit ?_)
        · have hlt2 : k2 < L.length := by
            have : (k2 : Int) < (L.length : Int) := by simpa using hlt2
            omega
          obtain ⟨y, hy⟩ : ∃ y, L[k2]? = some y := ⟨_, List.getElem?_eq_getElem hlt2⟩
          obtain ⟨bs, os, cs, exs, rfl, hbs, hrows⟩ : ∃ b o c ex, s = .sl b o L.length c 5 ex ∧ b < h6.next ∧ ∀ k x, L[k]? = some x → h6.row b (o + k * 5) 5 = some x.cells := by
            rcases hi5 with ⟨rfl, _⟩ | q
            · simp at hlt2
            · exact q
          have r2 : h7.row bs (os + k2 * 5) 5 = some y.cells := by rw [u7.row hbs]; exact hrows k2 y hy
          have r20 : h7.row bs (os + k2 * 5 + 0) 1 = some [.i .i64 y.base] := row_sub (j := 0) r2 rfl
          have r23 : h7.row bs (os + k2 * 5 + 3) 1 = some [.i .i64 y.gr] := row_sub r2 rfl
          have hbd := bases_bd M hMi
          repeat refine W_seq ?_
          refine W_block ?_
          (repeat refine W_seq ?_); refine W_region ?_
          (refine WO_val (by simp only [go_sem, ↓reduceIte, Nat.reduceEqDiff, Nat.reduceAdd, t4, t7]; rfl) (by decide) ?_)
          (refine WO_val (by simp (disch := first | omega | simp) only [go_sem, ↓reduceIte, Nat.reduceEqDiff, Nat.reduceAdd, c7.row, r20, t4, t7]; rfl) (by decide) ?_)
          (refine WO_val (by simp only [go_sem, ↓reduceIte, Nat.reduceEqDiff, Nat.reduceAdd, t4, t7]; rfl) (by decide) ?_)
          (refine WO_val (by simp (disch := first | omega | simp) only [go_sem, ↓reduceIte, Nat.reduceEqDiff, Nat.reduceAdd, t4, t7]; rfl) (by decide) ?_)
          (refine WO_val (by simp only [go_sem, ↓reduceIte, Nat.reduceEqDiff, Nat.reduceAdd, t4, t7]; rfl) (by decide) ?_)
          (refine WO_val (by simp (disch := first | omega | simp) only [go_sem, ↓reduceIte, Nat.reduceEqDiff, Nat.reduceAdd, c7.row, r20, t4, t7]; rfl) (by decide) ?_)
          refine WO_fn (by (simp only [go_sem, ↓reduceIte, Nat.reduceEqDiff] <;> rfl)) (by simp) (by decide) ((lawWithin_fn hs21 (n := 100) (by omega)).mono ?_)
          rintro _ h7 ⟨⟨m, rfl, hm0, hm1⟩, rfl⟩
          (refine WO_val (ex_bin (by simp only [go_sem, ↓reduceIte, Nat.reduceEqDiff]; rfl) (by simp only [go_sem, ↓reduceIte, Nat.reduceEqDiff]; rfl) in_add) (by decide) ?_; (try rw [wrap_id (by omega) (by omega)]))
          (refine WO_val (ex_bin (by simp only [go_sem, ↓reduceIte, Nat.reduceEqDiff]; rfl) (by simp only [go_sem, ↓reduceIte, Nat.reduceEqDiff]; rfl) in_mul) (by decide) ?_; (try rw [wrap_id (by omega) (by omega)]))
          (refine WO_val (by simp only [go_sem, ↓reduceIte, Nat.reduceEqDiff, Nat.reduceAdd]; rfl) (by decide) ?_)
          refine WO_nil ?_; (repeat refine W_seq ?_)
          refine W_region ?_
          iterate 3 (refine WO_val (by simp only [go_sem, ↓reduceIte, Nat.reduceEqDiff, Nat.reduceAdd, t4, t5, t7]; rfl) (by decide) ?_)
          (refine WO_val (by simp (disch := first | omega | simp) only [go_sem, ↓reduceIte, Nat.reduceEqDiff, Nat.reduceAdd, c7.row, r23, t4, t5, t7]; rfl) (by decide) ?_)
          (refine WO_val (by simp only [go_sem, ↓reduceIte, Nat.reduceEqDiff, Nat.reduceAdd, t4, t5, t7]; rfl) (by decide) ?_)
          (refine WO_val (by simp (disch := first | omega | simp) only [go_sem, ↓reduceIte, Nat.reduceEqDiff, Nat.reduceAdd, t4, t5, t7]; rfl) (by decide) ?_)
          (refine WO_val (by simp only [go_sem, ↓reduceIte, Nat.reduceEqDiff, Nat.reduceAdd, t4, t5, t7]; rfl) (by decide) ?_)
          (refine WO_val (by simp (disch := first | omega | simp) only [go_sem, ↓reduceIte, Nat.reduceEqDiff, Nat.reduceAdd, c7.row, r23, t4, t5, t7]; rfl) (by decide) ?_)
          refine WO_fn (by (simp only [go_sem, ↓reduceIte, Nat.reduceEqDiff] <;> rfl)) (by simp) (by decide) ((lawWithin_fn hs21 (n := 9) (by omega)).mono ?_)
          rintro _ h7 ⟨⟨g, rfl, hg0, hg1⟩, rfl⟩
          (refine WO_val (ex_bin (by simp only [go_sem, ↓reduceIte, Nat.reduceEqDiff]; rfl) (by simp only [go_sem, ↓reduceIte, Nat.reduceEqDiff]; rfl) in_add) (by decide) ?_; (try rw [wrap_id (by omega) (by omega)]))
          refine WO_val (bd46 (by (simp only [go_sem, ↓reduceIte, Nat.reduceEqDiff] <;> rfl)) (by (simp only [go_sem, ↓reduceIte, Nat.reduceEqDiff] <;> rfl)) (by (simp only [go_sem, ↓reduceIte, Nat.reduceEqDiff] <;> rfl)) (by (simp only [go_sem, ↓reduceIte, Nat.reduceEqDiff] <;> rfl))) (by decide) ?_
          refine WO_bsN wantB_none el39 zb46 (by simp only [evParts, go_sem, ↓reduceIte, Nat.reduceEqDiff]; rfl) rfl (cells := (mkI m g).cells) rfl o7 (by decide) fun h12 n12 => ?_
          have e12 := n12.next
          have g12 := g7.up n12.up fun q hq => (g7.lt hq).2
          refine WO_app (n0 := h6.next) ap39_39 (by (simp only [go_sem, ↓reduceIte, Nat.reduceEqDiff, t5] <;> rfl)) (by (simp only [go_sem, ↓reduceIte, Nat.reduceEqDiff] <;> rfl)) n12.cells rfl g12 n12.ok (by omega) (m := k2) (by rw [citems_length]; omega) (by omega) (by omega) (by decide) fun w13 h13 g13 => ?_
          (refine WO_val (by simp only [go_sem, ↓reduceIte, Nat.reduceEqDiff, Nat.reduceAdd]; rfl) (by decide) ?_)
          refine WO_nil ?_; (repeat refine W_seq ?_)
          refine W_region ?_
          iterate 2 (refine WO_val (by simp only [go_sem, ↓reduceIte, Nat.reduceEqDiff, Nat.reduceAdd, t6]; rfl) (by decide) ?_)
          (refine WO_val (ex_bin (by simp only [go_sem, ↓reduceIte, Nat.reduceEqDiff, t6]; rfl) (by simp only [go_sem, ↓reduceIte, Nat.reduceEqDiff, t6]; rfl) in_add) (by decide) ?_; (try rw [wrap_id (by omega) (by omega)]))
          (refine WO_val (by simp only [go_sem, ↓reduceIte, Nat.reduceEqDiff, Nat.reduceAdd, t6]; rfl) (by decide) ?_)
          refine WO_nil ?_; (repeat refine W_seq ?_)
          refine W_region ?_
          (refine WO_val (by simp only [go_sem, ↓reduceIte, Nat.reduceEqDiff, Nat.reduceAdd, t7]; rfl) (by decide) ?_)
          (refine WO_val (ex_bin (by simp only [go_sem, ↓reduceIte, Nat.reduceEqDiff, t7]; rfl) (by simp only [go_sem, ↓reduceIte, Nat.reduceEqDiff, t7]; rfl) in_add) (by decide) ?_; (try rw [wrap_id (by omega) (by omega)]))
          (refine WO_val (by simp only [go_sem, ↓reduceIte, Nat.reduceEqDiff, Nat.reduceAdd, t7]; rfl) (by decide) ?_)
          refine WO_nil ⟨L.length - (k2 + 1), by omega, k2 + 1, w13, M ++ [mkI m g], rfl, hlt2, by simp [hMl], ?_, by (simp only [go_sem, ↓reduceIte, Nat.reduceEqDiff, t0] <;> first | rfl | simp), by (simp only [go_sem, ↓reduceIte, Nat.reduceEqDiff, t3] <;> first | rfl | simp), by (simp only [go_sem, ↓reduceIte, Nat.reduceEqDiff, t4] <;> first | rfl | simp), by (simp only [go_sem, ↓reduceIte, Nat.reduceEqDiff] <;> first | rfl | simp), ?_, by (simp only [go_sem, ↓reduceIte, Nat.reduceEqDiff] <;> first | rfl | simp), g13.grown.same ?_, (u7.trans (n12.up.mono fun b hb => by omega)).trans (g13.below g12 (by omega)), g13.ok⟩
          · intro z hz
            rcases List.mem_append.1 hz with hz | hz
            · exact hMi z hz
            · rw [List.mem_singleton.1 hz]
              exact ⟨m, g, ⟨hm0, hm1⟩, ⟨hg0, hg1⟩, rfl⟩
          · rw [bases_snoc]
            simp only [go_sem, ↓reduceIte, Nat.reduceEqDiff]
            rfl
          · rw [citems_append]; rfl
        · have hge2 : ¬ (k2 : Int) < (L.length : Int) := by simpa using hge2
          exact ⟨fun _ => ⟨rfl, w7, M, t0, t3, t4, t5, t6, g7, ⟨hMi, by omega, List.ne_nil_of_length_pos (by omega)⟩, u7, o7⟩, fun hne => absurd rfl hne⟩
      clear t0 t3 t4 t42
      rintro T2 h7 ⟨w7, M, t0, t3, t4, t5, t6, g7, hF, u7, o7⟩
      have hn7 := u7.next
      have c7 := u7.cells (show h1.next < h6.next by omega) c5
      have hi7 := g7.items
      have hbd := bases_bd M hF.it
      have hMp := List.length_pos_iff.2 hF.ne
      have hMl := hF.len
      (repeat refine W_seq ?_); refine W_region ?_
      (refine WO_val (by simp only [go_sem, ↓reduceIte, Nat.reduceEqDiff, Nat.reduceAdd, t4]; rfl) (by decide) ?_)
      (refine WO_val (by simp (disch := first | omega | simp) only [go_sem, ↓reduceIte, Nat.reduceEqDiff, Nat.reduceAdd, c7.row, t4]; rfl) (by decide) ?_)
      refine WO_fn (by (simp only [go_sem, ↓reduceIte, Nat.reduceEqDiff] <;> rfl)) (by simp) (by decide) ((lawWithin_fn hs21 (n := 10) (by omega)).mono ?_)
      rintro _ h7 ⟨⟨g, rfl, hg⟩, rfl⟩
      have hgl := gaps_bd hg (show 1 ≤ M.length by omega) hMl
      (refine WO_val (by simp only [go_sem, ↓reduceIte, Nat.reduceEqDiff, Nat.reduceAdd]; rfl) (by decide) ?_)
      refine WO_nil ?_; (repeat refine W_seq ?_)
      refine W_region ?_
      iterate 2 (refine WO_val (by simp only [go_sem, ↓reduceIte, Nat.reduceEqDiff, Nat.reduceAdd, t5]; rfl) (by decide) ?_)
      refine WO_val (hi7.len (by (simp only [go_sem, ↓reduceIte, Nat.reduceEqDiff] <;> rfl))) (by decide) ?_
      (refine WO_val (ex_bin (by simp only [go_sem, ↓reduceIte, Nat.reduceEqDiff]; rfl) (by simp only [go_sem, ↓reduceIte, Nat.reduceEqDiff]; rfl) in_sub) (by decide) ?_; (try rw [wrap_id (by omega) (by omega)]))
      (refine WO_val (ex_bin (by simp only [go_sem, ↓reduceIte, Nat.reduceEqDiff]; rfl) (by simp only [go_sem, ↓reduceIte, Nat.reduceEqDiff]; rfl) in_mul) (by decide) ?_; (try rw [wrap_id (by omega) (by omega)]))
      (refine WO_val (by simp only [go_sem, ↓reduceIte, Nat.reduceEqDiff, Nat.reduceAdd]; rfl) (by decide) ?_)
      refine WO_nil ?_; (repeat refine W_seq ?_)
      refine W_region ?_
      iterate 2 (refine WO_val (by simp only [go_sem, ↓reduceIte, Nat.reduceEqDiff, Nat.reduceAdd, t4, t6]; rfl) (by decide) ?_)
      iterate 2 (refine WO_val (ex_bin (by simp only [go_sem, ↓reduceIte, Nat.reduceEqDiff, t4, t6]; rfl) (by simp only [go_sem, ↓reduceIte, Nat.reduceEqDiff, t4, t6]; rfl) in_add) (by decide) ?_; (try rw [wrap_id (by omega) (by omega)]))
      (refine WO_val (by simp only [go_sem, ↓reduceIte, Nat.reduceEqDiff, Nat.reduceAdd, t4, t6]; rfl) (by decide) ?_)
      (refine WO_val (by simp (disch := first | omega | simp) only [go_sem, ↓reduceIte, Nat.reduceEqDiff, Nat.reduceAdd, c7.row, t4, t6]; rfl) (by decide) ?_)
      refine WO_fn (by (simp only [go_sem, ↓reduceIte, Nat.reduceEqDiff] <;> rfl)) (by simp) (by decide) ((lawWithin_fn hs21 (n := 100000) (by omega)).mono ?_)
      rintro _ h7 ⟨⟨r1', rfl, hr1⟩, rfl⟩
      (refine WO_val (ex_bin (by simp only [go_sem, ↓reduceIte, Nat.reduceEqDiff]; rfl) (by simp only [go_sem, ↓reduceIte, Nat.reduceEqDiff]; rfl) in_add) (by decide) ?_; (try rw [wrap_id (by omega) (by omega)]))
      (refine WO_val (by simp only [go_sem, ↓reduceIte, Nat.reduceEqDiff, Nat.reduceAdd]; rfl) (by decide) ?_)
      refine WO_nil ?_; (repeat refine W_seq ?_)
      refine W_region ?_
      have htd : (bases M).tdiv 2 = bases M / 2 := Int.tdiv_eq_ediv_of_nonneg (by omega)
      iterate 2 (refine WO_val (by simp only [go_sem, ↓reduceIte, Nat.reduceEqDiff, Nat.reduceAdd, t4, t6, htd]; rfl) (by decide) ?_)
      (refine WO_val (ex_bin (by simp only [go_sem, ↓reduceIte, Nat.reduceEqDiff, t4, t6, htd]; rfl) (by simp only [go_sem, ↓reduceIte, Nat.reduceEqDiff, t4, t6, htd]; rfl) in_add) (by decide) ?_; (try rw [wrap_id (by omega) (by omega)]))
      (refine WO_val (by simp only [go_sem, ↓reduceIte, Nat.reduceEqDiff, Nat.reduceAdd, t4, t6, htd]; rfl) (by decide) ?_)
      (refine WO_val (by simp (disch := first | omega | simp) only [go_sem, ↓reduceIte, Nat.reduceEqDiff, Nat.reduceAdd, c7.row, t4, t6, htd]; rfl) (by decide) ?_)
      (refine WO_val (by simp only [go_sem, ↓reduceIte, Nat.reduceEqDiff, Nat.reduceAdd, t4, t6, htd]; rfl) (by decide) ?_)
      (refine WO_val (ex_quo (by simp only [go_sem, ↓reduceIte, Nat.reduceEqDiff, t4, t6, htd]; rfl) (by simp only [go_sem, ↓reduceIte, Nat.reduceEqDiff, t4, t6, htd]; rfl) (by first | decide | assumption)) (by decide) ?_; (try rw [wrap_id (by omega) (by omega)]))
      refine WO_fn (by (simp only [go_sem, ↓reduceIte, Nat.reduceEqDiff, htd] <;> rfl)) (by simp) (by decide) ((lawWithin_fn hs21 (n := bases M / 2) (by omega)).mono ?_)
      rintro _ h7 ⟨⟨r2', rfl, hr2⟩, rfl⟩
      (refine WO_val (ex_bin (by simp only [go_sem, ↓reduceIte, Nat.reduceEqDiff]; rfl) (by simp only [go_sem, ↓reduceIte, Nat.reduceEqDiff]; rfl) in_sub) (by decide) ?_; (try rw [wrap_id (by omega) (by omega)]))
      (refine WO_val (by simp only [go_sem, ↓reduceIte, Nat.reduceEqDiff, Nat.reduceAdd]; rfl) (by decide) ?_)
      refine WO_nil ?_; (repeat refine W_seq ?_)
      refine W_region ?_
      (refine WO_val (by simp only [go_sem, ↓reduceIte, Nat.reduceEqDiff, Nat.reduceAdd]; rfl) (by decide) ?_)
      refine WO_nil ?_; (repeat refine W_seq ?_)
      obtain ⟨X0, k0⟩ := room_grow hF hg hr1
      obtain ⟨X1, k1⟩ := room_shrink hF hg hr2
      generalize bases M + g * ((M.length : Int) - 1) + 1 + r1' = R0 at k0 ⊢
      generalize g * ((M.length : Int) - 1) + bases M - r2' = R1 at k1 ⊢
      generalize hgg : g * ((M.length : Int) - 1) = gl at hgl ⊢
      refine W_block (W_rounds (fun j T h8 => ∃ t : Nat, j = 2 - t ∧ t ≤ 2 ∧ T.get 0 = some (.one (.sl b 0 A.length c 3 false)) ∧ T.get 3 = some (.one (.i .i64 (k : Int))) ∧ T.get 5 = some (.one w7) ∧ T.get 9 = some (.one (.i .i64 g)) ∧ T.get 10 = some (.one (.i .i64 gl)) ∧ T.get 11 = some (.one (.i .i64 R0)) ∧ T.get 12 = some (.one (.i .i64 R1)) ∧ T.get 13 = some (.one (.i .i64 (t : Int))) ∧ Up (· < h7.next) h7 h8 ∧ Ok h8) ?_ 2 _ _ ⟨0, rfl, by omega, by (simp only [go_sem, ↓reduceIte, Nat.reduceEqDiff, t0] <;> first | rfl | simp), by (simp only [go_sem, ↓reduceIte, Nat.reduceEqDiff, t3] <;> first | rfl | simp), by (simp only [go_sem, ↓reduceIte, Nat.reduceEqDiff, t5] <;> first | rfl | simp), by (simp only [go_sem, ↓reduceIte, Nat.reduceEqDiff] <;> first | rfl | simp), by (simp only [go_sem, ↓reduceIte, Nat.reduceEqDiff] <;> first | rfl | simp), by (simp only [go_sem, ↓reduceIte, Nat.reduceEqDiff] <;> first | rfl | simp), by (simp only [go_sem, ↓reduceIte, Nat.reduceEqDiff] <;> first | rfl | simp), by (simp only [go_sem, ↓reduceIte, Nat.reduceEqDiff] <;> first | rfl | simp), .refl _ _, o7⟩)
      clear t0 t3 t4 t5 t6
      rintro j T2 h8 ⟨t, rfl, ht, t0, t3, t5, t9, t10, t11, t12, t13, u8, o8⟩
      have hn8 := u8.next
      (repeat refine W_seq ?_); refine W_region ?_
      (refine WO_val (by simp only [go_sem, ↓reduceIte, Nat.reduceEqDiff, Nat.reduceAdd, t13]; rfl) (by decide) ?_)
      (refine WO_val (ex_bin (by simp only [go_sem, ↓reduceIte, Nat.reduceEqDiff, t13]; rfl) (by simp only [go_sem, ↓reduceIte, Nat.reduceEqDiff, t13]; rfl) in_lss) (by decide) ?_)
      refine WO_nil ?_; (repeat refine W_seq ?_)
      refine W_cond (by (simp only [go_sem, ↓reduceIte, Nat.reduceEqDiff] <;> rfl)) (fun hlt2 => W_skip ?_) (fun hge2 => W_exit ?_)
      · have ht2 : t < 2 := by simp at hlt2; omega
        obtain ⟨R, X, hR, kR⟩ : ∃ R X, [R0, R1][t]? = some R ∧ Room M g t R X := by
          rcases (show t = 0 ∨ t = 1 by omega) with rfl | rfl
          · exact ⟨R0, X0, rfl, k0⟩
          · exact ⟨R1, X1, rfl, k1⟩
        have hsum := kR.sum
        rw [hgg] at hsum
        repeat refine W_seq ?_
        refine W_block ?_
        (repeat refine W_seq ?_); refine W_region ?_
        iterate 2 (refine WO_val (by simp only [go_sem, ↓reduceIte, Nat.reduceEqDiff, Nat.reduceAdd, t11, t12]; rfl) (by decide) ?_)
        refine WO_bsN wantB_none el23 ze23 (by simp only [evParts, go_sem, ↓reduceIte, Nat.reduceEqDiff]; rfl) rfl (cells := nums [R0, R1]) rfl o8 (by decide) fun h9 n9 => ?_
        have e9 := n9.next
        have rR : h9.row h8.next t 1 = some [.i .i64 R] := n9.cells.at1 (nums_get hR)
        (refine WO_val (by simp only [go_sem, ↓reduceIte, Nat.reduceEqDiff, Nat.reduceAdd, t13]; rfl) (by decide) ?_)
        (refine WO_val (by simp (disch := first | omega | simp) only [go_sem, ↓reduceIte, Nat.reduceEqDiff, Nat.reduceAdd, t13]; rfl) (by decide) ?_)
        (refine WO_val (by simp (disch := first | omega | simp) only [go_sem, ↓reduceIte, Nat.reduceEqDiff, Nat.reduceAdd, rR, t13]; rfl) (by decide) ?_)
        (refine WO_val (by simp only [go_sem, ↓reduceIte, Nat.reduceEqDiff, Nat.reduceAdd, t13]; rfl) (by decide) ?_)
        refine WO_nil ?_; (repeat refine W_seq ?_)
        have hi9 := (hi7.upLt u8).upLt n9.up
        refine W_region ?_
        iterate 3 (refine WO_val (by simp only [go_sem, ↓reduceIte, Nat.reduceEqDiff, Nat.reduceAdd, t5, t9]; rfl) (by decide) ?_)
        refine WO_fn (by (simp only [go_sem, ↓reduceIte, Nat.reduceEqDiff, t5, t9] <;> rfl)) (by simp) (by decide) ((resolve_fn hs hs1 hs2 n9.ok hi9).mono ?_)
        rintro r h10 ⟨x, rfl, g10, u10, o10⟩
        have hr : resOk M g R = true := resOk_iff.2 (hF.line hg kR.room)
        rw [hr, if_pos rfl, kR.eq] at g10
        simp only [hr, if_true]
        have hn10 := u10.next
        have hi10 := hi9.upLt u10
        iterate 5 (refine WO_val (by simp only [go_sem, ↓reduceIte, Nat.reduceEqDiff, Nat.reduceAdd]; rfl) (by decide) ?_)
        refine WO_nil ?_; (repeat refine W_seq ?_)
        refine W_region ?_
        (refine WO_val (by simp only [go_sem, ↓reduceIte, Nat.reduceEqDiff, Nat.reduceAdd]; rfl) (by decide) ?_)
        refine WO_fn (by (simp only [go_sem, ↓reduceIte, Nat.reduceEqDiff] <;> rfl)) (by simp) (by decide) ((num_fn hs3).mono ?_)
        rintro r h10 ⟨rfl, rfl⟩
        (refine WO_val (ex_bin (by simp only [go_sem, ↓reduceIte, Nat.reduceEqDiff, t5]; rfl) (by simp only [go_sem, ↓reduceIte, Nat.reduceEqDiff, t5]; rfl) in_neq) (by decide) ?_)
        (refine WO_val (by simp only [go_sem, ↓reduceIte, Nat.reduceEqDiff, Nat.reduceAdd, t5]; rfl) (by decide) ?_)
        first | (refine WO_notG (wantB_no rfl rfl (by simp only [go_sem, ↓reduceIte, Nat.reduceEqDiff, t5]; rfl) rfl) (by decide) ?_) | (refine WO_valG (wantB_true rfl rfl (by simp only [go_sem, ↓reduceIte, Nat.reduceEqDiff, t5]; rfl) rfl) (by simp only [go_sem, ↓reduceIte, Nat.reduceEqDiff, Nat.reduceAdd, t5]; rfl) (by decide) ?_)
        refine WO_valG (wantB_true rfl rfl (by simp only [go_sem, ↓reduceIte, Nat.reduceEqDiff]; rfl) rfl) (g10.len (by (simp only [go_sem, ↓reduceIte, Nat.reduceEqDiff] <;> rfl))) (by decide) ?_
        first | (refine WO_notG (wantB_no rfl rfl (by simp only [go_sem, ↓reduceIte, Nat.reduceEqDiff, t5]; rfl) rfl) (by decide) ?_) | (refine WO_valG (wantB_true rfl rfl (by simp only [go_sem, ↓reduceIte, Nat.reduceEqDiff, t5]; rfl) rfl) (by simp only [go_sem, ↓reduceIte, Nat.reduceEqDiff, Nat.reduceAdd, t5]; rfl) (by decide) ?_)
        refine WO_valG (wantB_true rfl rfl (by simp only [go_sem, ↓reduceIte, Nat.reduceEqDiff]; rfl) rfl) (hi10.len (by (simp only [go_sem, ↓reduceIte, Nat.reduceEqDiff] <;> rfl))) (by decide) ?_
        first | (refine WO_notG (wantB_no rfl rfl (by simp only [go_sem, ↓reduceIte, Nat.reduceEqDiff]; rfl) rfl) (by decide) ?_) | (refine WO_valG (wantB_true rfl rfl (by simp only [go_sem, ↓reduceIte, Nat.reduceEqDiff]; rfl) rfl) (ex_bin (by simp only [go_sem, ↓reduceIte, Nat.reduceEqDiff]; rfl) (by simp only [go_sem, ↓reduceIte, Nat.reduceEqDiff]; rfl) in_neq) (by decide) ?_)
        (refine WO_val (by simp only [go_sem, ↓reduceIte, Nat.reduceEqDiff, Nat.reduceAdd]; rfl) (by decide) ?_)
        refine WO_nil ?_; (repeat refine W_seq ?_)
        refine W_cond (by (simp only [go_sem, ↓reduceIte, Nat.reduceEqDiff] <;> rfl)) (fun hc => by rw [nums_length, kR.len] at hc; simp at hc) (fun _ => W_skip ?_)
        clear hc
        obtain ⟨bs, os, cs, exs, rfl, hbs, hrows⟩ : ∃ b o c ex, w7 = .sl b o M.length c 5 ex ∧ b < h10.next ∧ ∀ k x, M[k]? = some x → h10.row b (o + k * 5) 5 = some x.cells := by
          rcases hi10 with ⟨rfl, _⟩ | q
          · exact absurd rfl hF.ne
          · exact q
        have hXl := kR.len
        obtain ⟨qx, rfl, cX, hqx⟩ : ∃ q, x = .sl q 0 X.length X.length 1 false ∧ Cells h10 q 3 (nums X) ∧ q < h10.next := by
          rcases g10 with ⟨q, _⟩ | ⟨q, n, rfl, p1, p2, p3, p4, p5, p6⟩
          · have := congrArg List.length q; rw [nums_length, List.length_nil] at this; omega
          · have : n = X.length := by rw [nums_length] at p2; omega
            subst this; exact ⟨q, rfl, p3, p6⟩
        have hXn : ∀ z ∈ X, 0 ≤ z := fun z hz => by
          obtain ⟨i, hi⟩ := List.mem_iff_getElem?.1 hz
          have hil := (List.getElem?_eq_some_iff.1 hi).1
          exact (kR.at_ i _ z (List.getElem?_eq_getElem (by omega)) hi).1.1
        have hRb := kR.room
        (repeat refine W_seq ?_); refine W_region ?_
        iterate 2 (refine WO_val (by simp only [go_sem, ↓reduceIte, Nat.reduceEqDiff, Nat.reduceAdd, t10]; rfl) (by decide) ?_)
        refine WO_nil ?_; (repeat refine W_seq ?_)
        refine W_region ?_
        (refine WO_val (by simp only [go_sem, ↓reduceIte, Nat.reduceEqDiff, Nat.reduceAdd]; rfl) (by decide) ?_)
        refine WO_nil ?_; (repeat refine W_seq ?_)
        refine W_cut (fun T h11 => h11 = h10 ∧ T.get 0 = some (.one (.sl b 0 A.length c 3 false)) ∧ T.get 3 = some (.one (.i .i64 (k : Int))) ∧ T.get 5 = some (.one (.sl bs os M.length cs 5 exs)) ∧ T.get 9 = some (.one (.i .i64 g)) ∧ T.get 10 = some (.one (.i .i64 gl)) ∧ T.get 11 = some (.one (.i .i64 R0)) ∧ T.get 12 = some (.one (.i .i64 R1)) ∧ T.get 13 = some (.one (.i .i64 (t : Int))) ∧ T.get 14 = some (.one (.i .i64 R)) ∧ T.get 17 = some (.one (.i .i64 R))) ?_ ?_
        · refine W_block (W_rounds (fun j T h11 => ∃ k2, j = X.length - k2 ∧ k2 ≤ X.length ∧ h11 = h10 ∧ T.get 0 = some (.one (.sl b 0 A.length c 3 false)) ∧ T.get 3 = some (.one (.i .i64 (k : Int))) ∧ T.get 5 = some (.one (.sl bs os M.length cs 5 exs)) ∧ T.get 9 = some (.one (.i .i64 g)) ∧ T.get 10 = some (.one (.i .i64 gl)) ∧ T.get 11 = some (.one (.i .i64 R0)) ∧ T.get 12 = some (.one (.i .i64 R1)) ∧ T.get 13 = some (.one (.i .i64 (t : Int))) ∧ T.get 14 = some (.one (.i .i64 R)) ∧ T.get 15 = some (.one (.sl qx 0 X.length X.length 1 false)) ∧ T.get 17 = some (.one (.i .i64 (gl + Lf.sumI (X.take k2)))) ∧ T.get 18 = some (.one (.i .i64 (k2 : Int)))) ?_ X.length _ _ ⟨0, rfl, by omega, rfl, by (simp only [go_sem, ↓reduceIte, Nat.reduceEqDiff, t0] <;> first | rfl | simp), by (simp only [go_sem, ↓reduceIte, Nat.reduceEqDiff, t3] <;> first | rfl | simp), by (simp only [go_sem, ↓reduceIte, Nat.reduceEqDiff, t5] <;> first | rfl | simp), by (simp only [go_sem, ↓reduceIte, Nat.reduceEqDiff, t9] <;> first | rfl | simp), by (simp only [go_sem, ↓reduceIte, Nat.reduceEqDiff, t10] <;> first | rfl | simp), by (simp only [go_sem, ↓reduceIte, Nat.reduceEqDiff, t11] <;> first | rfl | simp), by (simp only [go_sem, ↓reduceIte, Nat.reduceEqDiff, t12] <;> first | rfl | simp), by (simp only [go_sem, ↓reduceIte, Nat.reduceEqDiff, t13] <;> first | rfl | simp), by (simp only [go_sem, ↓reduceIte, Nat.reduceEqDiff] <;> first | rfl | simp), by (simp only [go_sem, ↓reduceIte, Nat.reduceEqDiff] <;> first | rfl | simp), by simp only [List.take_zero, Lf.sumI, Int.add_zero]; simp only [go_sem, ↓reduceIte, Nat.reduceEqDiff], by (simp only [go_sem, ↓reduceIte, Nat.reduceEqDiff] <;> first | rfl | simp)⟩)
          clear t0 t3 t5 t9 t10 t11 t12 t13
          rintro j T3 h11 ⟨k2, rfl, hk2, rfl, t0, t3, t5, t9, t10, t11, t12, t13, t14, t15, t17, t18⟩
          have hpart := sumI_part hXn k2
          (repeat refine W_seq ?_); refine W_region ?_
          iterate 2 (refine WO_val (by simp only [go_sem, ↓reduceIte, Nat.reduceEqDiff, Nat.reduceAdd, t15, t18]; rfl) (by decide) ?_)
          (refine WO_val (ex_len el23 (by simp only [go_sem, ↓reduceIte, Nat.reduceEqDiff, t15, t18]; rfl)) (by decide) ?_)
          (refine WO_val (ex_bin (by simp only [go_sem, ↓reduceIte, Nat.reduceEqDiff, t15, t18]; rfl) (by simp only [go_sem, ↓reduceIte, Nat.reduceEqDiff, t15, t18]; rfl) in_lss) (by decide) ?_)
          refine WO_nil ?_; (repeat refine W_seq ?_)
          refine W_cond (by (simp only [go_sem, ↓reduceIte, Nat.reduceEqDiff] <;> rfl)) (fun hlt3 => W_skip ?_) (fun hge3 => W_exit ?_)
          · have hlt3 : k2 < X.length := by simp at hlt3; omega
            obtain ⟨xk, hxk⟩ : ∃ xk, X[k2]? = some xk := ⟨_, List.getElem?_eq_getElem hlt3⟩
            have hkM : k2 < M.length := by omega
            obtain ⟨y, hy⟩ : ∃ y, M[k2]? = some y := ⟨_, List.getElem?_eq_getElem hkM⟩
            have hat := kR.at_ k2 y xk hy hxk
            have hsn := sumI_snoc hxk
            have hpart2 := sumI_part hXn (k2 + 1)
            have rX : h11.row qx k2 1 = some [.i .i64 xk] := cX.at1 (nums_get hxk)
            have rY : h11.row bs (os + k2 * 5 + 0) 1 = some [.i .i64 y.base] := row_sub (j := 0) (hrows k2 y hy) rfl
            repeat refine W_seq ?_
            refine W_block ?_
            (repeat refine W_seq ?_); refine W_region ?_
            iterate 3 (refine WO_val (by simp only [go_sem, ↓reduceIte, Nat.reduceEqDiff, Nat.reduceAdd, t15, t17, t18]; rfl) (by decide) ?_)
            (refine WO_val (by simp (disch := first | omega | simp) only [go_sem, ↓reduceIte, Nat.reduceEqDiff, Nat.reduceAdd, t15, t17, t18]; rfl) (by decide) ?_)
            (refine WO_val (by simp (disch := first | omega | simp) only [go_sem, ↓reduceIte, Nat.reduceEqDiff, Nat.reduceAdd, rX, t15, t17, t18]; rfl) (by decide) ?_)
            (refine WO_val (ex_bin (by simp only [go_sem, ↓reduceIte, Nat.reduceEqDiff, t15, t17, t18]; rfl) (by simp only [go_sem, ↓reduceIte, Nat.reduceEqDiff, t15, t17, t18]; rfl) in_add) (by decide) ?_; (try rw [wrap_id (by omega) (by omega)]))
            (refine WO_val (by simp only [go_sem, ↓reduceIte, Nat.reduceEqDiff, Nat.reduceAdd, t15, t17, t18]; rfl) (by decide) ?_)
            refine WO_nil ?_; (repeat refine W_seq ?_)
            refine W_cut (fun T4 h12 => h12 = h11 ∧ T4.get 0 = some (.one (.sl b 0 A.length c 3 false)) ∧ T4.get 3 = some (.one (.i .i64 (k : Int))) ∧ T4.get 5 = some (.one (.sl bs os M.length cs 5 exs)) ∧ T4.get 9 = some (.one (.i .i64 g)) ∧ T4.get 10 = some (.one (.i .i64 gl)) ∧ T4.get 11 = some (.one (.i .i64 R0)) ∧ T4.get 12 = some (.one (.i .i64 R1)) ∧ T4.get 13 = some (.one (.i .i64 (t : Int))) ∧ T4.get 14 = some (.one (.i .i64 R)) ∧ T4.get 15 = some (.one (.sl qx 0 X.length X.length 1 false)) ∧ T4.get 17 = some (.one (.i .i64 (gl + Lf.sumI (X.take (k2 + 1))))) ∧ T4.get 18 = some (.one (.i .i64 (k2 : Int))) ∧ T4.get 176 = some (.one (.b false))) ?_ ?_
            · rw [hsn, ← Int.add_assoc]
              by_cases ht0 : t = 0
              · have d1 : decide ((t : Int) = 0) = true := decide_eq_true (by omega)
                have d2 : decide ((t : Int) = 1) = false := decide_eq_false (by omega)
                have d3 : decide (xk < y.base) = false := decide_eq_false (by have := hat.2.1 ht0; omega)
                refine W_drawn dr7_30 (by kernel_rfl) o10.floor ?_
                unfold dr7_30
                (refine WI_val rfl wantB_none rfl (by simp only [go_sem, ↓reduceIte, Nat.reduceEqDiff, Nat.reduceAdd, t5, t13, t15, t18, d1, d2, d3]; rfl) (by decide) ?_)
                (refine WI_val rfl wantB_none rfl (ex_bin (by simp only [go_sem, ↓reduceIte, Nat.reduceEqDiff, t5, t13, t15, t18, d1, d2, d3]; rfl) (by simp only [go_sem, ↓reduceIte, Nat.reduceEqDiff, t5, t13, t15, t18, d1, d2, d3]; rfl) in_eql) (by decide) ?_)
                (refine WI_val rfl wantB_none rfl (by simp only [go_sem, ↓reduceIte, Nat.reduceEqDiff, Nat.reduceAdd, t5, t13, t15, t18, d1, d2, d3]; rfl) (by decide) ?_)
                iterate 2 (first | (refine WI_notV rfl (wantB_no rfl rfl (by simp only [go_sem, ↓reduceIte, Nat.reduceEqDiff, t5, t13, t15, t18, d1, d2, d3]; rfl) rfl) (by decide) ?_) | (refine WI_val rfl (wantB_true rfl rfl (by simp only [go_sem, ↓reduceIte, Nat.reduceEqDiff, t5, t13, t15, t18, d1, d2, d3]; rfl) rfl) rfl (by simp only [go_sem, ↓reduceIte, Nat.reduceEqDiff, Nat.reduceAdd, t5, t13, t15, t18, d1, d2, d3]; rfl) (by decide) ?_))
                first | (refine WI_notV rfl (wantB_no rfl rfl (by simp only [go_sem, ↓reduceIte, Nat.reduceEqDiff, t5, t13, t15, t18, d1, d2, d3]; rfl) rfl) (by decide) ?_) | (refine WI_val rfl (wantB_true rfl rfl (by simp only [go_sem, ↓reduceIte, Nat.reduceEqDiff, t5, t13, t15, t18, d1, d2, d3]; rfl) rfl) rfl (by simp (disch := first | omega | simp) only [go_sem, ↓reduceIte, Nat.reduceEqDiff, Nat.reduceAdd, t5, t13, t15, t18, d1, d2, d3]; rfl) (by decide) ?_)
                first | (refine WI_notV rfl (wantB_no rfl rfl (by simp only [go_sem, ↓reduceIte, Nat.reduceEqDiff, t5, t13, t15, t18, d1, d2, d3]; rfl) rfl) (by decide) ?_) | (refine WI_ld rfl (wantB_true rfl rfl (by simp only [go_sem, ↓reduceIte, Nat.reduceEqDiff, t5, t13, t15, t18, d1, d2, d3]; rfl) rfl) (by simp only [go_sem, ↓reduceIte, Nat.reduceEqDiff, t5, t13, t15, t18, d1, d2, d3]; rfl) (by simp (disch := first | omega | simp) only [go_sem, ↓reduceIte, Nat.reduceEqDiff, Nat.reduceAdd, rX, rY]; rfl) (by (try simp only [cond_true, cond_false]); repeat (first | exact Off.nil | refine Off.seen rfl ?_ | refine Off.off (by omega) ?_)) (by decide) ?_)
                iterate 2 (first | (refine WI_notV rfl (wantB_no rfl rfl (by simp only [go_sem, ↓reduceIte, Nat.reduceEqDiff, t5, t13, t15, t18, d1, d2, d3]; rfl) rfl) (by decide) ?_) | (refine WI_val rfl (wantB_true rfl rfl (by simp only [go_sem, ↓reduceIte, Nat.reduceEqDiff, t5, t13, t15, t18, d1, d2, d3]; rfl) rfl) rfl (by simp only [go_sem, ↓reduceIte, Nat.reduceEqDiff, Nat.reduceAdd, t5, t13, t15, t18, d1, d2, d3]; rfl) (by decide) ?_))
                first | (refine WI_notV rfl (wantB_no rfl rfl (by simp only [go_sem, ↓reduceIte, Nat.reduceEqDiff, t5, t13, t15, t18, d1, d2, d3]; rfl) rfl) (by decide) ?_) | (refine WI_val rfl (wantB_true rfl rfl (by simp only [go_sem, ↓reduceIte, Nat.reduceEqDiff, t5, t13, t15, t18, d1, d2, d3]; rfl) rfl) rfl (by simp (disch := first | omega | simp) only [go_sem, ↓reduceIte, Nat.reduceEqDiff, Nat.reduceAdd, t5, t13, t15, t18, d1, d2, d3]; rfl) (by decide) ?_)
                first | (refine WI_notV rfl (wantB_no rfl rfl (by simp only [go_sem, ↓reduceIte, Nat.reduceEqDiff, t5, t13, t15, t18, d1, d2, d3]; rfl) rfl) (by decide) ?_) | (refine WI_val rfl (wantB_true rfl rfl (by simp only [go_sem, ↓reduceIte, Nat.reduceEqDiff, t5, t13, t15, t18, d1, d2, d3]; rfl) rfl) rfl (by simp only [go_sem, ↓reduceIte, Nat.reduceEqDiff, Nat.reduceAdd, t5, t13, t15, t18, d1, d2, d3]; rfl) (by decide) ?_)
                first | (refine WI_notV rfl (wantB_no rfl rfl (by simp only [go_sem, ↓reduceIte, Nat.reduceEqDiff, t5, t13, t15, t18, d1, d2, d3]; rfl) rfl) (by decide) ?_) | (refine WI_ld rfl (wantB_true rfl rfl (by simp only [go_sem, ↓reduceIte, Nat.reduceEqDiff, t5, t13, t15, t18, d1, d2, d3]; rfl) rfl) (by simp only [go_sem, ↓reduceIte, Nat.reduceEqDiff, t5, t13, t15, t18, d1, d2, d3]; rfl) (by simp (disch := first | omega | simp) only [go_sem, ↓reduceIte, Nat.reduceEqDiff, Nat.reduceAdd, rX, rY]; rfl) (by (try simp only [cond_true, cond_false]); repeat (first | exact Off.nil | refine Off.seen rfl ?_ | refine Off.off (by omega) ?_)) (by decide) ?_)
                first | (refine WI_notV rfl (wantB_no rfl rfl (by simp only [go_sem, ↓reduceIte, Nat.reduceEqDiff, t5, t13, t15, t18, d1, d2, d3]; rfl) rfl) (by decide) ?_) | (refine WI_val rfl (wantB_true rfl rfl (by simp only [go_sem, ↓reduceIte, Nat.reduceEqDiff, t5, t13, t15, t18, d1, d2, d3]; rfl) rfl) rfl (ex_bin (by simp only [go_sem, ↓reduceIte, Nat.reduceEqDiff, t5, t13, t15, t18, d1, d2, d3]; rfl) (by simp only [go_sem, ↓reduceIte, Nat.reduceEqDiff, t5, t13, t15, t18, d1, d2, d3]; rfl) in_lss) (by decide) ?_)
                iterate 2 (refine WI_val rfl wantB_none rfl (by simp only [go_sem, ↓reduceIte, Nat.reduceEqDiff, Nat.reduceAdd, t5, t13, t15, t18, d1, d2, d3]; rfl) (by decide) ?_)
                first | (refine WI_notV rfl (wantB_no rfl rfl (by simp only [go_sem, ↓reduceIte, Nat.reduceEqDiff, t5, t13, t15, t18, d1, d2, d3]; rfl) rfl) (by decide) ?_) | (refine WI_val rfl (wantB_true rfl rfl (by simp only [go_sem, ↓reduceIte, Nat.reduceEqDiff, t5, t13, t15, t18, d1, d2, d3]; rfl) rfl) rfl (by simp only [go_sem, ↓reduceIte, Nat.reduceEqDiff, Nat.reduceAdd, t5, t13, t15, t18, d1, d2, d3]; rfl) (by decide) ?_)
                first | (refine WI_notV rfl (wantB_no rfl rfl (by simp only [go_sem, ↓reduceIte, Nat.reduceEqDiff, t5, t13, t15, t18, d1, d2, d3]; rfl) rfl) (by decide) ?_) | (refine WI_val rfl (wantB_true rfl rfl (by simp only [go_sem, ↓reduceIte, Nat.reduceEqDiff, t5, t13, t15, t18, d1, d2, d3]; rfl) rfl) rfl (ex_bin (by simp only [go_sem, ↓reduceIte, Nat.reduceEqDiff, t5, t13, t15, t18, d1, d2, d3]; rfl) (by simp only [go_sem, ↓reduceIte, Nat.reduceEqDiff, t5, t13, t15, t18, d1, d2, d3]; rfl) in_eql) (by decide) ?_)
                iterate 3 (first | (refine WI_notV rfl (wantB_no rfl rfl (by simp only [go_sem, ↓reduceIte, Nat.reduceEqDiff, t5, t13, t15, t18, d1, d2, d3]; rfl) rfl) (by decide) ?_) | (refine WI_val rfl (wantB_true rfl rfl (by simp only [go_sem, ↓reduceIte, Nat.reduceEqDiff, t5, t13, t15, t18, d1, d2, d3]; rfl) rfl) rfl (by simp only [go_sem, ↓reduceIte, Nat.reduceEqDiff, Nat.reduceAdd, t5, t13, t15, t18, d1, d2, d3]; rfl) (by decide) ?_))
                first | (refine WI_notV rfl (wantB_no rfl rfl (by simp only [go_sem, ↓reduceIte, Nat.reduceEqDiff, t5, t13, t15, t18, d1, d2, d3]; rfl) rfl) (by decide) ?_) | (refine WI_val rfl (wantB_true rfl rfl (by simp only [go_sem, ↓reduceIte, Nat.reduceEqDiff, t5, t13, t15, t18, d1, d2, d3]; rfl) rfl) rfl (by simp (disch := first | omega | simp) only [go_sem, ↓reduceIte, Nat.reduceEqDiff, Nat.reduceAdd, t5, t13, t15, t18, d1, d2, d3]; rfl) (by decide) ?_)
                first | (refine WI_notV rfl (wantB_no rfl rfl (by simp only [go_sem, ↓reduceIte, Nat.reduceEqDiff, t5, t13, t15, t18, d1, d2, d3]; rfl) rfl) (by decide) ?_) | (refine WI_ld rfl (wantB_true rfl rfl (by simp only [go_sem, ↓reduceIte, Nat.reduceEqDiff, t5, t13, t15, t18, d1, d2, d3]; rfl) rfl) (by simp only [go_sem, ↓reduceIte, Nat.reduceEqDiff, t5, t13, t15, t18, d1, d2, d3]; rfl) (by simp (disch := first | omega | simp) only [go_sem, ↓reduceIte, Nat.reduceEqDiff, Nat.reduceAdd, rX, rY]; rfl) (by (try simp only [cond_true, cond_false]); repeat (first | exact Off.nil | refine Off.seen rfl ?_ | refine Off.off (by omega) ?_)) (by decide) ?_)
                iterate 2 (first | (refine WI_notV rfl (wantB_no rfl rfl (by simp only [go_sem, ↓reduceIte, Nat.reduceEqDiff, t5, t13, t15, t18, d1, d2, d3]; rfl) rfl) (by decide) ?_) | (refine WI_val rfl (wantB_true rfl rfl (by simp only [go_sem, ↓reduceIte, Nat.reduceEqDiff, t5, t13, t15, t18, d1, d2, d3]; rfl) rfl) rfl (by simp only [go_sem, ↓reduceIte, Nat.reduceEqDiff, Nat.reduceAdd, t5, t13, t15, t18, d1, d2, d3]; rfl) (by decide) ?_))
                first | (refine WI_notV rfl (wantB_no rfl rfl (by simp only [go_sem, ↓reduceIte, Nat.reduceEqDiff, t5, t13, t15, t18, d1, d2, d3]; rfl) rfl) (by decide) ?_) | (refine WI_val rfl (wantB_true rfl rfl (by simp only [go_sem, ↓reduceIte, Nat.reduceEqDiff, t5, t13, t15, t18, d1, d2, d3]; rfl) rfl) rfl (by simp (disch := first | omega | simp) only [go_sem, ↓reduceIte, Nat.reduceEqDiff, Nat.reduceAdd, t5, t13, t15, t18, d1, d2, d3]; rfl) (by decide) ?_)
                first | (refine WI_notV rfl (wantB_no rfl rfl (by simp only [go_sem, ↓reduceIte, Nat.reduceEqDiff, t5, t13, t15, t18, d1, d2, d3]; rfl) rfl) (by decide) ?_) | (refine WI_val rfl (wantB_true rfl rfl (by simp only [go_sem, ↓reduceIte, Nat.reduceEqDiff, t5, t13, t15, t18, d1, d2, d3]; rfl) rfl) rfl (by simp only [go_sem, ↓reduceIte, Nat.reduceEqDiff, Nat.reduceAdd, t5, t13, t15, t18, d1, d2, d3]; rfl) (by decide) ?_)
                first | (refine WI_notV rfl (wantB_no rfl rfl (by simp only [go_sem, ↓reduceIte, Nat.reduceEqDiff, t5, t13, t15, t18, d1, d2, d3]; rfl) rfl) (by decide) ?_) | (refine WI_ld rfl (wantB_true rfl rfl (by simp only [go_sem, ↓reduceIte, Nat.reduceEqDiff, t5, t13, t15, t18, d1, d2, d3]; rfl) rfl) (by simp only [go_sem, ↓reduceIte, Nat.reduceEqDiff, t5, t13, t15, t18, d1, d2, d3]; rfl) (by simp (disch := first | omega | simp) only [go_sem, ↓reduceIte, Nat.reduceEqDiff, Nat.reduceAdd, rX, rY]; rfl) (by (try simp only [cond_true, cond_false]); repeat (first | exact Off.nil | refine Off.seen rfl ?_ | refine Off.off (by omega) ?_)) (by decide) ?_)
                first | (refine WI_notV rfl (wantB_no rfl rfl (by simp only [go_sem, ↓reduceIte, Nat.reduceEqDiff, t5, t13, t15, t18, d1, d2, d3]; rfl) rfl) (by decide) ?_) | (refine WI_val rfl (wantB_true rfl rfl (by simp only [go_sem, ↓reduceIte, Nat.reduceEqDiff, t5, t13, t15, t18, d1, d2, d3]; rfl) rfl) rfl (ex_bin (by simp only [go_sem, ↓reduceIte, Nat.reduceEqDiff, t5, t13, t15, t18, d1, d2, d3]; rfl) (by simp only [go_sem, ↓reduceIte, Nat.reduceEqDiff, t5, t13, t15, t18, d1, d2, d3]; rfl) in_gtr) (by decide) ?_)
                iterate 3 (first | (refine WI_notV rfl (wantB_no rfl rfl (by simp only [go_sem, ↓reduceIte, Nat.reduceEqDiff, t5, t13, t15, t18, d1, d2, d3]; rfl) rfl) (by decide) ?_) | (refine WI_val rfl (wantB_true rfl rfl (by simp only [go_sem, ↓reduceIte, Nat.reduceEqDiff, t5, t13, t15, t18, d1, d2, d3]; rfl) rfl) rfl (by simp only [go_sem, ↓reduceIte, Nat.reduceEqDiff, Nat.reduceAdd, t5, t13, t15, t18, d1, d2, d3]; rfl) (by decide) ?_))
                first | (refine WI_notV rfl (wantB_no rfl rfl (by simp only [go_sem, ↓reduceIte, Nat.reduceEqDiff, t5, t13, t15, t18, d1, d2, d3]; rfl) rfl) (by decide) ?_) | (refine WI_val rfl (wantB_true rfl rfl (by simp only [go_sem, ↓reduceIte, Nat.reduceEqDiff, t5, t13, t15, t18, d1, d2, d3]; rfl) rfl) rfl (by simp (disch := first | omega | simp) only [go_sem, ↓reduceIte, Nat.reduceEqDiff, Nat.reduceAdd, t5, t13, t15, t18, d1, d2, d3]; rfl) (by decide) ?_)
                first | (refine WI_notV rfl (wantB_no rfl rfl (by simp only [go_sem, ↓reduceIte, Nat.reduceEqDiff, t5, t13, t15, t18, d1, d2, d3]; rfl) rfl) (by decide) ?_) | (refine WI_ld rfl (wantB_true rfl rfl (by simp only [go_sem, ↓reduceIte, Nat.reduceEqDiff, t5, t13, t15, t18, d1, d2, d3]; rfl) rfl) (by simp only [go_sem, ↓reduceIte, Nat.reduceEqDiff, t5, t13, t15, t18, d1, d2, d3]; rfl) (by simp (disch := first | omega | simp) only [go_sem, ↓reduceIte, Nat.reduceEqDiff, Nat.reduceAdd, rX, rY]; rfl) (by (try simp only [cond_true, cond_false]); repeat (first | exact Off.nil | refine Off.seen rfl ?_ | refine Off.off (by omega) ?_)) (by decide) ?_)
                first | (refine WI_notV rfl (wantB_no rfl rfl (by simp only [go_sem, ↓reduceIte, Nat.reduceEqDiff, t5, t13, t15, t18, d1, d2, d3]; rfl) rfl) (by decide) ?_) | (refine WI_val rfl (wantB_true rfl rfl (by simp only [go_sem, ↓reduceIte, Nat.reduceEqDiff, t5, t13, t15, t18, d1, d2, d3]; rfl) rfl) rfl (ex_bin (by simp only [go_sem, ↓reduceIte, Nat.reduceEqDiff, t5, t13, t15, t18, d1, d2, d3]; rfl) (by simp only [go_sem, ↓reduceIte, Nat.reduceEqDiff, t5, t13, t15, t18, d1, d2, d3]; rfl) in_lss) (by decide) ?_)
                iterate 2 (first | (refine WI_notV rfl (wantB_no rfl rfl (by simp only [go_sem, ↓reduceIte, Nat.reduceEqDiff, t5, t13, t15, t18, d1, d2, d3]; rfl) rfl) (by decide) ?_) | (refine WI_val rfl (wantB_true rfl rfl (by simp only [go_sem, ↓reduceIte, Nat.reduceEqDiff, t5, t13, t15, t18, d1, d2, d3]; rfl) rfl) rfl (by simp only [go_sem, ↓reduceIte, Nat.reduceEqDiff, Nat.reduceAdd, t5, t13, t15, t18, d1, d2, d3]; rfl) (by decide) ?_))
                (refine WI_val rfl wantB_none rfl (by simp only [go_sem, ↓reduceIte, Nat.reduceEqDiff, Nat.reduceAdd, t5, t13, t15, t18, d1, d2, d3]; rfl) (by decide) ?_)
                exact WI_nil ⟨rfl, rfl, by (simp only [go_sem, ↓reduceIte, Nat.reduceEqDiff, t0] <;> first | rfl | simp), by (simp only [go_sem, ↓reduceIte, Nat.reduceEqDiff, t3] <;> first | rfl | simp), by (simp only [go_sem, ↓reduceIte, Nat.reduceEqDiff, t5] <;> first | rfl | simp), by (simp only [go_sem, ↓reduceIte, Nat.reduceEqDiff, t9] <;> first | rfl | simp), by (simp only [go_sem, ↓reduceIte, Nat.reduceEqDiff, t10] <;> first | rfl | simp), by (simp only [go_sem, ↓reduceIte, Nat.reduceEqDiff, t11] <;> first | rfl | simp), by (simp only [go_sem, ↓reduceIte, Nat.reduceEqDiff, t12] <;> first | rfl | simp), by (simp only [go_sem, ↓reduceIte, Nat.reduceEqDiff, t13] <;> first | rfl | simp), by (simp only [go_sem, ↓reduceIte, Nat.reduceEqDiff, t14] <;> first | rfl | simp), by (simp only [go_sem, ↓reduceIte, Nat.reduceEqDiff, t15] <;> first | rfl | simp), by (simp only [go_sem, ↓reduceIte, Nat.reduceEqDiff] <;> first | rfl | simp), by (simp only [go_sem, ↓reduceIte, Nat.reduceEqDiff, t18] <;> first | rfl | simp), by (simp only [go_sem, ↓reduceIte, Nat.reduceEqDiff] <;> first | rfl | simp)⟩
              · have d1 : decide ((t : Int) = 0) = false := decide_eq_false (by omega)
                have d2 : decide ((t : Int) = 1) = true := decide_eq_true (by omega)
                have d3 : decide (y.base < xk) = false := decide_eq_false (by have := hat.2.2 (by omega); omega)
                have d4 : decide (xk < 0) = false := decide_eq_false (by omega)
                refine W_drawn dr7_30 (by kernel_rfl) o10.floor ?_
                unfold dr7_30
                (refine WI_val rfl wantB_none rfl (by simp only [go_sem, ↓reduceIte, Nat.reduceEqDiff, Nat.reduceAdd, t5, t13, t15, t18, d1, d2, d3, d4]; rfl) (by decide) ?_)
                (refine WI_val rfl wantB_none rfl (ex_bin (by simp only [go_sem, ↓reduceIte, Nat.reduceEqDiff, t5, t13, t15, t18, d1, d2, d3, d4]; rfl) (by simp only [go_sem, ↓reduceIte, Nat.reduceEqDiff, t5, t13, t15, t18, d1, d2, d3, d4]; rfl) in_eql) (by decide) ?_)
                (refine WI_val rfl wantB_none rfl (by simp only [go_sem, ↓reduceIte, Nat.reduceEqDiff, Nat.reduceAdd, t5, t13, t15, t18, d1, d2, d3, d4]; rfl) (by decide) ?_)
                iterate 2 (first | (refine WI_notV rfl (wantB_no rfl rfl (by simp only [go_sem, ↓reduceIte, Nat.reduceEqDiff, t5, t13, t15, t18, d1, d2, d3, d4]; rfl) rfl) (by decide) ?_) | (refine WI_val rfl (wantB_true rfl rfl (by simp only [go_sem, ↓reduceIte, Nat.reduceEqDiff, t5, t13, t15, t18, d1, d2, d3, d4]; rfl) rfl) rfl (by simp only [go_sem, ↓reduceIte, Nat.reduceEqDiff, Nat.reduceAdd, t5, t13, t15, t18, d1, d2, d3, d4]; rfl) (by decide) ?_))
                first | (refine WI_notV rfl (wantB_no rfl rfl (by simp only [go_sem, ↓reduceIte, Nat.reduceEqDiff, t5, t13, t15, t18, d1, d2, d3, d4]; rfl) rfl) (by decide) ?_) | (refine WI_val rfl (wantB_true rfl rfl (by simp only [go_sem, ↓reduceIte, Nat.reduceEqDiff, t5, t13, t15, t18, d1, d2, d3, d4]; rfl) rfl) rfl (by simp (disch := first | omega | simp) only [go_sem, ↓reduceIte, Nat.reduceEqDiff, Nat.reduceAdd, t5, t13, t15, t18, d1, d2, d3, d4]; rfl) (by decide) ?_)
                first | (refine WI_notV rfl (wantB_no rfl rfl (by simp only [go_sem, ↓reduceIte, Nat.reduceEqDiff, t5, t13, t15, t18, d1, d2, d3, d4]; rfl) rfl) (by decide) ?_) | (refine WI_ld rfl (wantB_true rfl rfl (by simp only [go_sem, ↓reduceIte, Nat.reduceEqDiff, t5, t13, t15, t18, d1, d2, d3, d4]; rfl) rfl) (by simp only [go_sem, ↓reduceIte, Nat.reduceEqDiff, t5, t13, t15, t18, d1, d2, d3, d4]; rfl) (by simp (disch := first | omega | simp) only [go_sem, ↓reduceIte, Nat.reduceEqDiff, Nat.reduceAdd, rX, rY]; rfl) (by (try simp only [cond_true, cond_false]); repeat (first | exact Off.nil | refine Off.seen rfl ?_ | refine Off.off (by omega) ?_)) (by decide) ?_)
                iterate 2 (first | (refine WI_notV rfl (wantB_no rfl rfl (by simp only [go_sem, ↓reduceIte, Nat.reduceEqDiff, t5, t13, t15, t18, d1, d2, d3, d4]; rfl) rfl) (by decide) ?_) | (refine WI_val rfl (wantB_true rfl rfl (by simp only [go_sem, ↓reduceIte, Nat.reduceEqDiff, t5, t13, t15, t18, d1, d2, d3, d4]; rfl) rfl) rfl (by simp only [go_sem, ↓reduceIte, Nat.reduceEqDiff, Nat.reduceAdd, t5, t13, t15, t18, d1, d2, d3, d4]; rfl) (by decide) ?_))
                first | (refine WI_notV rfl (wantB_no rfl rfl (by simp only [go_sem, ↓reduceIte, Nat.reduceEqDiff, t5, t13, t15, t18, d1, d2, d3, d4]; rfl) rfl) (by decide) ?_) | (refine WI_val rfl (wantB_true rfl rfl (by simp only [go_sem, ↓reduceIte, Nat.reduceEqDiff, t5, t13, t15, t18, d1, d2, d3, d4]; rfl) rfl) rfl (by simp (disch := first | omega | simp) only [go_sem, ↓reduceIte, Nat.reduceEqDiff, Nat.reduceAdd, t5, t13, t15, t18, d1, d2, d3, d4]; rfl) (by decide) ?_)
                first | (refine WI_notV rfl (wantB_no rfl rfl (by simp only [go_sem, ↓reduceIte, Nat.reduceEqDiff, t5, t13, t15, t18, d1, d2, d3, d4]; rfl) rfl) (by decide) ?_) | (refine WI_val rfl (wantB_true rfl rfl (by simp only [go_sem, ↓reduceIte, Nat.reduceEqDiff, t5, t13, t15, t18, d1, d2, d3, d4]; rfl) rfl) rfl (by simp only [go_sem, ↓reduceIte, Nat.reduceEqDiff, Nat.reduceAdd, t5, t13, t15, t18, d1, d2, d3, d4]; rfl) (by decide) ?_)
                first | (refine WI_notV rfl (wantB_no rfl rfl (by simp only [go_sem, ↓reduceIte, Nat.reduceEqDiff, t5, t13, t15, t18, d1, d2, d3, d4]; rfl) rfl) (by decide) ?_) | (refine WI_ld rfl (wantB_true rfl rfl (by simp only [go_sem, ↓reduceIte, Nat.reduceEqDiff, t5, t13, t15, t18, d1, d2, d3, d4]; rfl) rfl) (by simp only [go_sem, ↓reduceIte, Nat.reduceEqDiff, t5, t13, t15, t18, d1, d2, d3, d4]; rfl) (by simp (disch := first | omega | simp) only [go_sem, ↓reduceIte, Nat.reduceEqDiff, Nat.reduceAdd, rX, rY]; rfl) (by (try simp only [cond_true, cond_false]); repeat (first | exact Off.nil | refine Off.seen rfl ?_ | refine Off.off (by omega) ?_)) (by decide) ?_)
                first | (refine WI_notV rfl (wantB_no rfl rfl (by simp only [go_sem, ↓reduceIte, Nat.reduceEqDiff, t5, t13, t15, t18, d1, d2, d3, d4]; rfl) rfl) (by decide) ?_) | (refine WI_val rfl (wantB_true rfl rfl (by simp only [go_sem, ↓reduceIte, Nat.reduceEqDiff, t5, t13, t15, t18, d1, d2, d3, d4]; rfl) rfl) rfl (ex_bin (by simp only [go_sem, ↓reduceIte, Nat.reduceEqDiff, t5, t13, t15, t18, d1, d2, d3, d4]; rfl) (by simp only [go_sem, ↓reduceIte, Nat.reduceEqDiff, t5, t13, t15, t18, d1, d2, d3, d4]; rfl) in_lss) (by decide) ?_)
                iterate 2 (refine WI_val rfl wantB_none rfl (by simp only [go_sem, ↓reduceIte, Nat.reduceEqDiff, Nat.reduceAdd, t5, t13, t15, t18, d1, d2, d3, d4]; rfl) (by decide) ?_)
                first | (refine WI_notV rfl (wantB_no rfl rfl (by simp only [go_sem, ↓reduceIte, Nat.reduceEqDiff, t5, t13, t15, t18, d1, d2, d3, d4]; rfl) rfl) (by decide) ?_) | (refine WI_val rfl (wantB_true rfl rfl (by simp only [go_sem, ↓reduceIte, Nat.reduceEqDiff, t5, t13, t15, t18, d1, d2, d3, d4]; rfl) rfl) rfl (by simp only [go_sem, ↓reduceIte, Nat.reduceEqDiff, Nat.reduceAdd, t5, t13, t15, t18, d1, d2, d3, d4]; rfl) (by decide) ?_)
                first | (refine WI_notV rfl (wantB_no rfl rfl (by simp only [go_sem, ↓reduceIte, Nat.reduceEqDiff, t5, t13, t15, t18, d1, d2, d3, d4]; rfl) rfl) (by decide) ?_) | (refine WI_val rfl (wantB_true rfl rfl (by simp only [go_sem, ↓reduceIte, Nat.reduceEqDiff, t5, t13, t15, t18, d1, d2, d3, d4]; rfl) rfl) rfl (ex_bin (by simp only [go_sem, ↓reduceIte, Nat.reduceEqDiff, t5, t13, t15, t18, d1, d2, d3, d4]; rfl) (by simp only [go_sem, ↓reduceIte, Nat.reduceEqDiff, t5, t13, t15, t18, d1, d2, d3, d4]; rfl) in_eql) (by decide) ?_)
                iterate 3 (first | (refine WI_notV rfl (wantB_no rfl rfl (by simp only [go_sem, ↓reduceIte, Nat.reduceEqDiff, t5, t13, t15, t18, d1, d2, d3, d4]; rfl) rfl) (by decide) ?_) | (refine WI_val rfl (wantB_true rfl rfl (by simp only [go_sem, ↓reduceIte, Nat.reduceEqDiff, t5, t13, t15, t18, d1, d2, d3, d4]; rfl) rfl) rfl (by simp only [go_sem, ↓reduceIte, Nat.reduceEqDiff, Nat.reduceAdd, t5, t13, t15, t18, d1, d2, d3, d4]; rfl) (by decide) ?_))
                first | (refine WI_notV rfl (wantB_no rfl rfl (by simp only [go_sem, ↓reduceIte, Nat.reduceEqDiff, t5, t13, t15, t18, d1, d2, d3, d4]; rfl) rfl) (by decide) ?_) | (refine WI_val rfl (wantB_true rfl rfl (by simp only [go_sem, ↓reduceIte, Nat.reduceEqDiff, t5, t13, t15, t18, d1, d2, d3, d4]; rfl) rfl) rfl (by simp (disch := first | omega | simp) only [go_sem, ↓reduceIte, Nat.reduceEqDiff, Nat.reduceAdd, t5, t13, t15, t18, d1, d2, d3, d4]; rfl) (by decide) ?_)
                first | (refine WI_notV rfl (wantB_no rfl rfl (by simp only [go_sem, ↓reduceIte, Nat.reduceEqDiff, t5, t13, t15, t18, d1, d2, d3, d4]; rfl) rfl) (by decide) ?_) | (refine WI_ld rfl (wantB_true rfl rfl (by simp only [go_sem, ↓reduceIte, Nat.reduceEqDiff, t5, t13, t15, t18, d1, d2, d3, d4]; rfl) rfl) (by simp only [go_sem, ↓reduceIte, Nat.reduceEqDiff, t5, t13, t15, t18, d1, d2, d3, d4]; rfl) (by simp (disch := first | omega | simp) only [go_sem, ↓reduceIte, Nat.reduceEqDiff, Nat.reduceAdd, rX, rY]; rfl) (by (try simp only [cond_true, cond_false]); repeat (first | exact Off.nil | refine Off.seen rfl ?_ | refine Off.off (by omega) ?_)) (by decide) ?_)
                iterate 2 (first | (refine WI_notV rfl (wantB_no rfl rfl (by simp only [go_sem, ↓reduceIte, Nat.reduceEqDiff, t5, t13, t15, t18, d1, d2, d3, d4]; rfl) rfl) (by decide) ?_) | (refine WI_val rfl (wantB_true rfl rfl (by simp only [go_sem, ↓reduceIte, Nat.reduceEqDiff, t5, t13, t15, t18, d1, d2, d3, d4]; rfl) rfl) rfl (by simp only [go_sem, ↓reduceIte, Nat.reduceEqDiff, Nat.reduceAdd, t5, t13, t15, t18, d1, d2, d3, d4]; rfl) (by decide) ?_))
                first | (refine WI_notV rfl (wantB_no rfl rfl (by simp only [go_sem, ↓reduceIte, Nat.reduceEqDiff, t5, t13, t15, t18, d1, d2, d3, d4]; rfl) rfl) (by decide) ?_) | (refine WI_val rfl (wantB_true rfl rfl (by simp only [go_sem, ↓reduceIte, Nat.reduceEqDiff, t5, t13, t15, t18, d1, d2, d3, d4]; rfl) rfl) rfl (by simp (disch := first | omega | simp) only [go_sem, ↓reduceIte, Nat.reduceEqDiff, Nat.reduceAdd, t5, t13, t15, t18, d1, d2, d3, d4]; rfl) (by decide) ?_)
                first | (refine WI_notV rfl (wantB_no rfl rfl (by simp only [go_sem, ↓reduceIte, Nat.reduceEqDiff, t5, t13, t15, t18, d1, d2, d3, d4]; rfl) rfl) (by decide) ?_) | (refine WI_val rfl (wantB_true rfl rfl (by simp only [go_sem, ↓reduceIte, Nat.reduceEqDiff, t5, t13, t15, t18, d1, d2, d3, d4]; rfl) rfl) rfl (by simp only [go_sem, ↓reduceIte, Nat.reduceEqDiff, Nat.reduceAdd, t5, t13, t15, t18, d1, d2, d3, d4]; rfl) (by decide) ?_)
                first | (refine WI_notV rfl (wantB_no rfl rfl (by simp only [go_sem, ↓reduceIte, Nat.reduceEqDiff, t5, t13, t15, t18, d1, d2, d3, d4]; rfl) rfl) (by decide) ?_) | (refine WI_ld rfl (wantB_true rfl rfl (by simp only [go_sem, ↓reduceIte, Nat.reduceEqDiff, t5, t13, t15, t18, d1, d2, d3, d4]; rfl) rfl) (by simp only [go_sem, ↓reduceIte, Nat.reduceEqDiff, t5, t13, t15, t18, d1, d2, d3, d4]; rfl) (by simp (disch := first | omega | simp) only [go_sem, ↓reduceIte, Nat.reduceEqDiff, Nat.reduceAdd, rX, rY]; rfl) (by (try simp only [cond_true, cond_false]); repeat (first | exact Off.nil | refine Off.seen rfl ?_ | refine Off.off (by omega) ?_)) (by decide) ?_)
                first | (refine WI_notV rfl (wantB_no rfl rfl (by simp only [go_sem, ↓reduceIte, Nat.reduceEqDiff, t5, t13, t15, t18, d1, d2, d3, d4]; rfl) rfl) (by decide) ?_) | (refine WI_val rfl (wantB_true rfl rfl (by simp only [go_sem, ↓reduceIte, Nat.reduceEqDiff, t5, t13, t15, t18, d1, d2, d3, d4]; rfl) rfl) rfl (ex_bin (by simp only [go_sem, ↓reduceIte, Nat.reduceEqDiff, t5, t13, t15, t18, d1, d2, d3, d4]; rfl) (by simp only [go_sem, ↓reduceIte, Nat.reduceEqDiff, t5, t13, t15, t18, d1, d2, d3, d4]; rfl) in_gtr) (by decide) ?_)
                iterate 3 (first | (refine WI_notV rfl (wantB_no rfl rfl (by simp only [go_sem, ↓reduceIte, Nat.reduceEqDiff, t5, t13, t15, t18, d1, d2, d3, d4]; rfl) rfl) (by decide) ?_) | (refine WI_val rfl (wantB_true rfl rfl (by simp only [go_sem, ↓reduceIte, Nat.reduceEqDiff, t5, t13, t15, t18, d1, d2, d3, d4]; rfl) rfl) rfl (by simp only [go_sem, ↓reduceIte, Nat.reduceEqDiff, Nat.reduceAdd, t5, t13, t15, t18, d1, d2, d3, d4]; rfl) (by decide) ?_))
                first | (refine WI_notV rfl (wantB_no rfl rfl (by simp only [go_sem, ↓reduceIte, Nat.reduceEqDiff, t5, t13, t15, t18, d1, d2, d3, d4]; rfl) rfl) (by decide) ?_) | (refine WI_val rfl (wantB_true rfl rfl (by simp only [go_sem, ↓reduceIte, Nat.reduceEqDiff, t5, t13, t15, t18, d1, d2, d3, d4]; rfl) rfl) rfl (by simp (disch := first | omega | simp) only [go_sem, ↓reduceIte, Nat.reduceEqDiff, Nat.reduceAdd, t5, t13, t15, t18, d1, d2, d3, d4]; rfl) (by decide) ?_)
                first | (refine WI_notV rfl (wantB_no rfl rfl (by simp only [go_sem, ↓reduceIte, Nat.reduceEqDiff, t5, t13, t15, t18, d1, d2, d3, d4]; rfl) rfl) (by decide) ?_) | (refine WI_ld rfl (wantB_true rfl rfl (by simp only [go_sem, ↓reduceIte, Nat.reduceEqDiff, t5, t13, t15, t18, d1, d2, d3, d4]; rfl) rfl) (by simp only [go_sem, ↓reduceIte, Nat.reduceEqDiff, t5, t13, t15, t18, d1, d2, d3, d4]; rfl) (by simp (disch := first | omega | simp) only [go_sem, ↓reduceIte, Nat.reduceEqDiff, Nat.reduceAdd, rX, rY]; rfl) (by (try simp only [cond_true, cond_false]); repeat (first | exact Off.nil | refine Off.seen rfl ?_ | refine Off.off (by omega) ?_)) (by decide) ?_)
                first | (refine WI_notV rfl (wantB_no rfl rfl (by simp only [go_sem, ↓reduceIte, Nat.reduceEqDiff, t5, t13, t15, t18, d1, d2, d3, d4]; rfl) rfl) (by decide) ?_) | (refine WI_val rfl (wantB_true rfl rfl (by simp only [go_sem, ↓reduceIte, Nat.reduceEqDiff, t5, t13, t15, t18, d1, d2, d3, d4]; rfl) rfl) rfl (ex_bin (by simp only [go_sem, ↓reduceIte, Nat.reduceEqDiff, t5, t13, t15, t18, d1, d2, d3, d4]; rfl) (by simp only [go_sem, ↓reduceIte, Nat.reduceEqDiff, t5, t13, t15, t18, d1, d2, d3, d4]; rfl) in_lss) (by decide) ?_)
                iterate 2 (first | (refine WI_notV rfl (wantB_no rfl rfl (by simp only [go_sem, ↓reduceIte, Nat.reduceEqDiff, t5, t13, t15, t18, d1, d2, d3, d4]; rfl) rfl) (by decide) ?_) | (refine WI_val rfl (wantB_true rfl rfl (by simp only [go_sem, ↓reduceIte, Nat.reduceEqDiff, t5, t13, t15, t18, d1, d2, d3, d4]; rfl) rfl) rfl (by simp only [go_sem, ↓reduceIte, Nat.reduceEqDiff, Nat.reduceAdd, t5, t13, t15, t18, d1, d2, d3, d4]; rfl) (by decide) ?_))
                (refine WI_val rfl wantB_none rfl (by simp only [go_sem, ↓reduceIte, Nat.reduceEqDiff, Nat.reduceAdd, t5, t13, t15, t18, d1, d2, d3, d4]; rfl) (by decide) ?_)
                exact WI_nil ⟨rfl, rfl, by (simp only [go_sem, ↓reduceIte, Nat.reduceEqDiff, t0] <;> first | rfl | simp), by (simp only [go_sem, ↓reduceIte, Nat.reduceEqDiff, t3] <;> first | rfl | simp), by (simp only [go_sem, ↓reduceIte, Nat.reduceEqDiff, t5] <;> first | rfl | simp), by (simp only [go_sem, ↓reduceIte, Nat.reduceEqDiff, t9] <;> first | rfl | simp), by (simp only [go_sem, ↓reduceIte, Nat.reduceEqDiff, t10] <;> first | rfl | simp), by (simp only [go_sem, ↓reduceIte, Nat.reduceEqDiff, t11] <;> first | rfl | simp), by (simp only [go_sem, ↓reduceIte, Nat.reduceEqDiff, t12] <;> first | rfl | simp), by (simp only [go_sem, ↓reduceIte, Nat.reduceEqDiff, t13] <;> first | rfl | simp), by (simp only [go_sem, ↓reduceIte, Nat.reduceEqDiff, t14] <;> first | rfl | simp), by (simp only [go_sem, ↓reduceIte, Nat.reduceEqDiff, t15] <;> first | rfl | simp), by (simp only [go_sem, ↓reduceIte, Nat.reduceEqDiff] <;> first | rfl | simp), by (simp only [go_sem, ↓reduceIte, Nat.reduceEqDiff, t18] <;> first | rfl | simp), by (simp only [go_sem, ↓reduceIte, Nat.reduceEqDiff] <;> first | rfl | simp)⟩
            clear t0 t3 t5 t9 t10 t11 t12 t13 t14 t15 t17 t18
            rintro T4 h12 ⟨rfl, t0, t3, t5, t9, t10, t11, t12, t13, t14, t15, t17, t18, t176⟩
            refine W_cond (by (simp only [go_sem, ↓reduceIte, Nat.reduceEqDiff, t176] <;> rfl)) (fun hc => by cases hc) (fun _ => W_skip ?_)
            (repeat refine W_seq ?_); refine W_region ?_
            (refine WO_val (by simp only [go_sem, ↓reduceIte, Nat.reduceEqDiff, Nat.reduceAdd, t18]; rfl) (by decide) ?_)
            (refine WO_val (ex_bin (by simp only [go_sem, ↓reduceIte, Nat.reduceEqDiff, t18]; rfl) (by simp only [go_sem, ↓reduceIte, Nat.reduceEqDiff, t18]; rfl) in_add) (by decide) ?_; (try rw [wrap_id (by omega) (by omega)]))
            (refine WO_val (by simp only [go_sem, ↓reduceIte, Nat.reduceEqDiff, Nat.reduceAdd, t18]; rfl) (by decide) ?_)
            exact WO_nil ⟨X.length - (k2 + 1), by omega, k2 + 1, rfl, hlt3, rfl, by (simp only [go_sem, ↓reduceIte, Nat.reduceEqDiff, t0] <;> first | rfl | simp), by (simp only [go_sem, ↓reduceIte, Nat.reduceEqDiff, t3] <;> first | rfl | simp), by (simp only [go_sem, ↓reduceIte, Nat.reduceEqDiff, t5] <;> first | rfl | simp), by (simp only [go_sem, ↓reduceIte, Nat.reduceEqDiff, t9] <;> first | rfl | simp), by (simp only [go_sem, ↓reduceIte, Nat.reduceEqDiff, t10] <;> first | rfl | simp), by (simp only [go_sem, ↓reduceIte, Nat.reduceEqDiff, t11] <;> first | rfl | simp), by (simp only [go_sem, ↓reduceIte, Nat.reduceEqDiff, t12] <;> first | rfl | simp), by (simp only [go_sem, ↓reduceIte, Nat.reduceEqDiff, t13] <;> first | rfl | simp), by (simp only [go_sem, ↓reduceIte, Nat.reduceEqDiff, t14] <;> first | rfl | simp), by (simp only [go_sem, ↓reduceIte, Nat.reduceEqDiff, t15] <;> first | rfl | simp), by (simp only [go_sem, ↓reduceIte, Nat.reduceEqDiff, t17] <;> first | rfl | simp), by (simp only [go_sem, ↓reduceIte, Nat.reduceEqDiff] <;> first | rfl | simp)⟩
          · have hge3 : k2 = X.length := by simp at hge3; omega
            rw [hge3, List.take_length, hsum, show gl + (R - gl) = R by omega] at t17
            exact ⟨fun _ => ⟨rfl, rfl, t0, t3, t5, t9, t10, t11, t12, t13, t14, t17⟩, fun hne => absurd rfl hne⟩
        clear t0 t3 t5 t9 t10 t11 t12 t13
        rintro T3 h11 ⟨rfl, t0, t3, t5, t9, t10, t11, t12, t13, t14, t17⟩
        (repeat refine W_seq ?_); refine W_region ?_
        iterate 2 (refine WO_val (by simp only [go_sem, ↓reduceIte, Nat.reduceEqDiff, Nat.reduceAdd, t14, t17]; rfl) (by decide) ?_)
        (refine WO_val (ex_bin (by simp only [go_sem, ↓reduceIte, Nat.reduceEqDiff, t14, t17]; rfl) (by simp only [go_sem, ↓reduceIte, Nat.reduceEqDiff, t14, t17]; rfl) in_neq) (by decide) ?_)
        refine WO_nil ?_; (repeat refine W_seq ?_)
        refine W_cond (by (simp only [go_sem, ↓reduceIte, Nat.reduceEqDiff] <;> rfl)) (fun hc => by simp at hc) (fun _ => W_skip ?_)
        (repeat refine W_seq ?_); refine W_region ?_
        (refine WO_val (by simp only [go_sem, ↓reduceIte, Nat.reduceEqDiff, Nat.reduceAdd, t13]; rfl) (by decide) ?_)
        (refine WO_val (ex_bin (by simp only [go_sem, ↓reduceIte, Nat.reduceEqDiff, t13]; rfl) (by simp only [go_sem, ↓reduceIte, Nat.reduceEqDiff, t13]; rfl) in_add) (by decide) ?_; (try rw [wrap_id (by omega) (by omega)]))
        (refine WO_val (by simp only [go_sem, ↓reduceIte, Nat.reduceEqDiff, Nat.reduceAdd, t13]; rfl) (by decide) ?_)
        exact WO_nil ⟨2 - (t + 1), by omega, t + 1, rfl, by omega, by (simp only [go_sem, ↓reduceIte, Nat.reduceEqDiff, t0] <;> first | rfl | simp), by (simp only [go_sem, ↓reduceIte, Nat.reduceEqDiff, t3] <;> first | rfl | simp), by (simp only [go_sem, ↓reduceIte, Nat.reduceEqDiff, t5] <;> first | rfl | simp), by (simp only [go_sem, ↓reduceIte, Nat.reduceEqDiff, t9] <;> first | rfl | simp), by (simp only [go_sem, ↓reduceIte, Nat.reduceEqDiff, t10] <;> first | rfl | simp), by (simp only [go_sem, ↓reduceIte, Nat.reduceEqDiff, t11] <;> first | rfl | simp), by (simp only [go_sem, ↓reduceIte, Nat.reduceEqDiff, t12] <;> first | rfl | simp), by (simp only [go_sem, ↓reduceIte, Nat.reduceEqDiff] <;> first | rfl | simp), u8.trans ((n9.up.mono fun b hb => by omega).trans (u10.mono fun b hb => by omega)), o10⟩
      · refine ⟨fun _ => ⟨rfl, t0, t3, ?_, o8⟩, fun hne => absurd rfl hne⟩
        exact u15.trans ((u7.mono fun b hb => by have := u15.next; omega).trans (u8.mono fun b hb => by have := u15.next; omega))
    rintro T2 h3 ⟨t0, t3, u3, o3⟩
    (repeat refine W_seq ?_); refine W_region ?_
    (refine WO_val (by simp only [go_sem, ↓reduceIte, Nat.reduceEqDiff, Nat.reduceAdd, t3]; rfl) (by decide) ?_)
    (refine WO_val (ex_bin (by simp only [go_sem, ↓reduceIte, Nat.reduceEqDiff, t3]; rfl) (by simp only [go_sem, ↓reduceIte, Nat.reduceEqDiff, t3]; rfl) in_add) (by decide) ?_; (try rw [wrap_id (by omega) (by omega)]))
    (refine WO_val (by simp only [go_sem, ↓reduceIte, Nat.reduceEqDiff, Nat.reduceAdd, t3]; rfl) (by decide) ?_)
    exact WO_nil ⟨10 - (k + 1), by omega, k + 1, rfl, by omega, by (simp only [go_sem, ↓reduceIte, Nat.reduceEqDiff, t0] <;> first | rfl | simp), by (simp only [go_sem, ↓reduceIte, Nat.reduceEqDiff] <;> first | rfl | simp), u3, o3⟩
  · refine ⟨fun _ => ?_, fun hne => absurd rfl hne⟩
    (repeat refine W_seq ?_); refine W_region ?_
    refine WO_fn (by (simp only [go_sem, ↓reduceIte, Nat.reduceEqDiff] <;> rfl)) (by simp) (by decide) ((wakes_fn hs hs1 hs2 hs3 o1).mono ?_)
    rintro r h3 ⟨rfl, u3, o3⟩
    (refine WO_val (by simp only [go_sem, ↓reduceIte, Nat.reduceEqDiff, Nat.reduceAdd]; rfl) (by decide) ?_)
    exact WO_nil (W_ret ⟨.inr rfl, _, by (simp only [resultB, resB, parts, V.part, Sl.get_set', ↓reduceIte, Nat.reduceEqDiff] <;> rfl), rfl⟩)
end Go.Ai
