/-
wakes: four and three.
-/
import Derived.Test.YtjjlmmebkemlgaaFxEq
set_option linter.unusedVariables false
set_option linter.unusedSimpArgs false
namespace Go.Ai
open Go.Proofs

section
variable {P : Program} {spec : CallF} {nt : Nat} {T : Sl} {h : H}
theorem bs_gen {t elem n : Nat} (ht : elemAt P t = some (elem, n)) {z : V} (hz : zeroB P elem = some z) {len : Nat} {q : Array (Nat × Operand)} {vs : List (Nat × V)} (hv : evParts T q.toList = some vs) (hc : (Nat.ble (len * n) 16777216 && Nat.beq z.cells.length n && Nat.blt 0 n) = true) {cells : List S} (hf : fillS (fun i => some (i * n, n)) (repeatS z.cells len) vs = some cells) :
    doBuildSlice P T h t len q = some (.val (.one (.sl h.next 0 len len n true)) (h.alloc (.cells elem (Go.Ai.T.setMany .e 0 cells) cells.length))) := by
  unfold elemAt at ht
  split at ht
  · rename_i e hu
    split at ht
    · rename_i n' hs
      cases ht
      unfold doBuildSlice
      rw [hu, hv]
      simp only
      rw [hs, hz]
      simp only
      rw [hc, cond_true, hf]
      simp only
      rw [H.rowK_eq]
    · cases ht
  · cases ht
theorem WO_bsN {K : Sl → H → Prop} {all l : List Oper} {ty : TypeId} {ps : String} {af : Array Edge} {g : Option (Nat × Bool)} {d : Tmp} {t elem n : Nat} {len : Nat} {q : Array (Nat × Operand)} (hw : wantB all T ⟨some d, .buildSlice t len q, ty, ps, af, g⟩ = some true) (ht : elemAt P t = some (elem, n)) {z : V} (hz : zeroB P elem = some z) {vs : List (Nat × V)} (hv : evParts T q.toList = some vs) (hc : (Nat.ble (len * n) 16777216 && Nat.beq z.cells.length n && Nat.blt 0 n) = true) {cells : List S} (hf : fillS (fun i => some (i * n, n)) (repeatS z.cells len) vs = some cells) (o : Ok h) (hd : d < nt)
    (hk : ∀ h1, New h h1 elem cells → WO P spec nt all l (T.set d (.one (.sl h.next 0 len len n true))) h1 K) : WO P spec nt all (⟨some d, .buildSlice t len q, ty, ps, af, g⟩ :: l) T h K :=
  WO_valG hw (by rw [ex_buildSlice]; exact bs_gen ht hz hv hc hf) hd (hk _ (.of o))
end
def wk : Itm := ⟨0, 0, -1, 1, 0⟩
theorem parts_wk : Lf.partsL 7 [1, 1] [⟨1, 0⟩, ⟨1, 1⟩] = [4, 3] := by kernel_rfl
theorem prt_wk : prtI 7 [1, 1] = [4, 3] := by
  have hm : Lf.May 7 [1, 1] := ⟨by decide, by decide, by decide, fun x hx => by simp at hx; omega, by decide⟩
  obtain ⟨Q, q1, q2, _⟩ := prtI_of hm
  have hq : Lf.IsQ 7 [1, 1] [⟨1, 0⟩, ⟨1, 1⟩] := ⟨List.Perm.refl _, by
    unfold Lf.Srt
    refine List.Pairwise.cons (fun x hx => ?_) (List.Pairwise.cons (fun x hx => by cases hx) .nil)
    simp at hx; subst hx
    unfold Lf.lt; decide⟩
  rw [q2, q1.unique hq]
  exact parts_wk
theorem solve_wk : solveI prtI [wk, wk] 0 7 = [4, 3] := by
  have hg : grows0 [wk, wk] 0 7 = true := by decide
  have hf : [wk, wk].map (Itm.fixed0 true) = [false, false] := by decide
  have hs : sharedI prtI [wk, wk] 0 7 true [0, 0] [false, false] [0, 1] = [4, 3] := by
    unfold sharedI
    rw [show min (freeN [wk, wk] 0 7 true [0, 0] [false, false]) 1099511627776 = 7 from by decide, show wtsI [wk, wk] true [0, 1] = [1, 1] from by decide, prt_wk]
    decide
  unfold solveI
  rw [hg, hf, show plains [wk, wk] = [0, 0] from by decide]
  show solveLoop prtI [wk, wk] 0 7 true (2 + 1) [0, 0] [false, false] = _
  unfold solveLoop
  rw [show opens 0 [false, false] = [0, 1] from by decide, if_neg (by decide), hs, show roundS [wk, wk] [0, 1] [4, 3] [0, 0] = [4, 3] from by decide, show roundF [wk, wk] [0, 1] [4, 3] [false, false] = [true, true] from by decide]
  unfold solveLoop
  rw [show opens 0 [true, true] = [] from by decide, if_pos rfl]
set_option maxHeartbeats 0 in
theorem wakes_fn {spec : CallF} (hs : SpecRes spec) (hs1 : SpecFlex spec) (hs2 : SpecSort spec) (hs3 : SpecEq spec) {h : H} (ok : Ok h) :
    WF Try.prog spec 26 [] h fun r h1 => r = .one (.b true) ∧ Up (· < h.next) h h1 ∧ Ok h1 := by
  refine WF_of Try.func26 rfl (hs3.s26 _ _) (by rw [Try.ntmps26]; simp) (by rw [Try.ntmps26]; decide) ?_
  rw [Try.ntmps26, Try.results26]
  simp only [Sl.setMany_nil]
  (repeat refine W_seq ?_); refine W_region ?_
  (refine VO ?_)
  refine WO_nil ?_; (repeat refine W_seq ?_)
  refine W_region ?_
  refine WO_val (by rw [ex_build]; exact bd_of (by kernel_rfl : placesOf Try.prog 46 = some [(0, 1), (1, 1), (2, 1), (3, 1), (4, 1)]) zb46 (by simp only [evParts, go_sem]; rfl) rfl) (by decide) ?_
  refine WO_alloc zb46 rfl ok (by decide) fun h1 n1 => ?_
  have e1 := n1.next
  refine WO_storeA (ee) (ee) sz46 rfl (by simp) n1.cells n1.may (by simp [V.cells]) fun h2 p2 => ?_
  have c2 := p2.cells
  simp only [V.cells, List.take_zero, List.nil_append, List.length_cons, List.length_nil, Nat.reduceAdd, Nat.zero_add, List.drop_succ_cons, List.drop_zero, List.append_nil] at c2
  have u2 : Up (· < h.next) h h2 := n1.up.trans (p2.up.mono fun b hb => by omega)
  have o2 := p2.ok n1.ok
  have e2 : h2.next = h.next + 1 := by rw [p2.next, e1]
  have r2 : h2.row h.next 0 5 = some wk.cells := by rw [c2.row (by simp)]; rfl
  refine WO_nil ?_; (repeat refine W_seq ?_)
  refine W_region ?_
  iterate 2 (refine VX (by simp (disch := first | omega | simp) only [go_sem, ↓reduceIte, Nat.reduceEqDiff, Nat.reduceAdd, r2]; rfl) ?_)
  refine WO_bsN wantB_none el39 zb46 (by simp only [evParts, go_sem, ↓reduceIte, Nat.reduceEqDiff]; rfl) rfl (cells := wk.cells ++ wk.cells) rfl o2 (by decide) fun h3 n3 => ?_
  have e3 := n3.next
  have c3 := n3.cells
  have hi : ItemsAt h3 (.sl h2.next 0 2 2 5 true) [wk, wk] := .inr ⟨h2.next, 0, 2, true, rfl, by omega, fun k x hx => by
    match k, hx with
    | 0, hx => cases hx; rw [c3.row (by simp [Itm.cells])]; rfl
    | 1, hx => cases hx; rw [c3.row (by simp [Itm.cells])]; rfl
    | k + 2, hx => simp at hx⟩
  refine WO_fn (ee) (by simp) (by decide) ((resolve_fn hs hs1 hs2 n3.ok hi).mono ?_)
  rintro r h4 ⟨x, rfl, g4, u4, o4⟩
  have hr : resOk [wk, wk] 0 7 = true := by decide
  rw [hr, if_pos rfl, solve_wk] at g4
  simp only [hr, if_true]
  iterate 5 (refine VO ?_)
  have u04 : Up (· < h.next) h h4 := (u2.trans (n3.up.mono fun b hb => by omega)).trans (u4.mono fun b hb => by omega)
  have hn4 := u4.next
  refine WO_nil ?_; (repeat refine W_seq ?_)
  refine W_region ?_
  (refine VO ?_)
  refine WO_fn (ee) (by simp) (by decide) ((num_fn hs3).mono ?_)
  rintro r h5 ⟨rfl, rfl⟩
  (refine VX (ex_bin ee ee in_eql) ?_)
  (refine VO ?_)
  first | (refine VN (wantB_no rfl rfl (by simp only [go_sem, ↓reduceIte, Nat.reduceEqDiff]; rfl) rfl) ?_) | (refine VG (wantB_true rfl rfl (by simp only [go_sem, ↓reduceIte, Nat.reduceEqDiff]; rfl) rfl) (by simp only [go_sem, ↓reduceIte, Nat.reduceEqDiff, Nat.reduceAdd]; rfl) ?_)
  refine WO_bsN (wantB_true rfl rfl (by simp only [go_sem, ↓reduceIte, Nat.reduceEqDiff]; rfl) rfl) el23 ze23 (by simp only [evParts, go_sem]; rfl) rfl (cells := nums [4, 3]) rfl o4 (by decide) fun h6 n6 => ?_
  have i6 : IntsAt h6 (.sl h5.next 0 2 2 1 true) [4, 3] := .inr ⟨h5.next, 2, true, rfl, by have := n6.next; omega, fun k x hx => by
    have c6 := n6.cells
    match k, hx with
    | 0, hx => cases hx; rw [c6.row (by simp [nums])]; rfl
    | 1, hx => cases hx; rw [c6.row (by simp [nums])]; rfl
    | k + 2, hx => simp at hx⟩
  refine WO_fnG (wantB_true rfl rfl (by simp only [go_sem, ↓reduceIte, Nat.reduceEqDiff]; rfl) rfl) (ee) (by simp) (by decide) ((eq_fn hs3 n6.ok (g4.ints.upLt n6.up) i6 (by simp)).mono ?_)
  rintro r h7 ⟨rfl, rfl⟩
  iterate 2 (refine VO ?_)
  exact WO_nil (W_ret ⟨.inr rfl, _, by (simp only [resultB, resB, parts, V.part, Sl.get_set', ↓reduceIte, Nat.reduceEqDiff] <;> rfl), rfl, u04.trans (n6.up.mono fun b hb => by omega), n6.ok⟩)
end Go.Ai
