/-
flex.Resolve: who may be; what the machine comes to.
-/
import Derived.Test.YtjjlmmebkemlgaaFxSolve
import Derived.Test.YtjjlmmebkemlgaaFxPartsI
set_option linter.unusedVariables false
set_option linter.unusedSimpArgs false
namespace Go.Ai
open Go.Proofs

section
variable {P : Program} {spec : CallF} {nt : Nat} {T : Sl} {h : H}
theorem WO_grd {all l : List Oper} {o : Oper} {op : Op} {d : Option Tmp} {ty : TypeId} {ps : String} {af : Array Edge} {K : Sl → H → Prop} {j : Nat} {want : Bool} {r : Tmp} {t : Bool} (hg : all[j]? = some o) (hd : o.dst = some r) (ht : T.get r = some (.one (.b t))) (h1 : t = true → WO P spec nt all (⟨d, op, ty, ps, af, some (j, want)⟩ :: l) T h K) (h2 : t = false → WO P spec nt all (⟨d, op, ty, ps, af, some (j, want)⟩ :: l) T h K) : WO P spec nt all (⟨d, op, ty, ps, af, some (j, want)⟩ :: l) T h K := by
  cases t
  · exact h2 rfl
  · exact h1 rfl
theorem W_cut {a : Code} {Q : Ex → Sl → H → Prop} (I : Sl → H → Prop) (h1 : W P spec nt a T h (fun e T1 h1 => e = .normal ∧ I T1 h1)) (h2 : ∀ T1 h1, I T1 h1 → Q .normal T1 h1) : W P spec nt a T h Q := h1.mono fun e T1 h1 ⟨he, hi⟩ => by subst he; exact h2 T1 h1 hi
theorem WO_fnG {K : Sl → H → Prop} {all l : List Oper} {ty : TypeId} {ps : String} {af : Array Edge} {g : Option (Nat × Bool)} {d : Tmp} {f : FuncId} {args : Array Operand} {vs : List V} {ts : Array TypeId} (hw : wantB all T ⟨some d, .call ⟨.value (.func f), args, ts⟩, ty, ps, af, g⟩ = some true) (ha : evs T args.toList = some vs) (hn : ∀ x y, vs ≠ [.one (.s x), .one (.s y)]) (hd : d < nt)
    (hk : WF P spec f vs h fun v h1 => WO P spec nt all l (T.set d v) h1 K) : WO P spec nt all (⟨some d, .call ⟨.value (.func f), args, ts⟩, ty, ps, af, g⟩ :: l) T h K :=
  WO_cons hw (WX_call (doCall_fn ha hn) (hk.mono fun v h1 q => ⟨_, putT_some hd, q⟩))
theorem WO_fnV {K : Sl → H → Prop} {all l : List Oper} {ty : TypeId} {ps : String} {af : Array Edge} {d : Tmp} {x : Operand} {f : FuncId} {args : Array Operand} {vs : List V} {ts : Array TypeId} (hx : ev T x = some (.one (.fn0 f))) (ha : evs T args.toList = some vs) (hn : ∀ x y, vs ≠ [.one (.s x), .one (.s y)]) (hd : d < nt)
    (hk : WF P spec f vs h fun v h1 => WO P spec nt all l (T.set d v) h1 K) : WO P spec nt all (⟨some d, .call ⟨.value x, args, ts⟩, ty, ps, af, none⟩ :: l) T h K :=
  WO_cons wantB_none (WX_call (doCall_val hx ha hn) (hk.mono fun v h1 q => ⟨_, putT_some hd, q⟩))
end
/-- None of these is told ahead. -/
structure SpecRes (spec : CallF) : Prop where
  s22 : ∀ args h, spec 22 args h = none
  s38 : ∀ args h, spec 38 args h = none
  s39 : ∀ args h, spec 39 args h = none
  s40 : ∀ args h, spec 40 args h = none
  s41 : ∀ args h, spec 41 args h = none
  s50 : ∀ args h, spec 50 args h = none
def okI (x : Int) : Bool := !decide (x < 0) && !decide (1099511627776 < x)
def wtI (x : Int) : Bool := !decide (x < 0) && !decide (1048576 < x)
def Itm.okB (x : Itm) : Bool := okI x.base && okI x.mn && (decide (x.mx = -1) || okI x.mx) && (wtI x.gr && wtI x.sh)
set_option maxHeartbeats 0 in
theorem plain_fn {spec : CallF} (hs : ∀ args h, spec 38 args h = none) {h : H} {x : Int} :
    WF Try.prog spec 38 [.one (.i .i64 x)] h fun v h1 => v = .one (.b (okI x)) ∧ h1 = h := by
  refine WF_of Try.func38 rfl (hs _ _) (by rw [Try.ntmps38]; simp) (by rw [Try.ntmps38]; decide) ?_
  rw [Try.ntmps38, Try.results38]
  simp only [Sl.setMany_cons, Sl.setMany_nil, Nat.zero_add, Nat.reduceAdd]
  (repeat refine W_seq ?_); refine W_region ?_
  (refine VO ?_)
  refine WO_nil ?_; (repeat refine W_seq ?_)
  refine W_region ?_
  (refine VO ?_)
  (refine VX (ex_bin ee ee in_geq) ?_)
  (refine VO ?_)
  refine WO_grd rfl rfl (by simp only [go_sem, ↓reduceIte, Nat.reduceEqDiff]; rfl) (fun c1 => ?_) (fun c1 => ?_)
  · (refine VG (wantB_true rfl rfl (by simp only [go_sem, ↓reduceIte, Nat.reduceEqDiff, c1]; rfl) rfl) (by simp only [go_sem, ↓reduceIte, Nat.reduceEqDiff, Nat.reduceAdd, c1]; rfl) ?_)
    (refine VG (wantB_true rfl rfl (by simp only [go_sem, ↓reduceIte, Nat.reduceEqDiff, c1]; rfl) rfl) (ex_bin (by simp only [go_sem, ↓reduceIte, Nat.reduceEqDiff, c1]; rfl) (by simp only [go_sem, ↓reduceIte, Nat.reduceEqDiff, c1]; rfl) in_leq) ?_)
    (refine VX (by simp only [go_sem, ↓reduceIte, Nat.reduceEqDiff, Nat.reduceAdd, c1]; rfl) ?_)
    (refine VX (by simp only [go_sem, ↓reduceIte, Nat.reduceEqDiff, Nat.reduceAdd, c1]; rfl) ?_)
    refine WO_nil (W_ret ⟨.inr rfl, _, by (simp only [resultB, resB, parts, V.part, Sl.get_set', ↓reduceIte, Nat.reduceEqDiff, c1] <;> rfl), ?_, rfl⟩)
    unfold okI; simp [c1]
  · refine VN (wantB_no rfl rfl (by simp only [go_sem, ↓reduceIte, Nat.reduceEqDiff, c1]; rfl) rfl) ?_
    refine VN (wantB_no rfl rfl (by simp only [go_sem, ↓reduceIte, Nat.reduceEqDiff, c1]; rfl) rfl) ?_
    (refine VX (by simp only [go_sem, ↓reduceIte, Nat.reduceEqDiff, Nat.reduceAdd, c1]; rfl) ?_)
    (refine VX (by simp only [go_sem, ↓reduceIte, Nat.reduceEqDiff, Nat.reduceAdd, c1]; rfl) ?_)
    refine WO_nil (W_ret ⟨.inr rfl, _, by (simp only [resultB, resB, parts, V.part, Sl.get_set', ↓reduceIte, Nat.reduceEqDiff, c1] <;> rfl), ?_, rfl⟩)
    unfold okI; simp [c1]
set_option maxHeartbeats 0 in
theorem may_fn {spec : CallF} (hs : SpecRes spec) {h : H} {x : Itm} (ok : Ok h) :
    WF Try.prog spec 41 [.agg x.cells] h fun v h1 => v = .one (.b x.okB) ∧ Up (· < h.next) h h1 ∧ h1.next = h.next + 1 ∧ Ok h1 := by
  refine WF_of Try.func41 rfl (hs.s41 _ _) (by rw [Try.ntmps41]; simp) (by rw [Try.ntmps41]; decide) ?_
  rw [Try.ntmps41, Try.results41]
  simp only [Sl.setMany_cons, Sl.setMany_nil, Nat.zero_add, Nat.reduceAdd]
  (repeat refine W_seq ?_); refine W_region ?_
  refine WO_boxA (ee) ok (by decide) fun h1 n1 => ?_
  have r1 := n1.cells
  unfold Itm.cells at r1
  (refine VO ?_)
  refine WO_nil ?_; (repeat refine W_seq ?_)
  refine W_cut (fun T h2 => h2 = h1 ∧ T.get 1 = some (.one (.p h.next 0)) ∧ T.get 3 = some (.one (.b (wtI x.gr && wtI x.sh)))) ?_ ?_
  · refine W_region ?_
    (refine VO ?_)
    (refine VX (by simp (disch := first | omega | simp) only [go_sem, ↓reduceIte, Nat.reduceEqDiff, Nat.reduceAdd, r1.row]; rfl) ?_)
    (refine VX (ex_bin ee ee in_geq) ?_)
    (refine VO ?_)
    refine WO_grd rfl rfl (by simp only [go_sem, ↓reduceIte, Nat.reduceEqDiff]; rfl) (fun c1 => ?_) (fun c1 => ?_)
    · (refine VG (wantB_true rfl rfl (by simp only [go_sem, ↓reduceIte, Nat.reduceEqDiff, c1]; rfl) rfl) (by simp only [go_sem, ↓reduceIte, Nat.reduceEqDiff, Nat.reduceAdd, c1]; rfl) ?_)
      (refine VG (wantB_true rfl rfl (by simp only [go_sem, ↓reduceIte, Nat.reduceEqDiff, c1]; rfl) rfl) (by simp (disch := first | omega | simp) only [go_sem, ↓reduceIte, Nat.reduceEqDiff, Nat.reduceAdd, r1.row, c1]; rfl) ?_)
      (refine VG (wantB_true rfl rfl (by simp only [go_sem, ↓reduceIte, Nat.reduceEqDiff, c1]; rfl) rfl) (ex_bin (by simp only [go_sem, ↓reduceIte, Nat.reduceEqDiff, c1]; rfl) (by simp only [go_sem, ↓reduceIte, Nat.reduceEqDiff, c1]; rfl) in_leq) ?_)
      (refine VX (by simp only [go_sem, ↓reduceIte, Nat.reduceEqDiff, Nat.reduceAdd, c1]; rfl) ?_)
      (refine VX (by simp only [go_sem, ↓reduceIte, Nat.reduceEqDiff, Nat.reduceAdd, c1]; rfl) ?_)
      refine WO_grd rfl rfl (by simp only [go_sem, ↓reduceIte, Nat.reduceEqDiff, c1]; rfl) (fun c2 => ?_) (fun c2 => ?_)
      · (refine VG (wantB_true rfl rfl (by simp only [go_sem, ↓reduceIte, Nat.reduceEqDiff, c1, c2]; rfl) rfl) (by simp only [go_sem, ↓reduceIte, Nat.reduceEqDiff, Nat.reduceAdd, c1, c2]; rfl) ?_)
        (refine VG (wantB_true rfl rfl (by simp only [go_sem, ↓reduceIte, Nat.reduceEqDiff, c1, c2]; rfl) rfl) (by simp (disch := first | omega | simp) only [go_sem, ↓reduceIte, Nat.reduceEqDiff, Nat.reduceAdd, r1.row, c1, c2]; rfl) ?_)
        (refine VG (wantB_true rfl rfl (by simp only [go_sem, ↓reduceIte, Nat.reduceEqDiff, c1, c2]; rfl) rfl) (ex_bin (by simp only [go_sem, ↓reduceIte, Nat.reduceEqDiff, c1, c2]; rfl) (by simp only [go_sem, ↓reduceIte, Nat.reduceEqDiff, c1, c2]; rfl) in_geq) ?_)
        (refine VX (by simp only [go_sem, ↓reduceIte, Nat.reduceEqDiff, Nat.reduceAdd, c1, c2]; rfl) ?_)
        (refine VX (by simp only [go_sem, ↓reduceIte, Nat.reduceEqDiff, Nat.reduceAdd, c1, c2]; rfl) ?_)
        refine WO_grd rfl rfl (by simp only [go_sem, ↓reduceIte, Nat.reduceEqDiff, c1, c2]; rfl) (fun c3 => ?_) (fun c3 => ?_)
        · (refine VG (wantB_true rfl rfl (by simp only [go_sem, ↓reduceIte, Nat.reduceEqDiff, c1, c2, c3]; rfl) rfl) (by simp only [go_sem, ↓reduceIte, Nat.reduceEqDiff, Nat.reduceAdd, c1, c2, c3]; rfl) ?_)
          (refine VG (wantB_true rfl rfl (by simp only [go_sem, ↓reduceIte, Nat.reduceEqDiff, c1, c2, c3]; rfl) rfl) (by simp (disch := first | omega | simp) only [go_sem, ↓reduceIte, Nat.reduceEqDiff, Nat.reduceAdd, r1.row, c1, c2, c3]; rfl) ?_)
          (refine VG (wantB_true rfl rfl (by simp only [go_sem, ↓reduceIte, Nat.reduceEqDiff, c1, c2, c3]; rfl) rfl) (ex_bin (by simp only [go_sem, ↓reduceIte, Nat.reduceEqDiff, c1, c2, c3]; rfl) (by simp only [go_sem, ↓reduceIte, Nat.reduceEqDiff, c1, c2, c3]; rfl) in_leq) ?_)
          (refine VX (by simp only [go_sem, ↓reduceIte, Nat.reduceEqDiff, Nat.reduceAdd, c1, c2, c3]; rfl) ?_)
          (refine VX (by simp only [go_sem, ↓reduceIte, Nat.reduceEqDiff, Nat.reduceAdd, c1, c2, c3]; rfl) ?_)
          refine WO_nil ⟨rfl, rfl, by (simp only [go_sem, ↓reduceIte, Nat.reduceEqDiff, c1, c2, c3] <;> first | rfl | simp), ?_⟩
          simp only [go_sem, ↓reduceIte, Nat.reduceEqDiff]
          unfold wtI
          simp [c1, c2, c3]
        · refine VN (wantB_no rfl rfl (by simp only [go_sem, ↓reduceIte, Nat.reduceEqDiff, c1, c2, c3]; rfl) rfl) ?_
          refine VN (wantB_no rfl rfl (by simp only [go_sem, ↓reduceIte, Nat.reduceEqDiff, c1, c2, c3]; rfl) rfl) ?_
          refine VN (wantB_no rfl rfl (by simp only [go_sem, ↓reduceIte, Nat.reduceEqDiff, c1, c2, c3]; rfl) rfl) ?_
          (refine VX (by simp only [go_sem, ↓reduceIte, Nat.reduceEqDiff, Nat.reduceAdd, c1, c2, c3]; rfl) ?_)
          (refine VX (by simp only [go_sem, ↓reduceIte, Nat.reduceEqDiff, Nat.reduceAdd, c1, c2, c3]; rfl) ?_)
          refine WO_nil ⟨rfl, rfl, by (simp only [go_sem, ↓reduceIte, Nat.reduceEqDiff, c1, c2, c3] <;> first | rfl | simp), ?_⟩
          simp only [go_sem, ↓reduceIte, Nat.reduceEqDiff]
          unfold wtI
          simp [c1, c2, c3]
      · refine VN (wantB_no rfl rfl (by simp only [go_sem, ↓reduceIte, Nat.reduceEqDiff, c1, c2]; rfl) rfl) ?_
        refine VN (wantB_no rfl rfl (by simp only [go_sem, ↓reduceIte, Nat.reduceEqDiff, c1, c2]; rfl) rfl) ?_
        refine VN (wantB_no rfl rfl (by simp only [go_sem, ↓reduceIte, Nat.reduceEqDiff, c1, c2]; rfl) rfl) ?_
        (refine VX (by simp only [go_sem, ↓reduceIte, Nat.reduceEqDiff, Nat.reduceAdd, c1, c2]; rfl) ?_)
        (refine VX (by simp only [go_sem, ↓reduceIte, Nat.reduceEqDiff, Nat.reduceAdd, c1, c2]; rfl) ?_)
        refine VN (wantB_no rfl rfl (by simp only [go_sem, ↓reduceIte, Nat.reduceEqDiff, c1, c2]; rfl) rfl) ?_
        refine VN (wantB_no rfl rfl (by simp only [go_sem, ↓reduceIte, Nat.reduceEqDiff, c1, c2]; rfl) rfl) ?_
        refine VN (wantB_no rfl rfl (by simp only [go_sem, ↓reduceIte, Nat.reduceEqDiff, c1, c2]; rfl) rfl) ?_
        (refine VX (by simp only [go_sem, ↓reduceIte, Nat.reduceEqDiff, Nat.reduceAdd, c1, c2]; rfl) ?_)
        (refine VX (by simp only [go_sem, ↓reduceIte, Nat.reduceEqDiff, Nat.reduceAdd, c1, c2]; rfl) ?_)
        refine WO_nil ⟨rfl, rfl, by (simp only [go_sem, ↓reduceIte, Nat.reduceEqDiff, c1, c2] <;> first | rfl | simp), ?_⟩
        simp only [go_sem, ↓reduceIte, Nat.reduceEqDiff]
        unfold wtI
        simp [c1, c2]
    · refine VN (wantB_no rfl rfl (by simp only [go_sem, ↓reduceIte, Nat.reduceEqDiff, c1]; rfl) rfl) ?_
      refine VN (wantB_no rfl rfl (by simp only [go_sem, ↓reduceIte, Nat.reduceEqDiff, c1]; rfl) rfl) ?_
      refine VN (wantB_no rfl rfl (by simp only [go_sem, ↓reduceIte, Nat.reduceEqDiff, c1]; rfl) rfl) ?_
      (refine VX (by simp only [go_sem, ↓reduceIte, Nat.reduceEqDiff, Nat.reduceAdd, c1]; rfl) ?_)
      (refine VX (by simp only [go_sem, ↓reduceIte, Nat.reduceEqDiff, Nat.reduceAdd, c1]; rfl) ?_)
      refine VN (wantB_no rfl rfl (by simp only [go_sem, ↓reduceIte, Nat.reduceEqDiff, c1]; rfl) rfl) ?_
      refine VN (wantB_no rfl rfl (by simp only [go_sem, ↓reduceIte, Nat.reduceEqDiff, c1]; rfl) rfl) ?_
      refine VN (wantB_no rfl rfl (by simp only [go_sem, ↓reduceIte, Nat.reduceEqDiff, c1]; rfl) rfl) ?_
      (refine VX (by simp only [go_sem, ↓reduceIte, Nat.reduceEqDiff, Nat.reduceAdd, c1]; rfl) ?_)
      (refine VX (by simp only [go_sem, ↓reduceIte, Nat.reduceEqDiff, Nat.reduceAdd, c1]; rfl) ?_)
      refine VN (wantB_no rfl rfl (by simp only [go_sem, ↓reduceIte, Nat.reduceEqDiff, c1]; rfl) rfl) ?_
      refine VN (wantB_no rfl rfl (by simp only [go_sem, ↓reduceIte, Nat.reduceEqDiff, c1]; rfl) rfl) ?_
      refine VN (wantB_no rfl rfl (by simp only [go_sem, ↓reduceIte, Nat.reduceEqDiff, c1]; rfl) rfl) ?_
      (refine VX (by simp only [go_sem, ↓reduceIte, Nat.reduceEqDiff, Nat.reduceAdd, c1]; rfl) ?_)
      (refine VX (by simp only [go_sem, ↓reduceIte, Nat.reduceEqDiff, Nat.reduceAdd, c1]; rfl) ?_)
      refine WO_nil ⟨rfl, rfl, by (simp only [go_sem, ↓reduceIte, Nat.reduceEqDiff, c1] <;> first | rfl | simp), ?_⟩
      simp only [go_sem, ↓reduceIte, Nat.reduceEqDiff]
      unfold wtI
      simp [c1]
  rintro T h2 ⟨rfl, t1, t3⟩
  (repeat refine W_seq ?_); refine W_region ?_
  (refine VX (by simp only [go_sem, ↓reduceIte, Nat.reduceEqDiff, Nat.reduceAdd, t1, t3]; rfl) ?_)
  (refine VX (by simp (disch := first | omega | simp) only [go_sem, ↓reduceIte, Nat.reduceEqDiff, Nat.reduceAdd, r1.row, t1, t3]; rfl) ?_)
  refine WO_fn (by (simp only [go_sem, ↓reduceIte, Nat.reduceEqDiff, t1, t3] <;> rfl)) (by simp) (by decide) ((plain_fn hs.s38).mono ?_)
  rintro _ _ ⟨rfl, rfl⟩
  (refine VX (by simp only [go_sem, ↓reduceIte, Nat.reduceEqDiff, Nat.reduceAdd, t1, t3]; rfl) ?_)
  refine WO_grd rfl rfl (by simp only [go_sem, ↓reduceIte, Nat.reduceEqDiff, t1, t3]; rfl) (fun c1 => ?_) (fun c1 => ?_)
  · (refine VG (wantB_true rfl rfl (by simp only [go_sem, ↓reduceIte, Nat.reduceEqDiff, t1, t3, c1]; rfl) rfl) (by simp only [go_sem, ↓reduceIte, Nat.reduceEqDiff, Nat.reduceAdd, t1, t3, c1]; rfl) ?_)
    (refine VG (wantB_true rfl rfl (by simp only [go_sem, ↓reduceIte, Nat.reduceEqDiff, t1, t3, c1]; rfl) rfl) (by simp (disch := first | omega | simp) only [go_sem, ↓reduceIte, Nat.reduceEqDiff, Nat.reduceAdd, r1.row, t1, t3, c1]; rfl) ?_)
    refine WO_fnG (wantB_true rfl rfl (by simp only [go_sem, ↓reduceIte, Nat.reduceEqDiff, t1, t3, c1]; rfl) rfl)  (by (simp only [go_sem, ↓reduceIte, Nat.reduceEqDiff, t1, t3, c1] <;> rfl)) (by simp) (by decide) ((plain_fn hs.s38).mono ?_)
    rintro _ _ ⟨rfl, rfl⟩
    (refine VX (by simp only [go_sem, ↓reduceIte, Nat.reduceEqDiff, Nat.reduceAdd, t1, t3, c1]; rfl) ?_)
    (refine VX (by simp only [go_sem, ↓reduceIte, Nat.reduceEqDiff, Nat.reduceAdd, t1, t3, c1]; rfl) ?_)
    refine WO_grd rfl rfl (by simp only [go_sem, ↓reduceIte, Nat.reduceEqDiff, t1, t3, c1]; rfl) (fun c2 => ?_) (fun c2 => ?_)
    · (refine VG (wantB_true rfl rfl (by simp only [go_sem, ↓reduceIte, Nat.reduceEqDiff, t1, t3, c1, c2]; rfl) rfl) (by simp only [go_sem, ↓reduceIte, Nat.reduceEqDiff, Nat.reduceAdd, t1, t3, c1, c2]; rfl) ?_)
      (refine VG (wantB_true rfl rfl (by simp only [go_sem, ↓reduceIte, Nat.reduceEqDiff, t1, t3, c1, c2]; rfl) rfl) (by simp (disch := first | omega | simp) only [go_sem, ↓reduceIte, Nat.reduceEqDiff, Nat.reduceAdd, r1.row, t1, t3, c1, c2]; rfl) ?_)
      (refine VG (wantB_true rfl rfl (by simp only [go_sem, ↓reduceIte, Nat.reduceEqDiff, t1, t3, c1, c2]; rfl) rfl) (ex_bin (by simp only [go_sem, ↓reduceIte, Nat.reduceEqDiff, t1, t3, c1, c2]; rfl) (by simp only [go_sem, ↓reduceIte, Nat.reduceEqDiff, t1, t3, c1, c2]; rfl) in_eql) ?_)
      (refine VG (wantB_true rfl rfl (by simp only [go_sem, ↓reduceIte, Nat.reduceEqDiff, t1, t3, c1, c2]; rfl) rfl) (by simp only [go_sem, ↓reduceIte, Nat.reduceEqDiff, Nat.reduceAdd, t1, t3, c1, c2]; rfl) ?_)
      refine WO_grd rfl rfl (by simp only [go_sem, ↓reduceIte, Nat.reduceEqDiff, t1, t3, c1, c2]; rfl) (fun c3 => ?_) (fun c3 => ?_)
      · refine VN (wantB_no rfl rfl (by simp only [go_sem, ↓reduceIte, Nat.reduceEqDiff, t1, t3, c1, c2, c3]; rfl) rfl) ?_
        refine VN (wantB_no rfl rfl (by simp only [go_sem, ↓reduceIte, Nat.reduceEqDiff, t1, t3, c1, c2, c3]; rfl) rfl) ?_
        refine VN (wantB_no rfl rfl (by simp only [go_sem, ↓reduceIte, Nat.reduceEqDiff, t1, t3, c1, c2, c3]; rfl) rfl) ?_
        (refine VG (wantB_true rfl rfl (by simp only [go_sem, ↓reduceIte, Nat.reduceEqDiff, t1, t3, c1, c2, c3]; rfl) rfl) (by simp only [go_sem, ↓reduceIte, Nat.reduceEqDiff, Nat.reduceAdd, t1, t3, c1, c2, c3]; rfl) ?_)
        (refine VX (by simp only [go_sem, ↓reduceIte, Nat.reduceEqDiff, Nat.reduceAdd, t1, t3, c1, c2, c3]; rfl) ?_)
        (refine VX (by simp only [go_sem, ↓reduceIte, Nat.reduceEqDiff, Nat.reduceAdd, t1, t3, c1, c2, c3]; rfl) ?_)
        (refine VG (wantB_true rfl rfl (by simp only [go_sem, ↓reduceIte, Nat.reduceEqDiff, t1, t3, c1, c2, c3]; rfl) rfl) (by simp only [go_sem, ↓reduceIte, Nat.reduceEqDiff, Nat.reduceAdd, t1, t3, c1, c2, c3]; rfl) ?_)
        (refine VX (by simp only [go_sem, ↓reduceIte, Nat.reduceEqDiff, Nat.reduceAdd, t1, t3, c1, c2, c3]; rfl) ?_)
        (refine VX (by simp only [go_sem, ↓reduceIte, Nat.reduceEqDiff, Nat.reduceAdd, t1, t3, c1, c2, c3]; rfl) ?_)
        refine WO_nil (W_ret ⟨.inr rfl, _, by (simp only [resultB, resB, parts, V.part, Sl.get_set', ↓reduceIte, Nat.reduceEqDiff, c1, c2, c3] <;> rfl), ?_, n1.up, n1.next, n1.ok⟩)
        unfold Itm.okB
        simp [c1, c2, c3]
      · (refine VG (wantB_true rfl rfl (by simp only [go_sem, ↓reduceIte, Nat.reduceEqDiff, t1, t3, c1, c2, c3]; rfl) rfl) (by simp only [go_sem, ↓reduceIte, Nat.reduceEqDiff, Nat.reduceAdd, t1, t3, c1, c2, c3]; rfl) ?_)
        (refine VG (wantB_true rfl rfl (by simp only [go_sem, ↓reduceIte, Nat.reduceEqDiff, t1, t3, c1, c2, c3]; rfl) rfl) (by simp (disch := first | omega | simp) only [go_sem, ↓reduceIte, Nat.reduceEqDiff, Nat.reduceAdd, r1.row, t1, t3, c1, c2, c3]; rfl) ?_)
        refine WO_fnG (wantB_true rfl rfl (by simp only [go_sem, ↓reduceIte, Nat.reduceEqDiff, t1, t3, c1, c2, c3]; rfl) rfl)  (by (simp only [go_sem, ↓reduceIte, Nat.reduceEqDiff, t1, t3, c1, c2, c3] <;> rfl)) (by simp) (by decide) ((plain_fn hs.s38).mono ?_)
        rintro _ _ ⟨rfl, rfl⟩
        (refine VG (wantB_true rfl rfl (by simp only [go_sem, ↓reduceIte, Nat.reduceEqDiff, t1, t3, c1, c2, c3]; rfl) rfl) (by simp only [go_sem, ↓reduceIte, Nat.reduceEqDiff, Nat.reduceAdd, t1, t3, c1, c2, c3]; rfl) ?_)
        (refine VX (by simp only [go_sem, ↓reduceIte, Nat.reduceEqDiff, Nat.reduceAdd, t1, t3, c1, c2, c3]; rfl) ?_)
        (refine VX (by simp only [go_sem, ↓reduceIte, Nat.reduceEqDiff, Nat.reduceAdd, t1, t3, c1, c2, c3]; rfl) ?_)
        refine WO_grd rfl rfl (by simp only [go_sem, ↓reduceIte, Nat.reduceEqDiff, t1, t3, c1, c2, c3]; rfl) (fun c4 => ?_) (fun c4 => ?_)
        · (refine VG (wantB_true rfl rfl (by simp only [go_sem, ↓reduceIte, Nat.reduceEqDiff, t1, t3, c1, c2, c3, c4]; rfl) rfl) (by simp only [go_sem, ↓reduceIte, Nat.reduceEqDiff, Nat.reduceAdd, t1, t3, c1, c2, c3, c4]; rfl) ?_)
          (refine VX (by simp only [go_sem, ↓reduceIte, Nat.reduceEqDiff, Nat.reduceAdd, t1, t3, c1, c2, c3, c4]; rfl) ?_)
          (refine VX (by simp only [go_sem, ↓reduceIte, Nat.reduceEqDiff, Nat.reduceAdd, t1, t3, c1, c2, c3, c4]; rfl) ?_)
          refine WO_nil (W_ret ⟨.inr rfl, _, by (simp only [resultB, resB, parts, V.part, Sl.get_set', ↓reduceIte, Nat.reduceEqDiff, c1, c2, c3, c4] <;> rfl), ?_, n1.up, n1.next, n1.ok⟩)
          unfold Itm.okB
          simp [c1, c2, c3, c4]
        · refine VN (wantB_no rfl rfl (by simp only [go_sem, ↓reduceIte, Nat.reduceEqDiff, t1, t3, c1, c2, c3, c4]; rfl) rfl) ?_
          (refine VX (by simp only [go_sem, ↓reduceIte, Nat.reduceEqDiff, Nat.reduceAdd, t1, t3, c1, c2, c3, c4]; rfl) ?_)
          (refine VX (by simp only [go_sem, ↓reduceIte, Nat.reduceEqDiff, Nat.reduceAdd, t1, t3, c1, c2, c3, c4]; rfl) ?_)
          refine WO_nil (W_ret ⟨.inr rfl, _, by (simp only [resultB, resB, parts, V.part, Sl.get_set', ↓reduceIte, Nat.reduceEqDiff, c1, c2, c3, c4] <;> rfl), ?_, n1.up, n1.next, n1.ok⟩)
          unfold Itm.okB
          simp [c1, c2, c3, c4]
    · refine VN (wantB_no rfl rfl (by simp only [go_sem, ↓reduceIte, Nat.reduceEqDiff, t1, t3, c1, c2]; rfl) rfl) ?_
      refine VN (wantB_no rfl rfl (by simp only [go_sem, ↓reduceIte, Nat.reduceEqDiff, t1, t3, c1, c2]; rfl) rfl) ?_
      refine VN (wantB_no rfl rfl (by simp only [go_sem, ↓reduceIte, Nat.reduceEqDiff, t1, t3, c1, c2]; rfl) rfl) ?_
      refine VN (wantB_no rfl rfl (by simp only [go_sem, ↓reduceIte, Nat.reduceEqDiff, t1, t3, c1, c2]; rfl) rfl) ?_
      refine VN (wantB_no rfl rfl (by simp only [go_sem, ↓reduceIte, Nat.reduceEqDiff, t1, t3, c1, c2]; rfl) rfl) ?_
      refine VN (wantB_no rfl rfl (by simp only [go_sem, ↓reduceIte, Nat.reduceEqDiff, t1, t3, c1, c2]; rfl) rfl) ?_
      refine VN (wantB_no rfl rfl (by simp only [go_sem, ↓reduceIte, Nat.reduceEqDiff, t1, t3, c1, c2]; rfl) rfl) ?_
      refine VN (wantB_no rfl rfl (by simp only [go_sem, ↓reduceIte, Nat.reduceEqDiff, t1, t3, c1, c2]; rfl) rfl) ?_
      (refine VX (by simp only [go_sem, ↓reduceIte, Nat.reduceEqDiff, Nat.reduceAdd, t1, t3, c1, c2]; rfl) ?_)
      (refine VX (by simp only [go_sem, ↓reduceIte, Nat.reduceEqDiff, Nat.reduceAdd, t1, t3, c1, c2]; rfl) ?_)
      refine VN (wantB_no rfl rfl (by simp only [go_sem, ↓reduceIte, Nat.reduceEqDiff, t1, t3, c1, c2]; rfl) rfl) ?_
      (refine VX (by simp only [go_sem, ↓reduceIte, Nat.reduceEqDiff, Nat.reduceAdd, t1, t3, c1, c2]; rfl) ?_)
      (refine VX (by simp only [go_sem, ↓reduceIte, Nat.reduceEqDiff, Nat.reduceAdd, t1, t3, c1, c2]; rfl) ?_)
      refine WO_nil (W_ret ⟨.inr rfl, _, by (simp only [resultB, resB, parts, V.part, Sl.get_set', ↓reduceIte, Nat.reduceEqDiff, c1, c2] <;> rfl), ?_, n1.up, n1.next, n1.ok⟩)
      unfold Itm.okB
      simp [c1, c2]
  · refine VN (wantB_no rfl rfl (by simp only [go_sem, ↓reduceIte, Nat.reduceEqDiff, t1, t3, c1]; rfl) rfl) ?_
    refine VN (wantB_no rfl rfl (by simp only [go_sem, ↓reduceIte, Nat.reduceEqDiff, t1, t3, c1]; rfl) rfl) ?_
    refine VN (wantB_no rfl rfl (by simp only [go_sem, ↓reduceIte, Nat.reduceEqDiff, t1, t3, c1]; rfl) rfl) ?_
    (refine VX (by simp only [go_sem, ↓reduceIte, Nat.reduceEqDiff, Nat.reduceAdd, t1, t3, c1]; rfl) ?_)
    (refine VX (by simp only [go_sem, ↓reduceIte, Nat.reduceEqDiff, Nat.reduceAdd, t1, t3, c1]; rfl) ?_)
    refine VN (wantB_no rfl rfl (by simp only [go_sem, ↓reduceIte, Nat.reduceEqDiff, t1, t3, c1]; rfl) rfl) ?_
    refine VN (wantB_no rfl rfl (by simp only [go_sem, ↓reduceIte, Nat.reduceEqDiff, t1, t3, c1]; rfl) rfl) ?_
    refine VN (wantB_no rfl rfl (by simp only [go_sem, ↓reduceIte, Nat.reduceEqDiff, t1, t3, c1]; rfl) rfl) ?_
    refine VN (wantB_no rfl rfl (by simp only [go_sem, ↓reduceIte, Nat.reduceEqDiff, t1, t3, c1]; rfl) rfl) ?_
    refine VN (wantB_no rfl rfl (by simp only [go_sem, ↓reduceIte, Nat.reduceEqDiff, t1, t3, c1]; rfl) rfl) ?_
    refine VN (wantB_no rfl rfl (by simp only [go_sem, ↓reduceIte, Nat.reduceEqDiff, t1, t3, c1]; rfl) rfl) ?_
    refine VN (wantB_no rfl rfl (by simp only [go_sem, ↓reduceIte, Nat.reduceEqDiff, t1, t3, c1]; rfl) rfl) ?_
    refine VN (wantB_no rfl rfl (by simp only [go_sem, ↓reduceIte, Nat.reduceEqDiff, t1, t3, c1]; rfl) rfl) ?_
    (refine VX (by simp only [go_sem, ↓reduceIte, Nat.reduceEqDiff, Nat.reduceAdd, t1, t3, c1]; rfl) ?_)
    (refine VX (by simp only [go_sem, ↓reduceIte, Nat.reduceEqDiff, Nat.reduceAdd, t1, t3, c1]; rfl) ?_)
    refine VN (wantB_no rfl rfl (by simp only [go_sem, ↓reduceIte, Nat.reduceEqDiff, t1, t3, c1]; rfl) rfl) ?_
    (refine VX (by simp only [go_sem, ↓reduceIte, Nat.reduceEqDiff, Nat.reduceAdd, t1, t3, c1]; rfl) ?_)
    (refine VX (by simp only [go_sem, ↓reduceIte, Nat.reduceEqDiff, Nat.reduceAdd, t1, t3, c1]; rfl) ?_)
    refine WO_nil (W_ret ⟨.inr rfl, _, by (simp only [resultB, resB, parts, V.part, Sl.get_set', ↓reduceIte, Nat.reduceEqDiff, c1] <;> rfl), ?_, n1.up, n1.next, n1.ok⟩)
    unfold Itm.okB
    simp [c1]
set_option maxHeartbeats 0 in
theorem notmay_fn {spec : CallF} (hs : SpecRes spec) {h : H} {x : Itm} (ok : Ok h) :
    WF Try.prog spec 40 [.agg x.cells] h fun v h1 => v = .one (.b (!x.okB)) ∧ Up (· < h.next) h h1 ∧ Ok h1 := by
  refine WF_of Try.func40 rfl (hs.s40 _ _) (by rw [Try.ntmps40]; simp) (by rw [Try.ntmps40]; decide) ?_
  rw [Try.ntmps40, Try.results40]
  simp only [Sl.setMany_cons, Sl.setMany_nil, Nat.zero_add, Nat.reduceAdd]
  (repeat refine W_seq ?_); refine W_region ?_
  refine WO_boxA (ee) ok (by decide) fun h1 n1 => ?_
  have e1 := n1.next
  (refine VO ?_)
  refine WO_nil ?_; (repeat refine W_seq ?_)
  refine W_region ?_
  have r1 : h1.row h.next 0 5 = some x.cells := by rw [n1.cells.row (by simp [Itm.cells])]; rfl
  (refine VX (by simp (disch := first | omega | simp) only [go_sem, ↓reduceIte, Nat.reduceEqDiff, Nat.reduceAdd, r1]; rfl) ?_)
  refine WO_fn (ee) (by simp) (by decide) ((may_fn hs n1.ok).mono ?_)
  rintro v h2 ⟨rfl, u2, _, o2⟩
  (refine VX (ex_not (by simp only [go_sem, ↓reduceIte, Nat.reduceEqDiff]; rfl)) ?_)
  (refine VO ?_)
  exact WO_nil (W_ret ⟨.inr rfl, _, by (simp only [resultB, resB, parts, V.part, Sl.get_set', ↓reduceIte, Nat.reduceEqDiff] <;> rfl), rfl, n1.up.trans (u2.mono fun b hb => by omega), o2⟩)
theorem okB_take {L : List Itm} {k : Nat} {y : Itm} (hy : L[k]? = some y) : (L.take (k + 1)).all Itm.okB = ((L.take k).all Itm.okB && y.okB) := by
  obtain ⟨hk, rfl⟩ := List.getElem?_eq_some_iff.1 hy
  rw [List.take_succ_eq_append_getElem hk, List.all_append]
  simp only [List.all_cons, List.all_nil, Bool.and_true]
set_option maxHeartbeats 0 in
theorem index_fn {spec : CallF} (hs : SpecRes spec) {h : H} {v : S} {L : List Itm} (ok : Ok h) (hi : ItemsAt h v L) (hn : L.length ≤ 1000) :
    WF Try.prog spec 50 [.one v, .one (.fn0 40)] h fun r h1 => (∃ i : Int, r = .one (.i .i64 i) ∧ (i < 0 ↔ L.all Itm.okB = true)) ∧ Up (· < h.next) h h1 ∧ Ok h1 := by
  refine WF_of Try.func50 rfl (hs.s50 _ _) (by rw [Try.ntmps50]; simp) (by rw [Try.ntmps50]; decide) ?_
  rw [Try.ntmps50, Try.results50]
  simp only [Sl.setMany_cons, Sl.setMany_nil, Nat.zero_add, Nat.reduceAdd]
  (repeat refine W_seq ?_); refine W_region ?_
  (refine VO ?_)
  refine WO_nil ?_; (repeat refine W_seq ?_)
  refine W_region ?_
  (refine VO ?_)
  refine WO_val (hi.len (ee)) (by decide) ?_
  (refine VO ?_)
  refine WO_nil ?_; (repeat refine W_seq ?_)
  refine W_block (W_rounds (fun j T h1 => ∃ k, j = L.length - k ∧ k ≤ L.length ∧ T.get 0 = some (.one v) ∧ T.get 1 = some (.one (.fn0 40)) ∧ T.get 7 = some (.one (.i .i64 (L.length : Int))) ∧ T.get 8 = some (.one (.i .i64 (k : Int))) ∧ (L.take k).all Itm.okB = true ∧ Up (· < h.next) h h1 ∧ Ok h1) ?_ L.length _ _ ⟨0, rfl, Nat.zero_le _, gs, gs, gs, gs, rfl, .refl _ _, ok⟩)
  rintro j T h1 ⟨k, rfl, hk, t0, t1, t7, t8, hall, u1, o1⟩
  have hn1 := u1.next
  (repeat refine W_seq ?_); refine W_region ?_
  (refine VX (ex_bin (by simp only [go_sem, ↓reduceIte, Nat.reduceEqDiff, t7, t8]; rfl) (by simp only [go_sem, ↓reduceIte, Nat.reduceEqDiff, t7, t8]; rfl) in_lss) ?_)
  refine WO_nil ?_; (repeat refine W_seq ?_)
  refine W_cond (ee) (fun hlt => W_skip ?_) (fun hge => W_exit ?_)
  · have hlt : (k : Int) < (L.length : Int) := by simpa using hlt
    have hlt : k < L.length := by omega
    obtain ⟨y, hy⟩ : ∃ y, L[k]? = some y := ⟨_, List.getElem?_eq_getElem hlt⟩
    obtain ⟨b, o, c, ex, rfl, hbn, hrows⟩ : ∃ b o c ex, v = .sl b o L.length c 5 ex ∧ b < h.next ∧ ∀ k x, L[k]? = some x → h.row b (o + k * 5) 5 = some x.cells := by
      rcases hi with ⟨rfl, _⟩ | q
      · simp at hlt
      · exact q
    have r1 : h1.row b (o + k * 5) 5 = some y.cells := by rw [u1.row hbn]; exact hrows k y hy
    have ht := okB_take hy
    rw [hall, Bool.true_and] at ht
    repeat refine W_seq ?_
    refine W_block ?_
    (repeat refine W_seq ?_); refine W_region ?_
    iterate 2 (refine VX (by simp only [go_sem, ↓reduceIte, Nat.reduceEqDiff, Nat.reduceAdd, t8]; rfl) ?_)
    refine WO_nil ?_; (repeat refine W_seq ?_)
    refine W_region ?_
    iterate 3 (refine VX (by simp only [go_sem, ↓reduceIte, Nat.reduceEqDiff, Nat.reduceAdd, t0, t1]; rfl) ?_)
    (refine VX (by simp (disch := first | omega | simp) only [go_sem, ↓reduceIte, Nat.reduceEqDiff, Nat.reduceAdd, t0, t1]; rfl) ?_)
    (refine VX (by simp (disch := first | omega | simp) only [go_sem, ↓reduceIte, Nat.reduceEqDiff, Nat.reduceAdd, r1, t0, t1]; rfl) ?_)
    refine WO_fnV (by (simp only [go_sem, ↓reduceIte, Nat.reduceEqDiff, t1] <;> rfl)) (ee) (by simp) (by decide) ((notmay_fn hs o1).mono ?_)
    rintro w h2 ⟨rfl, u2, o2⟩
    skip
    refine WO_nil ?_; (repeat refine W_seq ?_)
    have u02 := u1.trans (u2.mono fun b hb => by omega)
    refine W_cond (ee) (fun hb => ?_) (fun hb => W_skip ?_)
    · have hb : y.okB = false := by simpa using hb
      have : L.all Itm.okB = false := by
        rw [hb] at ht
        rw [← Bool.not_eq_true, List.all_eq_true] at ht ⊢
        exact fun q => ht fun x hx => q x (List.mem_of_mem_take hx)
      (repeat refine W_seq ?_); refine W_region ?_
      iterate 2 (refine VO ?_)
      exact WO_nil (W_ret ⟨.inr rfl, _, by (simp only [resultB, resB, parts, V.part, Sl.get_set', ↓reduceIte, Nat.reduceEqDiff] <;> rfl), ⟨_, rfl, by rw [this]; simp⟩, u02, o2⟩)
    · have hb : y.okB = true := by simpa using hb
      (repeat refine W_seq ?_); refine W_region ?_
      (refine VX (ex_bin (by simp only [go_sem, ↓reduceIte, Nat.reduceEqDiff, t8]; rfl) (by simp only [go_sem, ↓reduceIte, Nat.reduceEqDiff, t8]; rfl) in_add) ?_; (try rw [wrap_id (by omega) (by omega)]))
      (refine VX (by simp only [go_sem, ↓reduceIte, Nat.reduceEqDiff, Nat.reduceAdd, t8]; rfl) ?_)
      exact WO_nil ⟨_, by omega, k + 1, rfl, hlt, gt t0, gt t1, gt t7, gs, by rw [ht, hb], u02, o2⟩
  · have hge : ¬ (k : Int) < (L.length : Int) := by simpa using hge
    have hk : k = L.length := by omega
    subst hk
    rw [List.take_length] at hall
    refine ⟨fun _ => ?_, fun hne => absurd rfl hne⟩
    (repeat refine W_seq ?_); refine W_region ?_
    (refine VO ?_)
    exact WO_nil (W_ret ⟨.inr rfl, _, by (simp only [resultB, resB, parts, V.part, Sl.get_set', ↓reduceIte, Nat.reduceEqDiff] <;> rfl), ⟨_, rfl, by simp [hall]⟩, u1, o1⟩)
set_option maxHeartbeats 0 in
theorem contains_fn {spec : CallF} (hs : SpecRes spec) {h : H} {v : S} {L : List Itm} (ok : Ok h) (hi : ItemsAt h v L) (hn : L.length ≤ 1000) :
    WF Try.prog spec 39 [.one v, .one (.fn0 40)] h fun r h1 => r = .one (.b (!L.all Itm.okB)) ∧ Up (· < h.next) h h1 ∧ Ok h1 := by
  refine WF_of Try.func39 rfl (hs.s39 _ _) (by rw [Try.ntmps39]; simp) (by rw [Try.ntmps39]; decide) ?_
  rw [Try.ntmps39, Try.results39]
  simp only [Sl.setMany_cons, Sl.setMany_nil, Nat.zero_add, Nat.reduceAdd]
  (repeat refine W_seq ?_); refine W_region ?_
  (refine VO ?_)
  refine WO_nil ?_; (repeat refine W_seq ?_)
  refine W_region ?_
  iterate 2 (refine VO ?_)
  refine WO_fn (ee) (by simp) (by decide) ((index_fn hs ok hi hn).mono ?_)
  rintro w h2 ⟨⟨i, rfl, hi⟩, u2, o2⟩
  (refine VX (ex_bin ee ee in_geq) ?_)
  (refine VO ?_)
  refine WO_nil (W_ret ⟨.inr rfl, _, by (simp only [resultB, resB, parts, V.part, Sl.get_set', ↓reduceIte, Nat.reduceEqDiff] <;> rfl), ?_, u2, o2⟩)
  have : decide (i < 0) = L.all Itm.okB := by rw [Bool.eq_iff_iff, decide_eq_true_iff]; exact hi
  rw [this]
def resOk (L : List Itm) (gap room : Int) : Bool := !decide (64 < (L.length : Int)) && okI gap && okI room && L.all Itm.okB
theorem okI_iff {x : Int} : okI x = true ↔ 0 ≤ x ∧ x ≤ 1099511627776 := by simp [okI]
theorem wtI_iff {x : Int} : wtI x = true ↔ 0 ≤ x ∧ x ≤ 1048576 := by simp [wtI]
theorem okB_iff {x : Itm} : x.okB = true ↔ x.ok := by
  unfold Itm.okB
  simp only [Bool.and_eq_true, Bool.or_eq_true, okI_iff, wtI_iff, decide_eq_true_eq]
  constructor
  · rintro ⟨⟨⟨h1, h2⟩, h3⟩, h4, h5⟩; exact ⟨h1, h2, by omega, h4, h5⟩
  · rintro ⟨h1, h2, h3, h4, h5⟩; exact ⟨⟨⟨h1, h2⟩, by omega⟩, h4, h5⟩
theorem resOk_iff {L : List Itm} {gap room : Int} : resOk L gap room = true ↔ LineOk L gap room := by
  unfold resOk
  simp only [Bool.and_eq_true, okI_iff, List.all_eq_true, okB_iff, Bool.not_eq_true', decide_eq_false_iff_not]
  constructor
  · rintro ⟨⟨⟨h1, h2⟩, h3⟩, h4⟩; exact ⟨h4, by omega, h2, h3⟩
  · rintro ⟨h1, h2, h3, h4⟩; exact ⟨⟨⟨by omega, h3⟩, h4⟩, h1⟩
theorem len64 {n : Nat} (h : decide ((64 : Int) < (n : Int)) = false) : n ≤ 1000 := by simp at h; omega
theorem Grown.from_ {h : H} {v : S} {n0 m0 e s : Nat} {xs : List S} (k : Grown h v n0 e s xs) (hm : m0 ≤ n0) : Grown h v m0 e s xs := by
  rcases k with q | ⟨q, n, rfl, q1, q2, q3, q4, q5, q6⟩
  · exact .inl q
  · exact .inr ⟨q, n, rfl, q1, q2, q3, q4, by omega, q6⟩
/-- What flex.Resolve tells. -/
def Told (h h1 : H) (r : V) (L : List Itm) (gap room : Int) : Prop := ∃ x, r = .tup [(false, [x]), (false, [.i .i64 (if resOk L gap room then 0 else 1)])] ∧ Grown h1 x h.next 3 1 (nums (if resOk L gap room then solveI prtI L gap room else [])) ∧ Up (· < h.next) h h1 ∧ Ok h1
set_option maxHeartbeats 0 in
theorem resolve_fn {spec : CallF} (hs : SpecRes spec) (hs1 : SpecFlex spec) (hs2 : SpecSort spec) {h : H} {v : S} {L : List Itm} {gap room : Int} (ok : Ok h) (hi : ItemsAt h v L) :
    WF Try.prog spec 22 [.one v, .one (.i .i64 gap), .one (.i .i64 room)] h fun r h1 => Told h h1 r L gap room := by
  refine WF_of Try.func22 rfl (hs.s22 _ _) (by rw [Try.ntmps22]; simp) (by rw [Try.ntmps22]; decide) ?_
  rw [Try.ntmps22, Try.results22]
  simp only [Sl.setMany_cons, Sl.setMany_nil, Nat.zero_add, Nat.reduceAdd]
  (repeat refine W_seq ?_); refine W_region ?_
  iterate 2 (refine VO ?_)
  refine WO_nil ?_; (repeat refine W_seq ?_)
  refine W_cut (fun T h1 => T.get 0 = some (.one v) ∧ T.get 1 = some (.one (.i .i64 gap)) ∧ T.get 2 = some (.one (.i .i64 room)) ∧ T.get 24 = some (.one (.b (!resOk L gap room))) ∧ Up (· < h.next) h h1 ∧ Ok h1) ?_ ?_
  · refine W_region ?_
    (refine VO ?_)
    refine WO_val (hi.len (ee)) (by decide) ?_
    (refine VX (ex_bin ee ee in_gtr) ?_)
    (refine VO ?_)
    refine WO_grd rfl rfl (by simp only [go_sem, ↓reduceIte, Nat.reduceEqDiff]; rfl) (fun c1 => ?_) (fun c1 => ?_)
    · refine VN (wantB_no rfl rfl (by simp only [go_sem, ↓reduceIte, Nat.reduceEqDiff, c1]; rfl) rfl) ?_
      refine VN (wantB_no rfl rfl (by simp only [go_sem, ↓reduceIte, Nat.reduceEqDiff, c1]; rfl) rfl) ?_
      refine VN (wantB_no rfl rfl (by simp only [go_sem, ↓reduceIte, Nat.reduceEqDiff, c1]; rfl) rfl) ?_
      (refine VX (by simp only [go_sem, ↓reduceIte, Nat.reduceEqDiff, Nat.reduceAdd, c1]; rfl) ?_)
      (refine VX (by simp only [go_sem, ↓reduceIte, Nat.reduceEqDiff, Nat.reduceAdd, c1]; rfl) ?_)
      refine VN (wantB_no rfl rfl (by simp only [go_sem, ↓reduceIte, Nat.reduceEqDiff, c1]; rfl) rfl) ?_
      refine VN (wantB_no rfl rfl (by simp only [go_sem, ↓reduceIte, Nat.reduceEqDiff, c1]; rfl) rfl) ?_
      refine VN (wantB_no rfl rfl (by simp only [go_sem, ↓reduceIte, Nat.reduceEqDiff, c1]; rfl) rfl) ?_
      (refine VX (by simp only [go_sem, ↓reduceIte, Nat.reduceEqDiff, Nat.reduceAdd, c1]; rfl) ?_)
      (refine VX (by simp only [go_sem, ↓reduceIte, Nat.reduceEqDiff, Nat.reduceAdd, c1]; rfl) ?_)
      refine VN (wantB_no rfl rfl (by simp only [go_sem, ↓reduceIte, Nat.reduceEqDiff, c1]; rfl) rfl) ?_
      refine VN (wantB_no rfl rfl (by simp only [go_sem, ↓reduceIte, Nat.reduceEqDiff, c1]; rfl) rfl) ?_
      (refine VX (by simp only [go_sem, ↓reduceIte, Nat.reduceEqDiff, Nat.reduceAdd, c1]; rfl) ?_)
      refine WO_nil ⟨rfl, by (simp only [go_sem, ↓reduceIte, Nat.reduceEqDiff, c1] <;> first | rfl | simp), by (simp only [go_sem, ↓reduceIte, Nat.reduceEqDiff, c1] <;> first | rfl | simp), by (simp only [go_sem, ↓reduceIte, Nat.reduceEqDiff, c1] <;> first | rfl | simp), ?_, by first | assumption | exact .refl _ _, by assumption⟩
      simp only [go_sem, ↓reduceIte, Nat.reduceEqDiff]
      unfold resOk
      simp [c1]
    · (refine VG (wantB_true rfl rfl (by simp only [go_sem, ↓reduceIte, Nat.reduceEqDiff, c1]; rfl) rfl) (by simp only [go_sem, ↓reduceIte, Nat.reduceEqDiff, Nat.reduceAdd, c1]; rfl) ?_)
      refine WO_fnG (wantB_true rfl rfl (by simp only [go_sem, ↓reduceIte, Nat.reduceEqDiff, c1]; rfl) rfl)  (by (simp only [go_sem, ↓reduceIte, Nat.reduceEqDiff, c1] <;> rfl)) (by simp) (by decide) ((plain_fn hs.s38).mono ?_)
      rintro _ _ ⟨rfl, rfl⟩
      (refine VG (wantB_true rfl rfl (by simp only [go_sem, ↓reduceIte, Nat.reduceEqDiff, c1]; rfl) rfl) (ex_not (by simp only [go_sem, ↓reduceIte, Nat.reduceEqDiff, c1]; rfl)) ?_)
      (refine VX (by simp only [go_sem, ↓reduceIte, Nat.reduceEqDiff, Nat.reduceAdd, c1]; rfl) ?_)
      (refine VX (by simp only [go_sem, ↓reduceIte, Nat.reduceEqDiff, Nat.reduceAdd, c1]; rfl) ?_)
      refine WO_grd rfl rfl (by simp only [go_sem, ↓reduceIte, Nat.reduceEqDiff, c1]; rfl) (fun c2 => ?_) (fun c2 => ?_)
      · refine VN (wantB_no rfl rfl (by simp only [go_sem, ↓reduceIte, Nat.reduceEqDiff, c1, c2]; rfl) rfl) ?_
        refine VN (wantB_no rfl rfl (by simp only [go_sem, ↓reduceIte, Nat.reduceEqDiff, c1, c2]; rfl) rfl) ?_
        refine VN (wantB_no rfl rfl (by simp only [go_sem, ↓reduceIte, Nat.reduceEqDiff, c1, c2]; rfl) rfl) ?_
        (refine VX (by simp only [go_sem, ↓reduceIte, Nat.reduceEqDiff, Nat.reduceAdd, c1, c2]; rfl) ?_)
        (refine VX (by simp only [go_sem, ↓reduceIte, Nat.reduceEqDiff, Nat.reduceAdd, c1, c2]; rfl) ?_)
        refine VN (wantB_no rfl rfl (by simp only [go_sem, ↓reduceIte, Nat.reduceEqDiff, c1, c2]; rfl) rfl) ?_
        refine VN (wantB_no rfl rfl (by simp only [go_sem, ↓reduceIte, Nat.reduceEqDiff, c1, c2]; rfl) rfl) ?_
        (refine VX (by simp only [go_sem, ↓reduceIte, Nat.reduceEqDiff, Nat.reduceAdd, c1, c2]; rfl) ?_)
        refine WO_nil ⟨rfl, by (simp only [go_sem, ↓reduceIte, Nat.reduceEqDiff, c1, c2] <;> first | rfl | simp), by (simp only [go_sem, ↓reduceIte, Nat.reduceEqDiff, c1, c2] <;> first | rfl | simp), by (simp only [go_sem, ↓reduceIte, Nat.reduceEqDiff, c1, c2] <;> first | rfl | simp), ?_, by first | assumption | exact .refl _ _, by assumption⟩
        simp only [go_sem, ↓reduceIte, Nat.reduceEqDiff]
        unfold resOk
        simp [c1, c2]
      · (refine VG (wantB_true rfl rfl (by simp only [go_sem, ↓reduceIte, Nat.reduceEqDiff, c1, c2]; rfl) rfl) (by simp only [go_sem, ↓reduceIte, Nat.reduceEqDiff, Nat.reduceAdd, c1, c2]; rfl) ?_)
        refine WO_fnG (wantB_true rfl rfl (by simp only [go_sem, ↓reduceIte, Nat.reduceEqDiff, c1, c2]; rfl) rfl)  (by (simp only [go_sem, ↓reduceIte, Nat.reduceEqDiff, c1, c2] <;> rfl)) (by simp) (by decide) ((plain_fn hs.s38).mono ?_)
        rintro _ _ ⟨rfl, rfl⟩
        (refine VG (wantB_true rfl rfl (by simp only [go_sem, ↓reduceIte, Nat.reduceEqDiff, c1, c2]; rfl) rfl) (ex_not (by simp only [go_sem, ↓reduceIte, Nat.reduceEqDiff, c1, c2]; rfl)) ?_)
        (refine VX (by simp only [go_sem, ↓reduceIte, Nat.reduceEqDiff, Nat.reduceAdd, c1, c2]; rfl) ?_)
        (refine VX (by simp only [go_sem, ↓reduceIte, Nat.reduceEqDiff, Nat.reduceAdd, c1, c2]; rfl) ?_)
        refine WO_grd rfl rfl (by simp only [go_sem, ↓reduceIte, Nat.reduceEqDiff, c1, c2]; rfl) (fun c3 => ?_) (fun c3 => ?_)
        · refine VN (wantB_no rfl rfl (by simp only [go_sem, ↓reduceIte, Nat.reduceEqDiff, c1, c2, c3]; rfl) rfl) ?_
          refine VN (wantB_no rfl rfl (by simp only [go_sem, ↓reduceIte, Nat.reduceEqDiff, c1, c2, c3]; rfl) rfl) ?_
          (refine VX (by simp only [go_sem, ↓reduceIte, Nat.reduceEqDiff, Nat.reduceAdd, c1, c2, c3]; rfl) ?_)
          refine WO_nil ⟨rfl, by (simp only [go_sem, ↓reduceIte, Nat.reduceEqDiff, c1, c2, c3] <;> first | rfl | simp), by (simp only [go_sem, ↓reduceIte, Nat.reduceEqDiff, c1, c2, c3] <;> first | rfl | simp), by (simp only [go_sem, ↓reduceIte, Nat.reduceEqDiff, c1, c2, c3] <;> first | rfl | simp), ?_, by first | assumption | exact .refl _ _, by assumption⟩
          simp only [go_sem, ↓reduceIte, Nat.reduceEqDiff]
          unfold resOk
          simp [c1, c2, c3]
        · (refine VG (wantB_true rfl rfl (by simp only [go_sem, ↓reduceIte, Nat.reduceEqDiff, c1, c2, c3]; rfl) rfl) (by simp only [go_sem, ↓reduceIte, Nat.reduceEqDiff, Nat.reduceAdd, c1, c2, c3]; rfl) ?_)
          refine WO_fnG (wantB_true rfl rfl (by simp only [go_sem, ↓reduceIte, Nat.reduceEqDiff, c1, c2, c3]; rfl) rfl)  (by (simp only [go_sem, ↓reduceIte, Nat.reduceEqDiff, c1, c2, c3] <;> rfl)) (by simp) (by decide) ((contains_fn hs ok hi (len64 c1)).mono ?_)
          rintro _ _ ⟨rfl, u1, o1⟩
          (refine VX (by simp only [go_sem, ↓reduceIte, Nat.reduceEqDiff, Nat.reduceAdd, c1, c2, c3]; rfl) ?_)
          refine WO_nil ⟨rfl, by (simp only [go_sem, ↓reduceIte, Nat.reduceEqDiff, c1, c2, c3] <;> first | rfl | simp), by (simp only [go_sem, ↓reduceIte, Nat.reduceEqDiff, c1, c2, c3] <;> first | rfl | simp), by (simp only [go_sem, ↓reduceIte, Nat.reduceEqDiff, c1, c2, c3] <;> first | rfl | simp), ?_, by first | assumption | exact .refl _ _, by assumption⟩
          simp only [go_sem, ↓reduceIte, Nat.reduceEqDiff]
          unfold resOk
          simp [c1, c2, c3]
  rintro T h1 ⟨t0, t1, t2, t24, u1, o1⟩
  refine W_cond (by (simp only [go_sem, ↓reduceIte, Nat.reduceEqDiff, t24] <;> rfl)) (fun hb => ?_) (fun hb => W_skip ?_)
  · have hb : resOk L gap room = false := by simpa using hb
    (repeat refine W_seq ?_); refine W_region ?_
    iterate 2 (refine VO ?_)
    exact WO_nil (W_ret ⟨.inr rfl, _, by (simp only [resultB, resB, parts, V.part, Sl.get_set', ↓reduceIte, Nat.reduceEqDiff] <;> rfl), .sl0, by rw [hb]; rfl, by rw [hb]; exact .nil, u1, o1⟩)
  · have hb : resOk L gap room = true := by simpa using hb
    (repeat refine W_seq ?_); refine W_region ?_
    iterate 3 (refine VX (by simp only [go_sem, ↓reduceIte, Nat.reduceEqDiff, Nat.reduceAdd, t0, t1, t2]; rfl) ?_)
    refine WO_fn (ee) (by simp) (by decide) ((solve_fn hs1 (parts_ok hs2) o1 (resOk_iff.1 hb) (hi.upLt u1)).mono ?_)
    rintro w h2 ⟨x, rfl, g2, u2, o2⟩
    have hn1 := u1.next
    iterate 2 (refine VO ?_)
    refine WO_nil (W_ret ⟨.inr rfl, _, by (simp only [resultB, resB, parts, V.part, Sl.get_set', ↓reduceIte, Nat.reduceEqDiff] <;> rfl), x, by rw [hb]; rfl, ?_, u1.trans (u2.mono fun b hb => by omega), o2⟩)
    rw [hb]
    exact g2.from_ hn1
end Go.Ai
