/-
LayoutWraps, part 46 of 48: FxLay8.
-/
import Derived.Test.YthacbaagffpkoaaLw45
set_option linter.unusedVariables false
set_option linter.unusedSimpArgs false
set_option maxRecDepth 100000
set_option maxHeartbeats 0
namespace Go.Ai
open Go.Proofs
section
variable {T : Sl} {h : H} {d : Option Tmp} {ty : TypeId} {ps : String} {af : Array Edge} {g : Option (Nat × Bool)}
theorem ex_ceq {x y : Operand} {a b a' b' : Nat} {t t' : TypeId} (hx : ev T x = some (.one (.c .f64 a b))) (hy : ev T y = some (.one (.c .f64 a' b'))) : execO Try.prog T h ⟨d, .binOp .eql t x y t', ty, ps, af, g⟩ = some (.val (.one (.b (F64.feq a a' && F64.feq b b'))) h) := by
 refine ex_pure (v := .bool (F64.feq a a' && F64.feq b b')) ?_ ?_ ?_ rfl
 ·show orPure Try.prog T h _ (doBin Try.prog h .eql t (ev T x) (ev T y)) = _;rw [hx, hy]; rfl
 ·show allConc T [x, y] = true;simp only [allConc, evc, hx, hy]; rfl
 ·have hp : ∀ ρ : Operand → Value, ρ x = .complex .f64 a b → ρ y = .complex .f64 a' b' → prun Try.prog (execOp ρ ⟨d, .binOp .eql t x y t', ty, ps, af, g⟩) = some (.value (.bool (F64.feq a a' && F64.feq b b'))) := by
   intro ρ h1 h2;simp [execOp, h1, h2, binOp, eqGuard, Op.complexOp, Op.Complex.cmp, Op.floatCmp, asBool, Bind.bind, Pure.pure, Sem.bind, prun, F64.feq]
  exact hp _ (by simp only [evc, hx]; rfl) (by simp only [evc, hy]; rfl)
theorem ex_cne {x y : Operand} {a b a' b' : Nat} {t t' : TypeId} (hx : ev T x = some (.one (.c .f64 a b))) (hy : ev T y = some (.one (.c .f64 a' b'))) : execO Try.prog T h ⟨d, .binOp .neq t x y t', ty, ps, af, g⟩ = some (.val (.one (.b !(F64.feq a a' && F64.feq b b'))) h) := by
 refine ex_pure (v := .bool !(F64.feq a a' && F64.feq b b')) ?_ ?_ ?_ rfl
 ·show orPure Try.prog T h _ (doBin Try.prog h .neq t (ev T x) (ev T y)) = _;rw [hx, hy]; rfl
 ·show allConc T [x, y] = true;simp only [allConc, evc, hx, hy]; rfl
 ·have hp : ∀ ρ : Operand → Value, ρ x = .complex .f64 a b → ρ y = .complex .f64 a' b' → prun Try.prog (execOp ρ ⟨d, .binOp .neq t x y t', ty, ps, af, g⟩) = some (.value (.bool !(F64.feq a a' && F64.feq b b'))) := by
   intro ρ h1 h2;simp [execOp, h1, h2, binOp, eqGuard, Op.complexOp, Op.Complex.cmp, Op.floatCmp, asBool, Bind.bind, Pure.pure, Sem.bind, prun, F64.feq]
  exact hp _ (by simp only [evc, hx]; rfl) (by simp only [evc, hy]; rfl)
theorem ex_feq {x y : Operand} {a b : Nat} {t t' : TypeId} (hx : ev T x = some (.one (.f .f64 a))) (hy : ev T y = some (.one (.f .f64 b))) : execO Try.prog T h ⟨d, .binOp .eql t x y t', ty, ps, af, g⟩ = some (.val (.one (.b (F64.feq a b))) h) := by
 refine ex_pure (v := .bool (F64.feq a b)) ?_ ?_ ?_ rfl
 ·show orPure Try.prog T h _ (doBin Try.prog h .eql t (ev T x) (ev T y)) = _;rw [hx, hy]; rfl
 ·show allConc T [x, y] = true;simp only [allConc, evc, hx, hy]; rfl
 ·have hp : ∀ ρ : Operand → Value, ρ x = .float .f64 a → ρ y = .float .f64 b → prun Try.prog (execOp ρ ⟨d, .binOp .eql t x y t', ty, ps, af, g⟩) = some (.value (.bool (F64.feq a b))) := by
   intro ρ h1 h2;simp [execOp, h1, h2, binOp, eqGuard, Op.floatCmp, Bind.bind, Pure.pure, Sem.bind, prun, F64.feq]
  exact hp _ (by simp only [evc, hx]; rfl) (by simp only [evc, hy]; rfl)
end
theorem feq_one {a : Int} (ha : CO a) : F64.feq (fO a) (fO a) = true := by
 unfold CO at ha;have hA : F64.Ok a := by unfold F64.Ok; omega
 have : F64.feq (fO a) (fO a) = decide (a = a) := F64.feq_of hA hA;rw [this]; simp
theorem fO_640 : fO 640 = 4648840715353194496 := by kernel_rfl
theorem fO_10 : fO 10 = 4621819117588971520 := by kernel_rfl
open Classical in
theorem cnt_leaf {t r : Int} {vals : List Int} {room : Nat} {lim : Int} (hv : VOk vals) (hr : room ≠ 0) (hl : 1 ≤ lim) : cntI (.mk t r vals []) room lim = 1 := by
 unfold cntI
 rw [if_neg (fun e => by
  rcases e with e | e | e
  ·exact hr e
  ·omega
  ·exact e hv)]
 unfold cntL; rfl
theorem plainV_ok : VOk plainV := ⟨rfl, fun i hi => by
 rcases nineteen hi with rfl | rfl | rfl | rfl | rfl | rfl | rfl | rfl | rfl | rfl | rfl | rfl | rfl | rfl | rfl | rfl | rfl | rfl | rfl <;> decide⟩
theorem wakes_fn {spec : CallF} (hs : SpecLay spec) {h : H} (ok : Ok h) :
  WF Try.prog spec 17 [] h fun r h1 => r = .one (.b true) ∧ Up (· < h.next) h h1 ∧ Ok h1 := by
 refine WF_of Try.func17 rfl (hs.s _ _ _) (by rw [Try.ntmps17]; simp) (by rw [Try.ntmps17]; decide) ?_;rw [Try.ntmps17, Try.results17];simp only [Sl.setMany_nil, Nat.zero_add, Nat.reduceAdd]
 (repeat refine zS ?_); refine zR ?_
 refine VO ?_;refine zN ?_; (repeat refine zS ?_);refine zR ?_;refine WO_fn (ee) (by simp) Dc ((B_fn hs (l := []) (id := 1) ok (.inl ⟨rfl, rfl⟩) (by simp) (fun j p h => by simp at h)).mono ?_);rintro _ h1 ⟨q, rfl, cq, mq, hq1, hq2, u1, o1⟩;have hB : ValAt h1 h1.next (.mk 1 0 plainV []) [.i .i64 1, .i .i64 0, .sl q 0 19 19 1 false, .sl0] := ⟨_, _, rfl, .inr ⟨q, 0, 19, false, rfl, hq2, fun k x hx => by rw [Nat.zero_add]; exact cq.at1 (nums_get hx)⟩, .inl ⟨rfl, .inl rfl⟩⟩;refine WO_fn (ee) (by simp) Dc ((laytop_fn hs o1 (Nat.le_refl _) hB).mono ?_);rintro _ h2 ⟨hr, u2, o2⟩;have hok : LayOk (.mk 1 0 plainV []) 640 := ⟨by rw [cnt_leaf plainV_ok Om Om]; omega, by omega, by omega⟩;rcases hr with ⟨hn, _⟩ | ⟨_, ks, rfl, _⟩
 ·exact absurd hok hn
 have hL : layI (.mk 1 0 plainV []) 640 (-1) (-1) = .mk 1 0 0 0 640 0 [] := by
  rw [layI_eq]; rfl
 rw [hL]
 have hcs : (GeoT.mk 1 0 0 0 640 0 []).cells ks = [.i .i64 1, .i .i64 0, .c .f64 0 0, .c .f64 4648840715353194496 0, ks] := by
  rw [size_corner]; unfold ptS; rw [fO_640, fO_zero]
 rw [hcs]
 iterate 3 (refine VO ?_)
 refine WO_alloc zb37 rfl o2 Dc fun h3 n3 => ?_;refine WO_storeA (ee) (ee) sz37 rfl (by simp) n3.cells n3.may (by simp [V.cells]) fun h4 p4 => ?_;have c4 : Cells h4 h2.next 37 [.i .i64 1, .i .i64 0, .c .f64 0 0, .c .f64 4648840715353194496 0, ks] := (p4.whole rfl).cells;have r4 : h4.row h2.next (0 + 3) 1 = some [.c .f64 4648840715353194496 0] := c4.at1 rfl;refine VO ?_;refine zN ?_; (repeat refine zS ?_);refine zR ?_;have d1 : decide ((0 : Int) = 0) = true := rfl;refine VO ?_;refine WO_fn (ee) (by simp) Dc ((num_fn hs).mono ?_);rintro _ h4 ⟨rfl, rfl⟩
 iterate 4 (first | (refine VX (zB (Gs1 @d1) (Gs1 @d1) in_eql) ?_) | (refine VN (zG rfl rfl (Gs1 @d1) rfl) ?_) | (refine VG (zT rfl rfl (Gs1 @d1) rfl) (Ga1 @d1) ?_) | (refine VG (zT rfl rfl (Gs1 @d1) rfl) (Gd2 @r4 @d1) ?_) | (refine VX (Ga1 @d1) ?_))
 refine VG (zT rfl rfl (Gs1 @d1) rfl) (ex_ceq (Gt1 @d1) (Gt1 @d1)) ?_;rw [show (F64.feq 4648840715353194496 4648840715353194496 && F64.feq 0 0) = true by kernel_rfl]
 iterate 2 (refine VX (Ga1 @d1) ?_)
 have e1 := u1.next;have e2 := u2.next;exact zN (W_ret ⟨.inr rfl, _, by (simp only [resultB, resB, parts, V.part, Sl.get_set', ↓reduceIte, Nat.reduceEqDiff, d1] <;> rfl), rfl, u1.trans ((u2.mono fun q hq => by omega).trans ((n3.up.mono fun q hq => by omega).trans (p4.up.mono fun q hq => by omega))), p4.ok n3.ok⟩)
end Go.Ai
