/- What the printed functions of package point, and the reference's, come to: over the whole halves of points. -/
import Derived.Test.YtdpeeinmckohgaaFloats
import Derived.Test.YtdpeeinmckohgaaPDx0
import Derived.Test.YtdpeeinmckohgaaPDx1
import Derived.Test.YtdpeeinmckohgaaPDx10
import Derived.Test.YtdpeeinmckohgaaPDx12
import Derived.Test.YtdpeeinmckohgaaPDx14
import Derived.Test.YtdpeeinmckohgaaPDx2
import Derived.Test.YtdpeeinmckohgaaPDx3
import Derived.Test.YtdpeeinmckohgaaPDx4
import Derived.Test.YtdpeeinmckohgaaPDx5
import Derived.Test.YtdpeeinmckohgaaPDx6
import Derived.Test.YtdpeeinmckohgaaPDx8
namespace Go.Proofs.Ytdpeeinmckohgaa.PD
open Go Go.RowKit Go.Proofs.YtdpeeinmckohgaaW.PrintWords Go.Proofs.YtdpeeinmckohgaaW.PrintLast Go.Proofs.YtdpeeinmckohgaaW.PrintMore Go.Proofs.Ytdpeeinmckohgaa.F64

theorem w64' {n : Int} (h : -9223372036854775808 ≤ n) (h' : n ≤ 9223372036854775807) : wrap64 n = n := by unfold wrap64; omega
/-- Brought within. -/
def sat (n : Int) : Int := if n < -1099511627776 then -1099511627776 else if 1099511627776 < n then 1099511627776 else n
theorem sat_bd (n : Int) : -1099511627776 ≤ sat n ∧ sat n ≤ 1099511627776 := by
  unfold sat
  split
  · omega
  · split <;> omega
theorem fixed_Sat_eq (a : Int) : fixed_Sat.f a = some (sat a) := by
  unfold fixed_Sat.f mn mx sat
  congr 1
  repeat' split
  all_goals omega
theorem ref_Sat_eq (a : Int) : arrasref1_Sat.f a = some (sat a) := by
  unfold arrasref1_Sat.f mn mx sat
  congr 1
  repeat' split
  all_goals omega
/-- A coordinate. -/
def Cd (n : Int) : Prop := -1099511627776 ≤ n ∧ n ≤ 1099511627776
instance (n : Int) : Decidable (Cd n) := by unfold Cd; infer_instance
theorem Cd.ok {n : Int} (h : Cd n) : Ok n := by unfold Cd at h; unfold Ok; omega
theorem cd_sat (n : Int) : Cd (sat n) := sat_bd n
theorem plus1 {a x : Int} (ha : Cd a) (hx : Cd x) {k : Nat} (hk : 2 ≤ k) : fixed_Plus.f k a [x] = some (sat (a + x)) := by
  obtain ⟨m, rfl⟩ : ∃ m, k = m + 2 := ⟨k - 2, by omega⟩
  unfold Cd at ha hx
  have w1 : wrap64 1 = 1 := w64' (by omega) (by omega)
  have w2 : wrap64 (a + x) = a + x := w64' (by omega) (by omega)
  simp [fixed_Plus.f, fixed_Plus.l0, fixed_Sat_eq, rd, w1, w2]
theorem minus1 {a x : Int} (ha : Cd a) (hx : Cd x) : fixed_Minus.f a x = some (sat (a - x)) := by
  unfold Cd at ha hx
  have w2 : wrap64 (a - x) = a - x := w64' (by omega) (by omega)
  simp [fixed_Minus.f, fixed_Sat_eq, w2]
theorem ref_add {a x : Int} (ha : Cd a) (hx : Cd x) : arrasref1_Add.f a x = some (sat (a + x)) := by
  unfold Cd at ha hx
  have w2 : wrap64 (a + x) = a + x := w64' (by omega) (by omega)
  simp [arrasref1_Add.f, ref_Sat_eq, w2]
theorem ref_sub {a x : Int} (ha : Cd a) (hx : Cd x) : arrasref1_Sub.f a x = some (sat (a - x)) := by
  unfold Cd at ha hx
  have w2 : wrap64 (a - x) = a - x := w64' (by omega) (by omega)
  simp [arrasref1_Sub.f, ref_Sat_eq, w2]
theorem coord_eq (n : Int) : arrasref1_Coord.f n = some (decide (Cd n)) := by
  unfold arrasref1_Coord.f Cd
  by_cases h : n ≥ -1099511627776
  · rw [if_pos h]; simp [h]
  · rw [if_neg h]; have : ¬ (-1099511627776 ≤ n ∧ n ≤ 1099511627776) := by omega
    simp [this]
theorem is_eq (n : Int) : fixed_Is.f n = some (decide (Cd n)) := coord_eq n

theorem lo_eq : (14010698440749613056 : Nat) = fOf (-1099511627776) := by decide +kernel
theorem hi_eq : (4787326403894837248 : Nat) = fOf 1099511627776 := by decide +kernel
/-- Is a float a whole coordinate. -/
def okF (x : Nat) : Bool := fge x (fOf (-1099511627776)) && fle x (fOf 1099511627776) && feq (fOf (fInt x)) x
theorem okF_cd {x : Nat} (h : okF x = true) : Cd (fInt x) ∧ feq (fOf (fInt x)) x = true := by
  unfold okF at h
  simp only [Bool.and_eq_true] at h
  have := range h.1.1 h.1.2
  exact ⟨this.2, h.2⟩
theorem whole_eq (x : Nat) : ∃ n b, point_whole.f x = some (n, b) ∧ b = okF x ∧ (b = true → n = fInt x) := by
  unfold point_whole.f
  rw [lo_eq, hi_eq]
  by_cases h1 : fge x (fOf (-1099511627776)) = true
  · rw [if_pos h1]
    by_cases h2 : fle x (fOf 1099511627776) = true
    · rw [if_pos h2, if_pos (range h1 h2).1]
      refine ⟨_, _, rfl, ?_, fun _ => rfl⟩
      unfold okF
      rw [h1, h2]
      rfl
    · rw [if_neg h2]
      refine ⟨0, false, rfl, ?_, fun h => by cases h⟩
      unfold okF
      simp [h2]
  · rw [if_neg h1]
    refine ⟨0, false, rfl, ?_, fun h => by cases h⟩
    unfold okF
    simp [h1]
theorem half_eq (x : Nat) : arrasref3_half.f x = some (okF x) := by
  unfold arrasref3_half.f
  rw [lo_eq, hi_eq]
  unfold okF
  by_cases h1 : fge x (fOf (-1099511627776)) = true
  · rw [if_pos h1]
    by_cases h2 : fle x (fOf 1099511627776) = true
    · rw [if_pos h2, if_pos (range h1 h2).1, h1, h2, feq_comm]
      rfl
    · rw [if_neg h2]; simp [h2]
  · rw [if_neg h1]; simp [h1]
def okP (p : C128) : Bool := okF p.1 && okF p.2
theorem Point_eq (p : C128) : arrasref3_Point.f p = some (okP p) := by
  unfold arrasref3_Point.f okP
  rw [half_eq, half_eq]
  simp only [Option.bind_some]
  cases okF p.1 <;> simp
/-- A point's halves. -/
def X (p : C128) : Int := fInt p.1
def Y (p : C128) : Int := fInt p.2
theorem okP_cd {p : C128} (h : okP p = true) : Cd (X p) ∧ Cd (Y p) ∧ feq (fOf (X p)) p.1 = true ∧ feq (fOf (Y p)) p.2 = true := by
  unfold okP at h
  simp only [Bool.and_eq_true] at h
  have h1 := okF_cd h.1
  have h2 := okF_cd h.2
  exact ⟨h1.1, h2.1, h1.2, h2.2⟩
theorem okP_is {p : C128} (h : okP p = true) : fIs p.1 = true ∧ fIs p.2 = true := by
  unfold okP okF at h
  simp only [Bool.and_eq_true] at h
  exact ⟨(range h.1.1.1 h.1.1.2).1, (range h.2.1.1 h.2.1.2).1⟩
theorem X_eq {p : C128} (h : okP p = true) : arrasref3_X.f p = some (X p) := by
  unfold arrasref3_X.f X
  rw [if_pos (okP_is h).1]
theorem Y_eq {p : C128} (h : okP p = true) : arrasref3_Y.f p = some (Y p) := by
  unfold arrasref3_Y.f Y
  rw [if_pos (okP_is h).2]
/-- The point of two coordinates. -/
def pt (x y : Int) : C128 := (fOf x, fOf y)
theorem okF_of {n : Int} (h : Cd n) : okF (fOf n) = true := by
  have e1 : Ok (-1099511627776) := by unfold Ok; omega
  have e2 : Ok 1099511627776 := by unfold Ok; omega
  unfold okF
  rw [fge_of h.ok e1, fle_of h.ok e2, fInt_of h.ok, feq_of h.ok h.ok]
  unfold Cd at h
  simp [h.1, h.2]
theorem okP_pt {x y : Int} (hx : Cd x) (hy : Cd y) : okP (pt x y) = true := by
  unfold okP pt
  simp [okF_of hx, okF_of hy]
theorem X_pt {x y : Int} (hx : Cd x) : X (pt x y) = x := fInt_of hx.ok
theorem Y_pt {x y : Int} (hy : Cd y) : Y (pt x y) = y := fInt_of hy.ok
theorem feq_refl {n : Int} (h : Cd n) : feq (fOf n) (fOf n) = true := by rw [feq_of h.ok h.ok]; simp
theorem cd0 : Cd 0 := by decide
theorem signbit_zero : math_Signbit.f 0 = some false := by decide +kernel
theorem clean_eq {x y : Int} (hx : Cd x) (hy : Cd y) : arraslaw3_clean.f (pt x y) = some true := by
  have one : ∀ n : Int, Cd n → feq (fOf n) 0 = decide (n = 0) := by
    intro n h
    have := feq_of h.ok cd0.ok
    rwa [fOf_zero] at this
  unfold arraslaw3_clean.f pt
  simp only
  rw [one x hx, one y hy]
  by_cases h1 : x = 0 <;> by_cases h2 : y = 0
  · subst h1 h2; simp [fOf_zero, signbit_zero]
  · subst h1; simp [h2, fOf_zero, signbit_zero]
  · subst h2; simp [h1, fOf_zero, signbit_zero]
  · simp [h1, h2]
theorem feq00 : feq 0 0 = true := by decide +kernel
theorem halves_l0 : ∀ (l done : List C128) (k : Nat), done.all okP = true → done.length + l.length ≤ 1000 → l.length + 1 ≤ k → point_halves.l0 k (done ++ l) (done.map X) (done.map Y) (done.length : Int) = some (if l.all okP = true then ((done ++ l).map X, (done ++ l).map Y, true) else ([], [], false))
  | [], done, k, hd, hb, hk => by
    obtain ⟨k, rfl⟩ : ∃ m, k = m + 1 := ⟨k - 1, by omega⟩
    simp only [point_halves.l0]
    rw [if_pos (by simp), if_pos (by simp)]
    simp
  | p :: l, done, k, hd, hb, hk => by
    obtain ⟨k, rfl⟩ : ∃ m, k = m + 1 := ⟨k - 1, by omega⟩
    simp only [List.length_cons] at hb hk
    have er : rdOf ((0, 0) : C128) (done ++ p :: l) (done.length : Int) = p := by simp [rdOf, List.getD_eq_getElem?_getD]
    obtain ⟨n1, b1, e1, e2, e3⟩ := whole_eq p.1
    obtain ⟨n2, b2, f1, f2, f3⟩ := whole_eq p.2
    simp only [point_halves.l0]
    rw [if_neg (by simp; omega), if_pos (by omega), if_pos (by simp; omega), er, e1, f1]
    simp only [Option.bind_some]
    by_cases h1 : b1 = true
    · by_cases h2 : b2 = true
      · have hp : okP p = true := by unfold okP; rw [← e2, ← f2, h1, h2]; rfl
        rw [if_pos h1, if_pos h2, if_pos (by simp; omega), if_pos (by simp; omega), e3 h1, f3 h2, w64' (by omega) (by omega)]
        have ih := halves_l0 l (done ++ [p]) k (by simp [hp]; simpa using hd) (by simp; omega) (by omega)
        have g1 : ((done ++ [p]).length : Int) = (done.length : Int) + 1 := by simp
        have g2 : (done ++ [p]).map X = done.map X ++ [fInt p.1] := by simp [X]
        have g3 : (done ++ [p]).map Y = done.map Y ++ [fInt p.2] := by simp [Y]
        rw [g1, g2, g3] at ih
        rw [show (p :: l).all okP = l.all okP by rw [List.all_cons, hp, Bool.true_and]]
        simpa using ih
      · rw [if_pos h1, if_neg h2]
        have hp : okP p = false := by unfold okP; rw [← e2, ← f2]; simp [h2]
        simp [hp]
    · rw [if_neg h1]
      have hp : okP p = false := by unfold okP; rw [← e2, ← f2]; simp [h1]
      simp [hp]
theorem halves_eq (l : List C128) {k : Nat} (hb : l.length ≤ 1000) (hk : l.length + 1 ≤ k) : point_halves.f k l = some (if l.all okP = true then (l.map X, l.map Y, true) else ([], [], false)) := by
  have := halves_l0 l [] k rfl (by simpa using hb) hk
  show point_halves.l0 k l [] [] 0 = _
  simpa using this

theorem make_eq (x y : Int) : point_Make.f x y = some (pt x y) := rfl
theorem refOf_eq (x y : Int) : arrasref3_Of.f x y = some (pt x y) := rfl
theorem of_eq (x y : Int) : point_Of.f x y = some (if Cd x ∧ Cd y then (pt x y, 0) else (((0, 0) : C128), 1)) := by
  unfold point_Of.f
  rw [is_eq, is_eq]
  simp only [Option.bind_some]
  by_cases h1 : Cd x
  · by_cases h2 : Cd y
    · rw [if_pos (by simpa using h1), if_pos (by simpa using h2), if_pos ⟨h1, h2⟩]
      rfl
    · rw [if_pos (by simpa using h1), if_neg (by simpa using h2), if_neg (fun h => h2 h.2)]
  · rw [if_neg (by simpa using h1), if_neg (fun h => h1 h.1)]
theorem turn_eq (p : C128) {k : Nat} (hk : 2 ≤ k) : point_Turn.f k p = some (if okP p = true then (pt (Y p) (X p), 0) else (((0, 0) : C128), 1)) := by
  unfold point_Turn.f
  rw [halves_eq _ (by simp) (by simpa using hk)]
  simp only [Option.bind_some]
  by_cases h : okP p = true
  · simp [h, rd, make_eq]
  · simp [h]
theorem refAdd_eq {p q : C128} (hp : okP p = true) (hq : okP q = true) : arrasref3_Add.f p q = some (pt (sat (X p + X q)) (sat (Y p + Y q))) := by
  have c1 := okP_cd hp
  have c2 := okP_cd hq
  unfold arrasref3_Add.f
  rw [X_eq hp, X_eq hq, Option.bind_some, Option.bind_some, ref_add c1.1 c2.1, Option.bind_some, Y_eq hp, Y_eq hq, Option.bind_some, Option.bind_some, ref_add c1.2.1 c2.2.1, Option.bind_some, refOf_eq, Option.bind_some]
theorem refSub_eq {p q : C128} (hp : okP p = true) (hq : okP q = true) : arrasref3_Sub.f p q = some (pt (sat (X p - X q)) (sat (Y p - Y q))) := by
  have c1 := okP_cd hp
  have c2 := okP_cd hq
  unfold arrasref3_Sub.f
  rw [X_eq hp, X_eq hq, Option.bind_some, Option.bind_some, ref_sub c1.1 c2.1, Option.bind_some, Y_eq hp, Y_eq hq, Option.bind_some, Option.bind_some, ref_sub c1.2.1 c2.2.1, Option.bind_some, refOf_eq, Option.bind_some]
/-- A box: corner and size. -/
def okB (c s : C128) : Bool := okP c && okP s && decide (0 ≤ X s) && decide (0 ≤ Y s)
theorem box_eq (c s : C128) : arrasref3_Box.f c s = some (okB c s) := by
  unfold arrasref3_Box.f okB
  rw [Point_eq, Point_eq]
  simp only [Option.bind_some]
  cases hc : okP c
  · simp
  · cases hs : okP s
    · simp
    · rw [X_eq hs, Y_eq hs]
      simp only [Option.bind_some, if_true]
      by_cases h : 0 ≤ X s
      · rw [if_pos (by omega)]; simp [h]
      · rw [if_neg (by omega)]; simp [h]
theorem okB_iff {c s : C128} : okB c s = true ↔ okP c = true ∧ okP s = true ∧ 0 ≤ X s ∧ 0 ≤ Y s := by
  unfold okB
  simp only [Bool.and_eq_true, decide_eq_true_eq]
  exact ⟨fun ⟨⟨⟨a, b⟩, c⟩, d⟩ => ⟨a, b, c, d⟩, fun ⟨a, b, c, d⟩ => ⟨⟨⟨a, b⟩, c⟩, d⟩⟩
/-- The elements of a row's four points. -/
def cc (s : S26) (j : Nat) : C128 := match j with
  | 0 => (s.f2.f0, s.f2.f1)
  | 1 => (s.f2.f2, s.f2.f3)
  | 2 => (s.f2.f4, s.f2.f5)
  | _ => (s.f2.f6, s.f2.f7)
theorem c_eq (s : S26) (j : Nat) (hj : j < 4) : arraslaw3_Ask_c.f s.f0 s.f1 s.f2.f0 s.f2.f1 s.f2.f2 s.f2.f3 s.f2.f4 s.f2.f5 s.f2.f6 s.f2.f7 (j : Int) = some (cc s j) := by
  unfold arraslaw3_Ask_c.f
  rw [w64' (by omega) (by omega)]
  match j, hj with
  | 0, _ => rfl
  | 1, _ => rfl
  | 2, _ => rfl
  | 3, _ => rfl
theorem pwakes : ∀ k, 10 ≤ k → arraslaw3_wakes.f k = some true := by
  intro k hk
  unfold arraslaw3_wakes.f
  have c1 : Cd 1 := by decide
  have c2 : Cd 2 := by decide
  have e1 : (4611686018427387904 : Nat) = fOf 2 := by decide +kernel
  have e2 : (4607182418800017408 : Nat) = fOf 1 := by decide +kernel
  rw [of_eq, if_pos ⟨c1, c2⟩]
  simp only [Option.bind_some]
  rw [turn_eq _ (by omega), if_pos (okP_pt c1 c2)]
  simp only [Option.bind_some, arraslaw3_num.f, if_true]
  rw [X_pt c1, Y_pt c2, e1, e2]
  unfold pt
  simp only [feq_refl c1, feq_refl c2, Bool.and_true]
end Go.Proofs.Ytdpeeinmckohgaa.PD
