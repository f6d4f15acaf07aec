/- The pure statement of PointBoth: of boxes within a hundred cells, what has a cell of both, of either, is told as Meet and Join tell it. -/
import Derived.Test.YtdpeeinmckohgaaTellPointBoth
import Derived.Test.YtdpeeinmckohgaaPointsIC
import Derived.Test.YtdpeeinmckohgaaPointsJC
import Derived.Test.YtdpeeinmckohgaaWithinC
namespace Go.Proofs.Ytdpeeinmckohgaa.TPointBoth
open Go.RowKit Go.Proofs.YtdpeeinmckohgaaW.PrintWords Go.Proofs.Ytdpeeinmckohgaa.PC Go.Proofs.Ytdpeeinmckohgaa.F64

theorem rd_T (l : List S26) (i : Nat) (h : i < l.length) : rd_T26 l (i : Int) = l[i] := by simp [rd_T26, List.getD_eq_getElem?_getD, h]
theorem fin (l : List S26) (i : Nat) (h : ¬ (i < l.length ∧ i < 12)) : ∀ k, 80 ≤ k → arraslaw3_PointBoth.l0 k l (i : Int) = some true := by
  intro k hk
  obtain ⟨k, rfl⟩ : ∃ m, k = m + 2 := ⟨k - 2, by omega⟩
  simp only [arraslaw3_PointBoth.l0]
  by_cases c : (i : Int) < (l.length : Int)
  · rw [if_pos c]
    simp only [arraslaw3_PointBoth.j1]
    rw [if_neg (by simp; omega), pwakes k (by omega)]
    rfl
  · rw [if_neg c]
    simp only [arraslaw3_PointBoth.j1]
    rw [if_neg (by simp), pwakes k (by omega)]
    rfl
/-- Has, over whole numbers. -/
def H (x y w h a b : Int) : Bool := decide (x ≤ a ∧ y ≤ b ∧ a < x + w ∧ b < y + h)
theorem sat_id {n : Int} (h : Cd n) : sat n = n := by
  unfold Cd at h
  unfold sat
  rw [if_neg (by omega), if_neg (by omega)]
/-- Within the law's bounds. -/
def Sm (n : Int) : Prop := 0 ≤ n ∧ n ≤ 100
instance (n : Int) : Decidable (Sm n) := by unfold Sm; infer_instance
theorem Sm.cd {n : Int} (h : Sm n) : Cd n := by unfold Sm at h; unfold Cd; omega
theorem Sm.add {n m : Int} (h : Sm n) (g : Sm m) : Cd (n + m) := by unfold Sm at h g; unfold Cd; omega
theorem okB_pt {x y w h : Int} (hx : Sm x) (hy : Sm y) (hw : Sm w) (hh : Sm h) : okB (pt x y) (pt w h) = true := by
  rw [okB_iff, X_pt hw.cd, Y_pt hh.cd]
  exact ⟨okP_pt hx.cd hy.cd, okP_pt hw.cd hh.cd, hw.1, hh.1⟩
theorem hasS_pt {x y w h a b : Int} (hx : Sm x) (hy : Sm y) (hw : Sm w) (hh : Sm h) (ha : Sm a) (hb : Sm b) : hasS (pt x y) (pt w h) (pt a b) = H x y w h a b := by
  unfold hasS H
  rw [X_pt hx.cd, Y_pt hy.cd, X_pt hw.cd, Y_pt hh.cd, X_pt ha.cd, Y_pt hb.cd, sat_id (hx.add hw), sat_id (hy.add hh)]
  simp only [← Bool.decide_and, and_assoc]
theorem has_pt {x y w h a b : Int} (hx : Sm x) (hy : Sm y) (hw : Sm w) (hh : Sm h) (ha : Sm a) (hb : Sm b) {k : Nat} (hk : 10 ≤ k) : point_Has.f k (pt x y) (pt w h) (pt a b) = some (H x y w h a b, 0) := by
  rw [has_eq _ _ _ hk, if_pos ⟨okB_pt hx hy hw hh, okP_pt ha.cd hb.cd⟩, hasS_pt hx hy hw hh ha hb]
/-- The four corners' bounds. -/
structure Box4 (ax ay sx sy bx by' tx ty : Int) : Prop where
  h0 : 0 ≤ ax ∧ ax < 20
  h1 : 0 ≤ ay ∧ ay < 20
  h2 : 0 ≤ sx ∧ sx < 20
  h3 : 0 ≤ sy ∧ sy < 20
  h4 : 0 ≤ bx ∧ bx < 20
  h5 : 0 ≤ by' ∧ by' < 20
  h6 : 0 ≤ tx ∧ tx < 20
  h7 : 0 ≤ ty ∧ ty < 20
theorem join_has {ax aw bx bw p : Int} : (mn ax bx ≤ p ∧ p < mn ax bx + (mx (ax + aw) (bx + bw) - mn ax bx)) ↔ (mn ax bx ≤ p ∧ p < mx (ax + aw) (bx + bw)) := by
  constructor <;> intro h <;> omega
theorem mn_le {a b p : Int} : mn a b ≤ p ↔ a ≤ p ∨ b ≤ p := by unfold mn; split <;> omega
theorem mx_le {a b p : Int} : mx a b ≤ p ↔ a ≤ p ∧ b ≤ p := by unfold mx; split <;> omega
theorem lt_mx {a b p : Int} : p < mx a b ↔ p < a ∨ p < b := by unfold mx; split <;> omega
theorem lt_mn {a b p : Int} : p < mn a b ↔ p < a ∧ p < b := by unfold mn; split <;> omega
theorem H_iff {x y w h a b : Int} : H x y w h a b = true ↔ x ≤ a ∧ y ≤ b ∧ a < x + w ∧ b < y + h := by unfold H; exact decide_eq_true_iff
/-- What either has is in the least box of both. -/
theorem join_law {ax ay sx sy bx by' tx ty p q : Int} (h : (H ax ay sx sy p q || H bx by' tx ty p q) = true) : H (mn ax bx) (mn ay by') (mx (ax + sx) (bx + tx) - mn ax bx) (mx (ay + sy) (by' + ty) - mn ay by') p q = true := by
  rw [Bool.or_eq_true, H_iff, H_iff] at h
  rw [H_iff, mn_le, mn_le]
  have e1 : p < mn ax bx + (mx (ax + sx) (bx + tx) - mn ax bx) ↔ p < ax + sx ∨ p < bx + tx := by rw [← lt_mx]; constructor <;> intro h <;> omega
  have e2 : q < mn ay by' + (mx (ay + sy) (by' + ty) - mn ay by') ↔ q < ay + sy ∨ q < by' + ty := by rw [← lt_mx]; constructor <;> intro h <;> omega
  rw [e1, e2]
  omega
section
variable {ax ay sx sy bx by' tx ty : Int} (B : Box4 ax ay sx sy bx by' tx ty)
include B
theorem sa : Sm ax ∧ Sm ay ∧ Sm sx ∧ Sm sy ∧ Sm bx ∧ Sm by' ∧ Sm tx ∧ Sm ty := by
  obtain ⟨h0, h1, h2, h3, h4, h5, h6, h7⟩ := B
  unfold Sm
  omega
theorem fxa : fx (pt ax ay) (pt sx sy) = ax + sx := by
  obtain ⟨h0, h1, h2, h3, _⟩ := sa B
  unfold fx
  rw [X_pt h0.cd, X_pt h2.cd, sat_id (h0.add h2)]
theorem fxb : fx (pt bx by') (pt tx ty) = bx + tx := by
  obtain ⟨_, _, _, _, h0, h1, h2, h3⟩ := sa B
  unfold fx
  rw [X_pt h0.cd, X_pt h2.cd, sat_id (h0.add h2)]
theorem fya : fy (pt ax ay) (pt sx sy) = ay + sy := by
  obtain ⟨h0, h1, h2, h3, _⟩ := sa B
  unfold fy
  rw [Y_pt h1.cd, Y_pt h3.cd, sat_id (h1.add h3)]
theorem fyb : fy (pt bx by') (pt tx ty) = by' + ty := by
  obtain ⟨_, _, _, _, h0, h1, h2, h3⟩ := sa B
  unfold fy
  rw [Y_pt h1.cd, Y_pt h3.cd, sat_id (h1.add h3)]
theorem jl_pt : jl (pt ax ay) (pt bx by') = mn ax bx := by
  obtain ⟨h0, _, _, _, h4, _⟩ := sa B
  unfold jl
  rw [X_pt h0.cd, X_pt h4.cd]
theorem ju_pt : ju (pt ax ay) (pt bx by') = mn ay by' := by
  obtain ⟨_, h0, _, _, _, h4, _⟩ := sa B
  unfold ju
  rw [Y_pt h0.cd, Y_pt h4.cd]
theorem ml_pt : ml (pt ax ay) (pt bx by') = mx ax bx := by
  obtain ⟨h0, _, _, _, h4, _⟩ := sa B
  unfold ml
  rw [X_pt h0.cd, X_pt h4.cd]
theorem mu_pt : mu (pt ax ay) (pt bx by') = mx ay by' := by
  obtain ⟨_, h0, _, _, _, h4, _⟩ := sa B
  unfold mu
  rw [Y_pt h0.cd, Y_pt h4.cd]
theorem mr_pt : mr (pt ax ay) (pt sx sy) (pt bx by') (pt tx ty) = mn (ax + sx) (bx + tx) := by
  unfold mr
  rw [fxa B, fxb B]
theorem md_pt : md (pt ax ay) (pt sx sy) (pt bx by') (pt tx ty) = mn (ay + sy) (by' + ty) := by
  unfold md
  rw [fya B, fyb B]
theorem jbd : Sm (mn ax bx) ∧ Sm (mn ay by') ∧ Sm (mx (ax + sx) (bx + tx) - mn ax bx) ∧ Sm (mx (ay + sy) (by' + ty) - mn ay by') := by
  obtain ⟨h0, h1, h2, h3, h4, h5, h6, h7⟩ := B
  unfold Sm mn mx
  refine ⟨?_, ?_, ?_, ?_⟩
  · split <;> omega
  · split <;> omega
  · split <;> split <;> omega
  · split <;> split <;> omega
theorem mbd : Sm (mx ax bx) ∧ Sm (mx ay by') ∧ mn (ax + sx) (bx + tx) ≤ 100 ∧ mn (ay + sy) (by' + ty) ≤ 100 := by
  obtain ⟨h0, h1, h2, h3, h4, h5, h6, h7⟩ := B
  unfold Sm mn mx
  refine ⟨?_, ?_, ?_, ?_⟩
  · split <;> omega
  · split <;> omega
  · split <;> omega
  · split <;> omega
theorem jw_pt : jw (pt ax ay) (pt sx sy) (pt bx by') (pt tx ty) = mx (ax + sx) (bx + tx) - mn ax bx := by
  unfold jw
  rw [fxa B, fxb B, jl_pt B, sat_id (jbd B).2.2.1.cd]
theorem jh_pt : jh (pt ax ay) (pt sx sy) (pt bx by') (pt tx ty) = mx (ay + sy) (by' + ty) - mn ay by' := by
  unfold jh
  rw [fya B, fyb B, ju_pt B, sat_id (jbd B).2.2.2.cd]
theorem none2_pt : none2 (pt ax ay) (pt sx sy) (pt bx by') (pt tx ty) ↔ mx ax bx ≥ mn (ax + sx) (bx + tx) ∨ mx ay by' ≥ mn (ay + sy) (by' + ty) := by
  unfold none2
  rw [ml_pt B, mu_pt B, mr_pt B, md_pt B]
/-- What both have: a point of the one and of the other. -/
theorem meet_law : ∃ x y u v, Sm x ∧ Sm y ∧ Sm u ∧ Sm v ∧ meetS (pt ax ay) (pt sx sy) (pt bx by') (pt tx ty) = (pt x y, pt u v) ∧ ∀ p q, Sm p → Sm q → H x y u v p q = (H ax ay sx sy p q && H bx by' tx ty p q) := by
  obtain ⟨h0, h1, h2, h3⟩ := mbd B
  unfold meetS
  by_cases c : none2 (pt ax ay) (pt sx sy) (pt bx by') (pt tx ty)
  · rw [if_pos c]
    rw [none2_pt B] at c
    refine ⟨0, 0, 0, 0, by decide, by decide, by decide, by decide, rfl, fun p q hp hq => ?_⟩
    rw [Bool.eq_iff_iff, Bool.and_eq_true, H_iff, H_iff, H_iff]
    constructor
    · intro h
      unfold Sm at *
      omega
    · rintro ⟨g, g'⟩
      rcases c with c | c
      · have d1 : mx ax bx ≤ p := mx_le.2 ⟨g.1, g'.1⟩
        have d2 : p < mn (ax + sx) (bx + tx) := lt_mn.2 ⟨g.2.2.1, g'.2.2.1⟩
        omega
      · have d1 : mx ay by' ≤ q := mx_le.2 ⟨g.2.1, g'.2.1⟩
        have d2 : q < mn (ay + sy) (by' + ty) := lt_mn.2 ⟨g.2.2.2, g'.2.2.2⟩
        omega
  · rw [if_neg c, ml_pt B, mu_pt B, mr_pt B, md_pt B]
    rw [none2_pt B] at c
    have c1 : Sm (mn (ax + sx) (bx + tx) - mx ax bx) := by unfold Sm at *; omega
    have c2 : Sm (mn (ay + sy) (by' + ty) - mx ay by') := by unfold Sm at *; omega
    rw [sat_id c1.cd, sat_id c2.cd]
    refine ⟨_, _, _, _, h0, h1, c1, c2, rfl, fun p q hp hq => ?_⟩
    rw [Bool.eq_iff_iff, Bool.and_eq_true, H_iff, H_iff, H_iff, mx_le, mx_le]
    have e1 : p < mx ax bx + (mn (ax + sx) (bx + tx) - mx ax bx) ↔ p < ax + sx ∧ p < bx + tx := by rw [← lt_mn]; constructor <;> intro h <;> omega
    have e2 : q < mx ay by' + (mn (ay + sy) (by' + ty) - mx ay by') ↔ q < ay + sy ∧ q < by' + ty := by rw [← lt_mn]; constructor <;> intro h <;> omega
    rw [e1, e2]
    constructor
    · rintro ⟨⟨a1, a2⟩, ⟨a3, a4⟩, ⟨a5, a6⟩, a7, a8⟩
      exact ⟨⟨a1, a3, a5, a7⟩, a2, a4, a6, a8⟩
    · rintro ⟨⟨a1, a3, a5, a7⟩, a2, a4, a6, a8⟩
      exact ⟨⟨a1, a2⟩, ⟨a3, a4⟩, ⟨a5, a6⟩, a7, a8⟩
end
theorem cells (j : Nat) (h : j < 100) : ∃ u v, Sm u ∧ Sm v ∧ wrap64 (Int.tmod (j : Int) 10 * 4) = u ∧ wrap64 (wrap64 (Int.tdiv (j : Int) 10) * 4) = v := by
  have e1 : Int.tmod (j : Int) 10 = ((j % 10 : Nat) : Int) := by rw [Int.tmod_eq_emod_of_nonneg (by omega)]; omega
  have e2 : Int.tdiv (j : Int) 10 = ((j / 10 : Nat) : Int) := by rw [Int.tdiv_eq_ediv_of_nonneg (by omega)]; omega
  rw [e1, e2]
  have m : j % 10 < 10 := Nat.mod_lt _ (by omega)
  have d : j / 10 < 10 := by omega
  refine ⟨((j % 10 : Nat) : Int) * 4, ((j / 10 : Nat) : Int) * 4, ?_, ?_, w64' (by omega) (by omega), ?_⟩
  · unfold Sm; omega
  · unfold Sm; omega
  · rw [w64' (n := ((j / 10 : Nat) : Int)) (by omega) (by omega), w64' (by omega) (by omega)]
theorem grid (l : List S26) (i : Nat) (h12 : i < 12) (K : Nat) (hn : ∀ k, K ≤ k → arraslaw3_PointBoth.l0 k l ((i : Int) + 1) = some true)
    {ax ay sx sy bx by' tx ty x y u v : Int} (B : Box4 ax ay sx sy bx by' tx ty) (hx : Sm x) (hy : Sm y) (hu : Sm u) (hv : Sm v) (hM : ∀ p q, Sm p → Sm q → H x y u v p q = (H ax ay sx sy p q && H bx by' tx ty p q)) :
    ∀ (d j : Nat), 100 - j = d → j ≤ 100 → ∀ k, K + 100 + 4 * d ≤ k → arraslaw3_PointBoth.l2 k l (i : Int) (pt (mn ax bx) (mn ay by')) (pt (mx (ax + sx) (bx + tx) - mn ax bx) (mx (ay + sy) (by' + ty) - mn ay by')) (pt x y) (pt u v) (j : Int) (pt ax ay) (pt sx sy) (pt bx by') (pt tx ty) = some true := by
  have hwi : wrap64 ((i : Int) + 1) = (i : Int) + 1 := w64' (by omega) (by omega)
  obtain ⟨s0, s1, s2, s3, s4, s5, s6, s7⟩ := sa B
  obtain ⟨g0, g1, g2, g3⟩ := jbd B
  intro d
  induction d with
  | zero =>
    intro j hd hj k hk
    obtain ⟨k, rfl⟩ : ∃ m, k = m + 3 := ⟨k - 3, by omega⟩
    obtain rfl : j = 100 := by omega
    rw [arraslaw3_PointBoth.l2, if_neg (by omega), hwi]
    exact hn _ (by omega)
  | succ d ih =>
    intro j hd hj k hk
    obtain ⟨k, rfl⟩ : ∃ m, k = m + 3 := ⟨k - 3, by omega⟩
    have n := fun k hk => ih (j + 1) (by omega) (by omega) k hk
    have e5 : ((j + 1 : Nat) : Int) = (j : Int) + 1 := by omega
    rw [e5] at n
    have hw : wrap64 ((j : Int) + 1) = (j : Int) + 1 := w64' (by omega) (by omega)
    obtain ⟨p, q, hp, hq, ep, eq⟩ := cells j (by omega)
    have pe : ((fOf p, fOf q) : C128) = pt p q := rfl
    have j5 : arraslaw3_PointBoth.j5 (k + 2) l (i : Int) (pt (mn ax bx) (mn ay by')) (pt (mx (ax + sx) (bx + tx) - mn ax bx) (mx (ay + sy) (by' + ty) - mn ay by')) (pt x y) (pt u v) (j : Int) false (pt ax ay) (pt sx sy) (pt bx by') (pt tx ty) = some true := by
      rw [arraslaw3_PointBoth.j5, if_neg (by simp), hw]
      exact n _ (by omega)
    have JL := fun h => join_law (ax := ax) (ay := ay) (sx := sx) (sy := sy) (bx := bx) (by' := by') (tx := tx) (ty := ty) (p := p) (q := q) h
    have HM := hM p q hp hq
    rw [arraslaw3_PointBoth.l2, if_pos (by omega), ep, eq, pe, has_pt s0 s1 s2 s3 hp hq (by omega), Option.bind_some, has_pt s4 s5 s6 s7 hp hq (by omega), Option.bind_some, has_pt g0 g1 g2 g3 hp hq (by omega), Option.bind_some, has_pt hx hy hu hv hp hq (by omega), Option.bind_some]
    rw [arraslaw3_num.f, Option.bind_some, if_pos rfl, Option.bind_some, if_pos rfl, Option.bind_some, if_pos rfl, Option.bind_some, if_pos rfl, HM]
    by_cases c1 : H ax ay sx sy p q = true
    · rw [if_pos c1, c1, JL (by simp [c1]), if_neg (by simp)]
      exact j5
    · have c1' : H ax ay sx sy p q = false := by simpa using c1
      rw [if_neg c1, c1', if_neg (by simp)]
      by_cases c2 : H bx by' tx ty p q = true
      · rw [if_pos c2, JL (by simp [c2])]
        exact j5
      · rw [if_neg c2]
        exact j5
theorem corner (s : Int) (j : Int) : ∃ u, 0 ≤ u ∧ u < 20 ∧ arraslaw0_Within.f (shr .i64 s (wrap64 (5 * j))) 20 = some u :=
  ⟨_, (wthn_bd _ 20 (by omega) (by omega)).1, (wthn_bd _ 20 (by omega) (by omega)).2, within_eq _ 20 (by omega) (by omega)⟩
theorem step (l : List S26) (i : Nat) (hi : i < l.length) (j : Int) (hj : 0 ≤ j) (h4 : j < 4) : ∃ u v, (0 ≤ u ∧ u < 20) ∧ (0 ≤ v ∧ v < 20) ∧ ∀ k P Q R T, arraslaw3_PointBoth.l1 (k + 1) l (i : Int) j P Q R T =
    if j = 0 then (arraslaw3_PointBoth.l1 k l (i : Int) (j + 1) (pt u v) Q R T) else (if j = 1 then (arraslaw3_PointBoth.l1 k l (i : Int) (j + 1) P (pt u v) R T) else (if j = 2 then (arraslaw3_PointBoth.l1 k l (i : Int) (j + 1) P Q (pt u v) T) else (if j = 3 then (arraslaw3_PointBoth.l1 k l (i : Int) (j + 1) P Q R (pt u v)) else (none)))) := by
  obtain ⟨u, u0, u1, eu⟩ := corner l[i].f0 j
  obtain ⟨v, v0, v1, ev⟩ := corner l[i].f1 j
  refine ⟨u, v, ⟨u0, u1⟩, ⟨v0, v1⟩, fun k P Q R T => ?_⟩
  have cu : Cd u := by unfold Cd; omega
  have cv : Cd v := by unfold Cd; omega
  have e5 : wrap64 (5 * j) = 5 * j := w64' (by omega) (by omega)
  have e1 : wrap64 (j + 1) = j + 1 := w64' (by omega) (by omega)
  rw [arraslaw3_PointBoth.l1, if_pos h4, if_pos (by omega), if_pos (by omega), rd_T l i hi, eu, Option.bind_some, ev, Option.bind_some, if_pos (by omega), of_eq, if_pos ⟨cu, cv⟩, Option.bind_some, arraslaw3_num.f, Option.bind_some, if_pos rfl, e1]
theorem body (l : List S26) (i : Nat) (hi : i < l.length) (h12 : i < 12) (K : Nat) (hn : ∀ k, K ≤ k → arraslaw3_PointBoth.l0 k l ((i : Int) + 1) = some true) : ∃ K', ∀ k, K' ≤ k → arraslaw3_PointBoth.l0 k l (i : Int) = some true := by
  obtain ⟨ax, ay, a1, a2, s0⟩ := step l i hi 0 (by omega) (by omega)
  obtain ⟨sx, sy, a3, a4, s1⟩ := step l i hi (0 + 1) (by omega) (by omega)
  obtain ⟨bx, by', a5, a6, s2⟩ := step l i hi (0 + 1 + 1) (by omega) (by omega)
  obtain ⟨tx, ty, a7, a8, s3⟩ := step l i hi (0 + 1 + 1 + 1) (by omega) (by omega)
  have B : Box4 ax ay sx sy bx by' tx ty := ⟨a1, a2, a3, a4, a5, a6, a7, a8⟩
  obtain ⟨c0, c1, c2, c3, c4, c5, c6, c7⟩ := sa B
  obtain ⟨x, y, u, v, hx, hy, hu, hv, eM, hM⟩ := meet_law B
  refine ⟨K + 700, fun k hk => ?_⟩
  obtain ⟨k, rfl⟩ : ∃ m, k = m + 8 := ⟨k - 8, by omega⟩
  have g := grid l i h12 K hn B hx hy hu hv hM 100 0 rfl (by omega) k (by omega)
  rw [Int.natCast_zero] at g
  have ok := And.intro (okB_pt c0 c1 c2 c3) (okB_pt c4 c5 c6 c7)
  rw [arraslaw3_PointBoth.l0, if_pos (by omega), arraslaw3_PointBoth.j1, if_pos (by simp; omega)]
  rw [s0, if_pos (by omega), s1, if_neg (by omega), if_pos (by omega), s2, if_neg (by omega), if_neg (by omega), if_pos (by omega), s3, if_neg (by omega), if_neg (by omega), if_neg (by omega), if_pos (by omega)]
  rw [arraslaw3_PointBoth.l1, if_neg (by omega), join_eq _ _ _ _ (by omega), if_pos ok, Option.bind_some, meet_eq _ _ _ _ (by omega), if_pos ok, Option.bind_some, arraslaw3_num.f, Option.bind_some, if_pos rfl, Option.bind_some]
  rw [arraslaw3_PointBoth.j3, if_neg (by simp), eM, jl_pt B, ju_pt B, jw_pt B, jh_pt B]
  exact g
theorem loop (l : List S26) : ∀ (d i : Nat), 12 - i = d → i ≤ 12 → ∃ K, ∀ k, K ≤ k → arraslaw3_PointBoth.l0 k l (i : Int) = some true := by
  intro d
  induction d with
  | zero => exact fun i hd hi => ⟨80, fin l i (by omega)⟩
  | succ d ih =>
    intro i hd hi
    by_cases c : i < l.length
    · obtain ⟨K, hK⟩ := ih (i + 1) (by omega) (by omega)
      exact body l i c (by omega) K (fun k hk => by have := hK k hk; rw [Int.natCast_add, Int.natCast_one] at this; exact this)
    · exact ⟨80, fin l i (by omega)⟩

/-- The law, over numbers and lists. -/
theorem pure : Pure := fun l _ => by
  obtain ⟨K, hK⟩ := loop l 12 0 rfl (by omega)
  exact ⟨K, hK K (Nat.le_refl _)⟩
end Go.Proofs.Ytdpeeinmckohgaa.TPointBoth
