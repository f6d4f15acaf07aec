/- What the printed Join and Meet come to (PointsG without the reference's). -/
import Derived.Test.YtdpeeinmckohgaaPointsFC
import Derived.Test.YtdpeeinmckohgaaPCx13
import Derived.Test.YtdpeeinmckohgaaPCx18
import Derived.Test.YtdpeeinmckohgaaPCx19
namespace Go.Proofs.Ytdpeeinmckohgaa.PC
open Go Go.RowKit Go.Proofs.YtdpeeinmckohgaaW.PrintWords Go.Proofs.YtdpeeinmckohgaaW.PrintLast Go.Proofs.YtdpeeinmckohgaaW.PrintMore Go.Proofs.Ytdpeeinmckohgaa.F64

theorem cd_mn {a b : Int} (ha : Cd a) (hb : Cd b) : Cd (mn a b) := by unfold mn; split <;> assumption
theorem cd_mx {a b : Int} (ha : Cd a) (hb : Cd b) : Cd (mx a b) := by unfold mx; split <;> assumption
theorem okB_cd {c s : C128} (h : okB c s = true) : Cd (X c) ∧ Cd (Y c) ∧ Cd (X s) ∧ Cd (Y s) ∧ okP c = true ∧ okP s = true ∧ ¬ neg2 (X s) (Y s) := by
  obtain ⟨h1, h2, h3, h4⟩ := okB_iff.1 h
  exact ⟨(okP_cd h1).1, (okP_cd h1).2.1, (okP_cd h2).1, (okP_cd h2).2.1, h1, h2, by unfold neg2; omega⟩
/-- The far corner's halves. -/
def fx (c s : C128) : Int := sat (X c + X s)
def fy (c s : C128) : Int := sat (Y c + Y s)
theorem cd_fx (c s : C128) : Cd (fx c s) := cd_sat _
theorem cd_fy (c s : C128) : Cd (fy c s) := cd_sat _
/-- The lists of both boxes' halves and far corners. -/
theorem two {a s b t : C128} {k : Nat} (hk : 8 ≤ k) (ha : okP a = true) (hs : okP s = true) (hb : okP b = true) (ht : okP t = true) : point_far.f k [X a, X s, X b, X t] [Y a, Y s, Y b, Y t] = some (if okB a s = true ∧ okB b t = true then ([fx a s, fx b t], [fy a s, fy b t], true) else ([], [], false)) := by
  have c1 := okP_cd ha
  have c2 := okP_cd hs
  have c3 := okP_cd hb
  have c4 := okP_cd ht
  rw [far4 c1.1 c2.1 c1.2.1 c2.2.1 c3.1 c4.1 c3.2.1 c4.2.1 hk]
  by_cases h : okB a s = true ∧ okB b t = true
  · have h1 := okB_cd h.1
    have h2 := okB_cd h.2
    rw [if_pos h, if_neg (fun hn => hn.elim h1.2.2.2.2.2.2 h2.2.2.2.2.2.2)]
    rfl
  · rw [if_neg h, if_pos ?_]
    apply Classical.byContradiction
    intro hn
    refine h ⟨okB_iff.2 ⟨ha, hs, ?_, ?_⟩, okB_iff.2 ⟨hb, ht, ?_, ?_⟩⟩ <;> (unfold neg2 at hn; omega)
theorem no4 {a s b t : C128} (h : ¬ (okP a = true ∧ okP s = true ∧ okP b = true ∧ okP t = true)) : (okP a && okP s && okP b && okP t) = false ∧ ¬ (okB a s = true ∧ okB b t = true) := by
  refine ⟨?_, fun hb => h ?_⟩
  · cases h1 : okP a <;> cases h2 : okP s <;> cases h3 : okP b <;> cases h4 : okP t <;> simp_all
  · have h1 := okB_iff.1 hb.1
    have h2 := okB_iff.1 hb.2
    exact ⟨h1.1, h1.2.1, h2.1, h2.2.1⟩

def jl (a b : C128) : Int := mn (X a) (X b)
def ju (a b : C128) : Int := mn (Y a) (Y b)
def jw (a s b t : C128) : Int := sat (mx (fx a s) (fx b t) - jl a b)
def jh (a s b t : C128) : Int := sat (mx (fy a s) (fy b t) - ju a b)
theorem join_eq (a s b t : C128) {k : Nat} (hk : 12 ≤ k) : point_Join.f k a s b t = some (if okB a s = true ∧ okB b t = true then (pt (jl a b) (ju a b), pt (jw a s b t) (jh a s b t), 0) else (((0, 0) : C128), ((0, 0) : C128), 1)) := by
  obtain ⟨k, rfl⟩ : ∃ m, k = m + 1 := ⟨k - 1, by omega⟩
  unfold point_Join.f
  rw [halves_eq _ (by simp) (by simp; omega), Option.bind_some, all4]
  by_cases hc : okP a = true ∧ okP s = true ∧ okP b = true ∧ okP t = true
  · obtain ⟨h1, h2, h3, h4⟩ := hc
    have tw := two (k := k + 1) (by omega) h1 h2 h3 h4
    rw [h1, h2, h3, h4]
    simp only [Bool.and_true, if_true, List.map_cons, List.map_nil]
    rw [tw, Option.bind_some]
    by_cases hb : okB a s = true ∧ okB b t = true
    · have b1 := okB_cd hb.1
      have b2 := okB_cd hb.2
      have m1 := minus1 (cd_mx (cd_fx a s) (cd_fx b t)) (cd_mn b1.1 b2.1)
      have m2 := minus1 (cd_mx (cd_fy a s) (cd_fy b t)) (cd_mn b1.2.1 b2.2.1)
      rw [if_pos hb, if_pos hb]
      simp only [point_Join.j0, Bool.not_true]
      rw [if_neg (by simp), if_pos (by simp), if_pos (by simp), if_pos (by simp), if_pos (by simp)]
      have r0 : rd [X a, X s, X b, X t] 0 = X a := rfl
      have r1 : rd [X a, X s, X b, X t] 2 = X b := rfl
      have r2 : rd [Y a, Y s, Y b, Y t] 0 = Y a := rfl
      have r3 : rd [Y a, Y s, Y b, Y t] 2 = Y b := rfl
      have r4 : rd [fx a s, fx b t] 0 = fx a s := rfl
      have r5 : rd [fx a s, fx b t] 1 = fx b t := rfl
      have r6 : rd [fy a s, fy b t] 0 = fy a s := rfl
      have r7 : rd [fy a s, fy b t] 1 = fy b t := rfl
      rw [r0, r1, r2, r3, r4, r5, r6, r7, make_eq, Option.bind_some, if_pos (by simp), if_pos (by simp), m1, Option.bind_some, if_pos (by simp), if_pos (by simp), m2, Option.bind_some, make_eq, Option.bind_some]
      rfl
    · rw [if_neg hb, if_neg hb]
      simp only [point_Join.j0, Bool.not_false, if_true]
  · obtain ⟨n1, n2⟩ := no4 hc
    rw [n1, if_neg n2, if_neg (by simp), far_nil (by omega), Option.bind_some]
    simp only [Bool.false_eq_true, if_false, point_Join.j0, if_true]

def ml (a b : C128) : Int := mx (X a) (X b)
def mu (a b : C128) : Int := mx (Y a) (Y b)
def mr (a s b t : C128) : Int := mn (fx a s) (fx b t)
def md (a s b t : C128) : Int := mn (fy a s) (fy b t)
def none2 (a s b t : C128) : Prop := ml a b ≥ mr a s b t ∨ mu a b ≥ md a s b t
instance (a s b t : C128) : Decidable (none2 a s b t) := by unfold none2; infer_instance
/-- What Meet tells of two boxes. -/
def meetS (a s b t : C128) : C128 × C128 := if none2 a s b t then (pt 0 0, pt 0 0) else (pt (ml a b) (mu a b), pt (sat (mr a s b t - ml a b)) (sat (md a s b t - mu a b)))
theorem pt0 : pt 0 0 = ((0, 0) : C128) := by unfold pt; rw [fOf_zero]
theorem meet_eq (a s b t : C128) {k : Nat} (hk : 12 ≤ k) : point_Meet.f k a s b t = some (if okB a s = true ∧ okB b t = true then ((meetS a s b t).1, (meetS a s b t).2, 0) else (((0, 0) : C128), ((0, 0) : C128), 1)) := by
  obtain ⟨k, rfl⟩ : ∃ m, k = m + 2 := ⟨k - 2, by omega⟩
  unfold point_Meet.f
  rw [halves_eq _ (by simp) (by simp; omega), Option.bind_some, all4]
  by_cases hc : okP a = true ∧ okP s = true ∧ okP b = true ∧ okP t = true
  · obtain ⟨h1, h2, h3, h4⟩ := hc
    have tw := two (k := k + 2) (by omega) h1 h2 h3 h4
    rw [h1, h2, h3, h4]
    simp only [Bool.and_true, if_true, List.map_cons, List.map_nil]
    rw [tw, Option.bind_some]
    by_cases hb : okB a s = true ∧ okB b t = true
    · have b1 := okB_cd hb.1
      have b2 := okB_cd hb.2
      have m1 := minus1 (cd_mn (cd_fx a s) (cd_fx b t)) (cd_mx b1.1 b2.1)
      have m2 := minus1 (cd_mn (cd_fy a s) (cd_fy b t)) (cd_mx b1.2.1 b2.2.1)
      rw [if_pos hb, if_pos hb]
      simp only [point_Meet.j0, Bool.not_true]
      rw [if_neg (by simp), if_pos (by simp), if_pos (by simp), if_pos (by simp), if_pos (by simp), if_pos (by simp), if_pos (by simp), if_pos (by simp), if_pos (by simp)]
      have r0 : rd [X a, X s, X b, X t] 0 = X a := rfl
      have r1 : rd [X a, X s, X b, X t] 2 = X b := rfl
      have r2 : rd [Y a, Y s, Y b, Y t] 0 = Y a := rfl
      have r3 : rd [Y a, Y s, Y b, Y t] 2 = Y b := rfl
      have r4 : rd [fx a s, fx b t] 0 = fx a s := rfl
      have r5 : rd [fx a s, fx b t] 1 = fx b t := rfl
      have r6 : rd [fy a s, fy b t] 0 = fy a s := rfl
      have r7 : rd [fy a s, fy b t] 1 = fy b t := rfl
      rw [r0, r1, r2, r3, r4, r5, r6, r7]
      have j1 : ∀ c : Bool, (c = true ↔ none2 a s b t) → point_Meet.j1 (k + 1) (mx (X a) (X b)) (mx (Y a) (Y b)) (mn (fx a s) (fx b t)) (mn (fy a s) (fy b t)) c = some ((meetS a s b t).1, (meetS a s b t).2, 0) := by
        intro c h
        simp only [point_Meet.j1]
        unfold meetS
        by_cases hx : c = true
        · rw [if_pos hx, if_pos (h.1 hx), pt0]
        · rw [if_neg hx, if_neg (mt h.2 hx), make_eq, Option.bind_some, m1, Option.bind_some, m2, Option.bind_some, make_eq, Option.bind_some]
          rfl
      by_cases g1 : mx (X a) (X b) ≥ mn (fx a s) (fx b t)
      · rw [if_pos g1]
        exact j1 _ ⟨fun _ => Or.inl g1, fun _ => rfl⟩
      · rw [if_neg g1]
        exact j1 _ ⟨fun h => Or.inr (of_decide_eq_true h), fun h => decide_eq_true (h.resolve_left g1)⟩
    · rw [if_neg hb, if_neg hb]
      simp only [point_Meet.j0, Bool.not_false, if_true]
  · obtain ⟨n1, n2⟩ := no4 hc
    rw [n1, if_neg n2, if_neg (by simp), far_nil (by omega), Option.bind_some]
    simp only [Bool.false_eq_true, if_false, point_Meet.j0, if_true]

end Go.Proofs.Ytdpeeinmckohgaa.PC
