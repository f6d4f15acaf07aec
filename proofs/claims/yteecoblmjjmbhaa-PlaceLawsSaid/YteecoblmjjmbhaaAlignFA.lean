/- Where one stands across its line: what place.Align and the reference's come to. -/
import Derived.Test.YteecoblmjjmbhaaPlaceA
import Derived.Test.YteecoblmjjmbhaaSizeRA
import Derived.Test.YteecoblmjjmbhaaPAx0
import Derived.Test.YteecoblmjjmbhaaPAx4
import Derived.Test.YteecoblmjjmbhaaPAx5
namespace Go.Proofs.Yteecoblmjjmbhaa.PA
open Go.RowKit Go.Proofs.YteecoblmjjmbhaaW.PrintWords

/-- May it be? -/
def mayA (size room how : Int) : Bool := pl size && pl room && decide (0 ≤ how ∧ how ≤ 3)
/-- Where it stands, and how long it is. -/
def alignS (size room how : Int) : Int × Int := if how = 0 then (0, room) else if how = 2 then (restS room size, size) else if how = 3 then (restS room size / 2, size) else (0, size)
theorem ref_rest' {room n : Int} (hr : 0 ≤ room ∧ room ≤ 1099511627776) (hn : 0 ≤ n ∧ n ≤ 1099511627776) : mx 0 (wrap64 (room - n)) = restS room n := by
  rw [w64 (by omega) (by omega)]
  unfold restS mx
  split <;> split <;> omega

theorem across_eq {size room : Int} (how : Int) (hs : 0 ≤ size ∧ size ≤ 1099511627776) (hr : 0 ≤ room ∧ room ≤ 1099511627776) (h3 : 0 ≤ how ∧ how ≤ 3) : place_Across.f size room how = some (alignS size room how) := by
  have hb := restS_bd hr hs
  have hd := div_bd hb (show (0 : Int) < 2 by omega)
  simp only [place_Across.f]
  rw [rest_eq hr hs]
  simp only [Option.bind_some]
  rw [Int.tdiv_eq_ediv_of_nonneg hb.1, w64 (by omega) (by omega)]
  unfold alignS
  have : how = 0 ∨ how = 1 ∨ how = 2 ∨ how = 3 := by omega
  rcases this with rfl | rfl | rfl | rfl <;> simp
theorem align_eq (size room how : Int) : place_Align.f size room how = some (if mayA size room how = true then ((alignS size room how).1, (alignS size room how).2, 0) else (0, 0, 1)) := by
  simp only [place_Align.f, plain_eq, Option.bind_some]
  unfold mayA
  cases h1 : pl size with
  | false => simp
  | true =>
    cases h2 : pl room with
    | false => simp
    | true =>
      simp only [if_true, Bool.true_and]
      by_cases a1 : how < 0
      · rw [if_pos a1, if_neg (by simp; omega)]
      · by_cases a2 : how > 3
        · rw [if_neg a1, if_pos a2, if_neg (by simp; omega)]
        · rw [if_neg a1, if_neg a2, if_pos (by simp; omega), across_eq how (pl_iff.1 h1) (pl_iff.1 h2) (by omega)]
          rfl
theorem refMayA_eq (size room how : Int) : arrasref19_MayAlign.f size room how = some (mayA size room how) := by
  simp only [arrasref19_MayAlign.f, size_eq, Option.bind_some]
  unfold mayA
  cases h1 : pl size with
  | false => simp
  | true =>
    cases h2 : pl room with
    | false => simp
    | true =>
      simp only [if_true, Bool.true_and]
      by_cases h : how ≥ 0
      · rw [if_pos h]; simp [h]
      · rw [if_neg h]; simp; omega
theorem refAlign_eq {size room how : Int} (hm : mayA size room how = true) : arrasref19_Align.f size room how = some (alignS size room how) := by
  unfold mayA at hm
  simp only [Bool.and_eq_true, decide_eq_true_eq] at hm
  have hs := pl_iff.1 hm.1.1
  have hr := pl_iff.1 hm.1.2
  have hb := restS_bd hr hs
  have hd := div_bd hb (show (0 : Int) < 2 by omega)
  simp only [arrasref19_Align.f]
  rw [ref_rest' hr hs, Int.tdiv_eq_ediv_of_nonneg hb.1, w64 (by omega) (by omega)]
  unfold alignS
  have : how = 0 ∨ how = 1 ∨ how = 2 ∨ how = 3 := by omega
  rcases this with rfl | rfl | rfl | rfl <;> simp

end Go.Proofs.Yteecoblmjjmbhaa.PA
