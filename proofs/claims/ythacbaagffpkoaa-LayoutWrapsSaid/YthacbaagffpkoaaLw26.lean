/-
LayoutWraps, part 26 of 48: FxPure.
-/
import Derived.IntWalk
import Derived.RowKit
import Derived.Test.YthacbaagffpkoaaLw25
set_option linter.unusedVariables false
set_option linter.unusedSimpArgs false
set_option maxRecDepth 100000
set_option maxHeartbeats 0
section
namespace Go.Ai.Lf
open Go.RowKit
structure S66 where
 f0 : Int
 f1 : Int
def z66 : S66 := ⟨(0 : Int), (0 : Int)⟩
def rd_T66 (xs : List S66) (i : Int) : S66 := xs.getD i.toNat z66
def rd (xs : List Int) (i : Int) : Int := xs.getD i.toNat 0
structure Aside0 (p : Prop) : Prop where
 out : p
def cmp_isNaN_int.f (a0 : Int) : Option (Bool) := some (a0 != a0)
def cmp_Compare_int.f (a0 : Int) (a1 : Int) : Option (Int) := (cmp_isNaN_int.f a0).bind fun t163 => ((cmp_isNaN_int.f a1).bind fun t164 => (if t163 = true then (if t164 = true then (some 0) else (some (-1))) else (if t164 = true then (some 1) else (if a0 < a1 then (some (-1)) else (if a0 > a1 then (some 1) else (some 0))))))
def share_Parts_1.f (a0_0 : Int) (a0_1 : Int) (a1_0 : Int) (a1_1 : Int) : Option (Int) := (cmp_Compare_int.f a1_0 a0_0).bind fun t167 => (some t167)
mutual
def share_rest_63.l0 : Nat → List (S66) → Int → Int → Int → Option ((List (S66)))
 | 0, _, _, _, _ => none
 | k + 1, x0, x1, x2, x8 => if x8 < x2 then (share_rest_63.l1 k x0 x1 x2 x8 x8) else (some x0)
def share_rest_63.l1 : Nat → List (S66) → Int → Int → Int → Int → Option ((List (S66)))
 | 0, _, _, _, _, _ => none
 | k + 1, x0, x1, x2, x8, x9 => if x9 > x1 then (if 0 ≤ x9 then (if x9 < (x0.length : Int) then (if 0 ≤ (wrap64 (x9 - 1)) then (if (wrap64 (x9 - 1)) < (x0.length : Int) then ((share_Parts_1.f ((rd_T66 x0 x9).f0) ((rd_T66 x0 x9).f1) ((rd_T66 x0 (wrap64 (x9 - 1))).f0) ((rd_T66 x0 (wrap64 (x9 - 1))).f1)).bind fun t170 => (if t170 < 0 then (share_rest_63.l1 k ((x0.set (x9 : Int).toNat (⟨(rd_T66 x0 (wrap64 (x9 - 1))).f0, (rd_T66 x0 (wrap64 (x9 - 1))).f1⟩ : S66)).set ((wrap64 (x9 - 1)) : Int).toNat (⟨(rd_T66 x0 x9).f0, (rd_T66 x0 x9).f1⟩ : S66)) x1 x2 x8 (wrap64 (x9 - 1))) else (share_rest_63.l0 k x0 x1 x2 (wrap64 (x8 + 1))))) else (none)) else (none)) else (none)) else (none)) else (share_rest_63.l0 k x0 x1 x2 (wrap64 (x8 + 1)))
end
def share_rest_63.f (k : Nat) (l0 : List (S66)) (a1 : Int) (a2 : Int) (a3 : Unit) : Option ((List (S66))) := share_rest_63.l0 k l0 a1 a2 (wrap64 (a1 + 1))
def share_rest_69.l0 : Nat → List (S66) → Int → Int → Int → Int → Option ((List (S66)))
 | 0, _, _, _, _, _ => none
 | k + 1, x0, x1, x2, x3, x10 => if x10 < x3 then (if 0 ≤ (wrap64 (x2 + x10)) then (if (wrap64 (x2 + x10)) < (x0.length : Int) then (if 0 ≤ (wrap64 (x1 + x10)) then (if (wrap64 (x1 + x10)) < (x0.length : Int) then (share_rest_69.l0 k ((x0.set ((wrap64 (x1 + x10)) : Int).toNat (⟨(rd_T66 x0 (wrap64 (x2 + x10))).f0, (rd_T66 x0 (wrap64 (x2 + x10))).f1⟩ : S66)).set ((wrap64 (x2 + x10)) : Int).toNat (⟨(rd_T66 x0 (wrap64 (x1 + x10))).f0, (rd_T66 x0 (wrap64 (x1 + x10))).f1⟩ : S66)) x1 x2 x3 (wrap64 (x10 + 1))) else (none)) else (none)) else (none)) else (none)) else (some x0)
def share_rest_69.f (k : Nat) (l0 : List (S66)) (a1 : Int) (a2 : Int) (a3 : Int) (a4 : Unit) : Option ((List (S66))) := share_rest_69.l0 k l0 a1 a2 a3 0
def share_rest_67.l0 : Nat → List (S66) → Int → Unit → Int → Int → Option ((List (S66)))
 | 0, _, _, _, _, _ => none
 | k + 1, x0, x2, x4, x10, x11 => if x10 = x11 then ((share_rest_69.f k x0 (wrap64 (x2 - x10)) x2 x10 x4).bind fun t179 => (some t179)) else (if x10 > x11 then ((share_rest_69.f k x0 (wrap64 (x2 - x10)) x2 x11 x4).bind fun t180 => (share_rest_67.l0 k t180 x2 x4 (wrap64 (x10 - x11)) x11)) else ((share_rest_69.f k x0 (wrap64 (x2 - x10)) (wrap64 ((wrap64 (x2 + x11)) - x10)) x10 x4).bind fun t181 => (share_rest_67.l0 k t181 x2 x4 x10 (wrap64 (x11 - x10)))))
def share_rest_67.f (k : Nat) (l0 : List (S66)) (a1 : Int) (a2 : Int) (a3 : Int) (a4 : Unit) : Option ((List (S66))) := share_rest_67.l0 k l0 a2 a4 (wrap64 (a2 - a1)) (wrap64 (a3 - a2))
mutual
def share_rest_64.l0 : Nat → List (S66) → Int → Int → Int → Option ((List (S66)))
 | 0, _, _, _, _ => none
 | k + 1, x0, x1, x10, x11 => if x10 < x11 then (if 0 ≤ (wrap64 ((IntKind.u64.wrap (wrap64 (x10 + x11))) / 2)) then (if (wrap64 ((IntKind.u64.wrap (wrap64 (x10 + x11))) / 2)) < (x0.length : Int) then (if 0 ≤ x1 then (if x1 < (x0.length : Int) then ((share_Parts_1.f ((rd_T66 x0 (wrap64 ((IntKind.u64.wrap (wrap64 (x10 + x11))) / 2))).f0) ((rd_T66 x0 (wrap64 ((IntKind.u64.wrap (wrap64 (x10 + x11))) / 2))).f1) ((rd_T66 x0 x1).f0) ((rd_T66 x0 x1).f1)).bind fun t184 => (if t184 < 0 then (share_rest_64.l0 k x0 x1 (wrap64 ((wrap64 ((IntKind.u64.wrap (wrap64 (x10 + x11))) / 2)) + 1)) x11) else (share_rest_64.l0 k x0 x1 x10 (wrap64 ((IntKind.u64.wrap (wrap64 (x10 + x11))) / 2))))) else (none)) else (none)) else (none)) else (none)) else (share_rest_64.l1 k x0 x10 x1)
def share_rest_64.l1 : Nat → List (S66) → Int → Int → Option ((List (S66)))
 | 0, _, _, _ => none
 | k + 1, x0, x10, x13 => if x13 < (wrap64 (x10 - 1)) then (if 0 ≤ (wrap64 (x13 + 1)) then (if (wrap64 (x13 + 1)) < (x0.length : Int) then (if 0 ≤ x13 then (if x13 < (x0.length : Int) then (share_rest_64.l1 k ((x0.set (x13 : Int).toNat (⟨(rd_T66 x0 (wrap64 (x13 + 1))).f0, (rd_T66 x0 (wrap64 (x13 + 1))).f1⟩ : S66)).set ((wrap64 (x13 + 1)) : Int).toNat (⟨(rd_T66 x0 x13).f0, (rd_T66 x0 x13).f1⟩ : S66)) x10 (wrap64 (x13 + 1))) else (none)) else (none)) else (none)) else (none)) else (some x0)
def share_rest_64.l2 : Nat → List (S66) → Int → Int → Int → Option ((List (S66)))
 | 0, _, _, _, _ => none
 | k + 1, x0, x2, x14, x15 => if x14 < x15 then (if 0 ≤ x2 then (if x2 < (x0.length : Int) then (if 0 ≤ (wrap64 ((IntKind.u64.wrap (wrap64 (x14 + x15))) / 2)) then (if (wrap64 ((IntKind.u64.wrap (wrap64 (x14 + x15))) / 2)) < (x0.length : Int) then ((share_Parts_1.f ((rd_T66 x0 x2).f0) ((rd_T66 x0 x2).f1) ((rd_T66 x0 (wrap64 ((IntKind.u64.wrap (wrap64 (x14 + x15))) / 2))).f0) ((rd_T66 x0 (wrap64 ((IntKind.u64.wrap (wrap64 (x14 + x15))) / 2))).f1)).bind fun t191 => (if t191 < 0 then (share_rest_64.l2 k x0 x2 x14 (wrap64 ((IntKind.u64.wrap (wrap64 (x14 + x15))) / 2))) else (share_rest_64.l2 k x0 x2 (wrap64 ((wrap64 ((IntKind.u64.wrap (wrap64 (x14 + x15))) / 2)) + 1)) x15))) else (none)) else (none)) else (none)) else (none)) else (share_rest_64.l3 k x0 x14 x2)
def share_rest_64.l3 : Nat → List (S66) → Int → Int → Option ((List (S66)))
 | 0, _, _, _ => none
 | k + 1, x0, x14, x17 => if x17 > x14 then (if 0 ≤ (wrap64 (x17 - 1)) then (if (wrap64 (x17 - 1)) < (x0.length : Int) then (if 0 ≤ x17 then (if x17 < (x0.length : Int) then (share_rest_64.l3 k ((x0.set (x17 : Int).toNat (⟨(rd_T66 x0 (wrap64 (x17 - 1))).f0, (rd_T66 x0 (wrap64 (x17 - 1))).f1⟩ : S66)).set ((wrap64 (x17 - 1)) : Int).toNat (⟨(rd_T66 x0 x17).f0, (rd_T66 x0 x17).f1⟩ : S66)) x14 (wrap64 (x17 - 1))) else (none)) else (none)) else (none)) else (none)) else (some x0)
def share_rest_64.j4 : Nat → List (S66) → Int → Int → Int → Unit → Int → Int → Int → Int → Option ((List (S66)))
 | 0, _, _, _, _, _, _, _, _, _ => none
 | k + 1, x0, x1, x2, x3, x4, x18, x19, x20, x21 => share_rest_64.l4 k x0 x1 x2 x3 x4 x18 x19 x20 x21 (wrap64 (x19 - 1))
def share_rest_64.l4 : Nat → List (S66) → Int → Int → Int → Unit → Int → Int → Int → Int → Int → Option ((List (S66)))
 | 0, _, _, _, _, _, _, _, _, _, _ => none
 | k + 1, x0, x1, x2, x3, x4, x18, x19, x20, x21, x22 => if x20 < x21 then (if 0 ≤ (wrap64 (x22 - (wrap64 ((IntKind.u64.wrap (wrap64 (x20 + x21))) / 2)))) then (if (wrap64 (x22 - (wrap64 ((IntKind.u64.wrap (wrap64 (x20 + x21))) / 2)))) < (x0.length : Int) then (if 0 ≤ (wrap64 ((IntKind.u64.wrap (wrap64 (x20 + x21))) / 2)) then (if (wrap64 ((IntKind.u64.wrap (wrap64 (x20 + x21))) / 2)) < (x0.length : Int) then ((share_Parts_1.f ((rd_T66 x0 (wrap64 (x22 - (wrap64 ((IntKind.u64.wrap (wrap64 (x20 + x21))) / 2))))).f0) ((rd_T66 x0 (wrap64 (x22 - (wrap64 ((IntKind.u64.wrap (wrap64 (x20 + x21))) / 2))))).f1) ((rd_T66 x0 (wrap64 ((IntKind.u64.wrap (wrap64 (x20 + x21))) / 2))).f0) ((rd_T66 x0 (wrap64 ((IntKind.u64.wrap (wrap64 (x20 + x21))) / 2))).f1)).bind fun t198 => (if t198 < 0 then (share_rest_64.l4 k x0 x1 x2 x3 x4 x18 x19 x20 (wrap64 ((IntKind.u64.wrap (wrap64 (x20 + x21))) / 2)) x22) else (share_rest_64.l4 k x0 x1 x2 x3 x4 x18 x19 (wrap64 ((wrap64 ((IntKind.u64.wrap (wrap64 (x20 + x21))) / 2)) + 1)) x21 x22))) else (none)) else (none)) else (none)) else (none)) else (if x20 < x2 then (share_rest_64.j6 k x0 x1 x2 x3 x4 x18 x20 (wrap64 (x19 - x20)) (decide (x2 < (wrap64 (x19 - x20))))) else (share_rest_64.j6 k x0 x1 x2 x3 x4 x18 x20 (wrap64 (x19 - x20)) false))
def share_rest_64.j6 : Nat → List (S66) → Int → Int → Int → Unit → Int → Int → Int → Bool → Option ((List (S66)))
 | 0, _, _, _, _, _, _, _, _, _ => none
 | k + 1, x0, x1, x2, x3, x4, x18, x20, x24, x185 => if x185 = true then ((share_rest_67.f k x0 x20 x2 x24 x4).bind fun t199 => (share_rest_64.j7 k t199 x1 x3 x4 x18 x20 x24)) else (share_rest_64.j7 k x0 x1 x3 x4 x18 x20 x24)
def share_rest_64.j7 : Nat → List (S66) → Int → Int → Unit → Int → Int → Int → Option ((List (S66)))
 | 0, _, _, _, _, _, _, _ => none
 | k + 1, x0, x1, x3, x4, x18, x20, x24 => if x1 < x20 then (share_rest_64.j8 k x0 x1 x3 x4 x18 x20 x24 (decide (x20 < x18))) else (share_rest_64.j8 k x0 x1 x3 x4 x18 x20 x24 false)
def share_rest_64.j8 : Nat → List (S66) → Int → Int → Unit → Int → Int → Int → Bool → Option ((List (S66)))
 | 0, _, _, _, _, _, _, _, _ => none
 | k + 1, x0, x1, x3, x4, x18, x20, x24, x199 => if x199 = true then ((share_rest_64.f k x0 x1 x20 x18 x4).bind fun t200 => (if x18 < x24 then (if x24 < x3 then ((share_rest_64.f k t200 x18 x24 x3 x4).bind fun t201 => (some t201)) else (some t200)) else (some t200))) else (if x18 < x24 then (if x24 < x3 then ((share_rest_64.f k x0 x18 x24 x3 x4).bind fun t202 => (some t202)) else (some x0)) else (some x0))
def share_rest_64.f : Nat → List (S66) → Int → Int → Int → Unit → Option ((List (S66)))
 | 0, _, _, _, _, _ => none
 | k + 1, l0, a1, a2, a3, a4 => if (wrap64 (a2 - a1)) = 1 then (share_rest_64.l0 k l0 a1 a2 a3) else (if (wrap64 (a3 - a2)) = 1 then (share_rest_64.l2 k l0 a2 a1 a2) else (if a2 > (wrap64 ((IntKind.u64.wrap (wrap64 (a1 + a3))) / 2)) then (share_rest_64.j4 k l0 a1 a2 a3 a4 (wrap64 ((IntKind.u64.wrap (wrap64 (a1 + a3))) / 2)) (wrap64 ((wrap64 ((IntKind.u64.wrap (wrap64 (a1 + a3))) / 2)) + a2)) (wrap64 ((wrap64 ((wrap64 ((IntKind.u64.wrap (wrap64 (a1 + a3))) / 2)) + a2)) - a3)) (wrap64 ((IntKind.u64.wrap (wrap64 (a1 + a3))) / 2))) else (share_rest_64.j4 k l0 a1 a2 a3 a4 (wrap64 ((IntKind.u64.wrap (wrap64 (a1 + a3))) / 2)) (wrap64 ((wrap64 ((IntKind.u64.wrap (wrap64 (a1 + a3))) / 2)) + a2)) a1 a2)))
end
mutual
def share_rest_56.l0 : Nat → List (S66) → Int → Unit → Int → Int → Int → Option ((List (S66)))
 | 0, _, _, _, _, _, _ => none
 | k + 1, x0, x1, x2, x6, x7, x8 => if x8 ≤ x1 then ((share_rest_63.f k x0 x7 x8 x2).bind fun t203 => (share_rest_56.l0 k t203 x1 x2 x6 x8 (wrap64 (x8 + x6)))) else ((share_rest_63.f k x0 x7 x1 x2).bind fun t204 => (share_rest_56.l1 k t204 x1 x2 x6))
def share_rest_56.l1 : Nat → List (S66) → Int → Unit → Int → Option ((List (S66)))
 | 0, _, _, _, _ => none
 | k + 1, x0, x1, x2, x6 => if x6 < x1 then (share_rest_56.l2 k x0 x1 x2 x6 0 (wrap64 (2 * x6))) else (some x0)
def share_rest_56.l2 : Nat → List (S66) → Int → Unit → Int → Int → Int → Option ((List (S66)))
 | 0, _, _, _, _, _, _ => none
 | k + 1, x0, x1, x2, x6, x7, x8 => if x8 ≤ x1 then ((share_rest_64.f k x0 x7 (wrap64 (x7 + x6)) x8 x2).bind fun t205 => (share_rest_56.l2 k t205 x1 x2 x6 x8 (wrap64 (x8 + (wrap64 (2 * x6)))))) else (if (wrap64 (x7 + x6)) < x1 then ((share_rest_64.f k x0 x7 (wrap64 (x7 + x6)) x1 x2).bind fun t206 => (share_rest_56.l1 k t206 x1 x2 (wrap64 (x6 * 2)))) else (share_rest_56.l1 k x0 x1 x2 (wrap64 (x6 * 2))))
end
def share_rest_56.f (k : Nat) (l0 : List (S66)) (a1 : Int) (a2 : Unit) : Option ((List (S66))) := share_rest_56.l0 k l0 a1 a2 20 0 20
def share_rest_47.f (k : Nat) (l0 : List (S66)) (a1 : Unit) : Option ((List (S66))) := (share_rest_56.f k l0 (l0.length : Int) a1).bind fun t207 => (some t207)
def share_weight.l0 : Nat → List Int → Int → Int → Option (Int)
 | 0, _, _, _ => none
 | k + 1, x0, x2, x3 => if x3 = (x0.length : Int) then (some x2) else (if 0 ≤ x3 then (if x3 < (x0.length : Int) then (if (rd x0 x3) < 0 then (some 0) else (if (rd x0 x3) > 1048576 then (some 0) else (share_weight.l0 k x0 (wrap64 (x2 + (rd x0 x3))) (wrap64 (x3 + 1))))) else (none)) else (none))
def share_weight.f (k : Nat) (l0 : List Int) : Option (Int) := if (l0.length : Int) > 256 then (some 0) else (share_weight.l0 k l0 0 0)
mutual
def share_Parts.l0 : Nat → Int → Int → Int → List Int → List (S66) → List Int → Int → Int → Option (List Int)
 | 0, _, _, _, _, _, _, _, _ => none
 | k + 1, x0, x5, x6, x7, x8, x17, x18, x19 => if x19 < x18 then (if 0 ≤ x19 then (if x19 < (x17.length : Int) then (if x5 = 0 then (none) else ((some (([wrap64 (Int.tdiv (wrap64 (x0 * (rd x17 x19))) x5)] : List Int) : List Int)).bind fun y210 => (if x7.length + y210.length < 17592186044416 then ((some (([(⟨Int.tmod (wrap64 (x0 * (rd x17 x19))) x5, x19⟩ : S66)] : List (S66)) : List (S66))).bind fun y216 => (if x8.length + y216.length < 8796093022208 then (share_Parts.l0 k x0 x5 (wrap64 (x6 - (wrap64 (Int.tdiv (wrap64 (x0 * (rd x17 x19))) x5)))) (x7 ++ y210) (x8 ++ y216) x17 x18 (wrap64 (x19 + 1))) else (none))) else (none)))) else (none)) else (none)) else ((share_rest_47.f k x8 ()).bind fun t222 => (if 0 ≤ x6 then (if x6 ≤ (x8.length : Int) then ((some (t222.take (x6 : Int).toNat : List (S66))).bind fun y223 => (share_Parts.l1 k x7 y223 (y223.length : Int) 0)) else (none)) else (none)))
def share_Parts.l1 : Nat → List Int → List (S66) → Int → Int → Option (List Int)
 | 0, _, _, _, _ => none
 | k + 1, x7, x51, x52, x53 => if x53 < x52 then (if 0 ≤ x53 then (if x53 < (x51.length : Int) then (if 0 ≤ ((rd_T66 x51 x53).f1) then (if ((rd_T66 x51 x53).f1) < (x7.length : Int) then (share_Parts.l1 k (x7.set (((rd_T66 x51 x53).f1) : Int).toNat (wrap64 ((rd x7 ((rd_T66 x51 x53).f1)) + 1))) x51 x52 (wrap64 (x53 + 1))) else (none)) else (none)) else (none)) else (none)) else (some x7)
end
def share_Parts.f (k : Nat) (a0 : Int) (l1 : List Int) : Option (List Int) := (share_weight.f k l1).bind fun t208 => (share_Parts.l0 k a0 t208 a0 ([] : List Int) ([] : List (S66)) l1 (l1.length : Int) 0)
mutual
def arrasref1_Split.l0 : Nat → Int → List Int → Int → Int → Option (List Int)
 | 0, _, _, _, _ => none
 | k + 1, x0, x1, x5, x6 => if x6 < (x1.length : Int) then (if 0 ≤ x6 then (arrasref1_Split.l0 k x0 x1 (wrap64 (x5 + (rd x1 x6))) (wrap64 (x6 + 1))) else (none)) else (arrasref1_Split.l1 k x0 x1 x5 ([] : List Int) ([] : List Int) x0 0)
def arrasref1_Split.l1 : Nat → Int → List Int → Int → List Int → List Int → Int → Int → Option (List Int)
 | 0, _, _, _, _, _, _, _ => none
 | k + 1, x0, x1, x5, x7, x8, x9, x10 => if x10 < (x1.length : Int) then (if 0 ≤ x10 then (if x5 = 0 then (none) else (if x7.length < 17592186044416 then ((some (x7 ++ [wrap64 (Int.tdiv (wrap64 (x0 * (rd x1 x10))) x5)] : List Int)).bind fun y289 => (if x8.length < 17592186044416 then (if x10 < (y289.length : Int) then (arrasref1_Split.l1 k x0 x1 x5 y289 (x8 ++ [Int.tmod (wrap64 (x0 * (rd x1 x10))) x5]) (wrap64 (x9 - (rd y289 x10))) (wrap64 (x10 + 1))) else (none)) else (none))) else (none))) else (none)) else (arrasref1_Split.l2 k x7 x8 x9)
def arrasref1_Split.l2 : Nat → List Int → List Int → Int → Option (List Int)
 | 0, _, _, _ => none
 | k + 1, x7, x8, x9 => if x9 > 0 then (arrasref1_Split.l3 k x7 x8 x9 0 1) else (some x7)
def arrasref1_Split.l3 : Nat → List Int → List Int → Int → Int → Int → Option (List Int)
 | 0, _, _, _, _, _ => none
 | k + 1, x7, x8, x9, x11, x12 => if x12 < (x8.length : Int) then (if 0 ≤ x12 then (if 0 ≤ x11 then (if x11 < (x8.length : Int) then (if (rd x8 x12) > (rd x8 x11) then (arrasref1_Split.l3 k x7 x8 x9 x12 (wrap64 (x12 + 1))) else (arrasref1_Split.l3 k x7 x8 x9 x11 (wrap64 (x12 + 1)))) else (none)) else (none)) else (none)) else (if 0 ≤ x11 then (if x11 < (x8.length : Int) then (if x11 < (x7.length : Int) then (arrasref1_Split.l2 k (x7.set (x11 : Int).toNat (wrap64 ((rd x7 x11) + 1))) (x8.set (x11 : Int).toNat (-1)) (wrap64 (x9 - 1))) else (none)) else (none)) else (none))
end
end Go.Ai.Lf
namespace Go.Ai.Lf
open Go.RowKit
theorem w64' {n : Int} (h : -9223372036854775808 ≤ n) (h' : n ≤ 9223372036854775807) : wrap64 n = n := by unfold wrap64; omega
theorem rdT {l : List S66} {i : Nat} (h : i < l.length) : rd_T66 l (i : Int) = l[i] := by simp [rd_T66, List.getD_eq_getElem?_getD, h]
theorem rdT_app (A : List S66) (x : S66) (B : List S66) {i : Int} (hi : i = (A.length : Int)) : rd_T66 (A ++ x :: B) i = x := by
 subst hi;rw [rdT (by simp)];simp
theorem set_app (A : List S66) (x y : S66) (B : List S66) {i : Nat} (hi : i = A.length) : (A ++ x :: B).set i y = A ++ y :: B := by
 subst hi;simp
theorem swap2 (A : List S66) (x : S66) (B : List S66) (y : S66) (C : List S66) {i j : Int} (hi : i = (A.length : Int)) (hj : j = (A.length : Int) + 1 + (B.length : Int)) :
  ((A ++ x :: (B ++ y :: C)).set i.toNat (⟨(rd_T66 (A ++ x :: (B ++ y :: C)) j).f0, (rd_T66 (A ++ x :: (B ++ y :: C)) j).f1⟩ : S66)).set j.toNat (⟨(rd_T66 (A ++ x :: (B ++ y :: C)) i).f0, (rd_T66 (A ++ x :: (B ++ y :: C)) i).f1⟩ : S66) = A ++ y :: (B ++ x :: C) := by
 have e1 : rd_T66 (A ++ x :: (B ++ y :: C)) i = x := rdT_app A x _ hi;have e : A ++ x :: (B ++ y :: C) = (A ++ x :: B) ++ y :: C := by simp
 have e2 : rd_T66 (A ++ x :: (B ++ y :: C)) j = y := by
  rw [e];exact rdT_app _ y C (by simp; omega)
 rw [e1, e2];rw [set_app A x _ _ Om];show (A ++ y :: (B ++ y :: C)).set _ x = _;have e3 : A ++ y :: (B ++ y :: C) = (A ++ y :: B) ++ y :: C := by simp
 rw [e3, set_app _ y _ _ (by simp; omega)];simp
theorem swap_l0 (A Q S : List S66) : ∀ (U2 V2 U1 V1 : List S66) (k : Nat), U2.length = V2.length → U1.length = V1.length → A.length + (U1.length + U2.length) + Q.length + (U1.length + U2.length) + S.length ≤ 4611686018427387904 → U2.length + 1 ≤ k →
  share_rest_69.l0 k (A ++ V1 ++ U2 ++ Q ++ U1 ++ V2 ++ S) (A.length : Int) ((A.length : Int) + ((U1.length : Int) + (U2.length : Int)) + (Q.length : Int)) ((U1.length : Int) + (U2.length : Int)) (U1.length : Int) = some (A ++ V1 ++ V2 ++ Q ++ U1 ++ U2 ++ S)
 | [], [], U1, V1, k, _, _, _, hk => by
  obtain ⟨k, rfl⟩ : ∃ m, k = m + 1 := ⟨k - 1, by omega⟩;simp only [share_rest_69.l0];rw [if_neg (by simp)]
 | u :: U2, v :: V2, U1, V1, k, h, h1, hb, hk => by
  obtain ⟨k, rfl⟩ : ∃ m, k = m + 1 := ⟨k - 1, by simp at hk; omega⟩;simp only [List.length_cons] at h hb hk;have ih := swap_l0 A Q S U2 V2 (U1 ++ [u]) (V1 ++ [v]) k Om (by simp; omega) (by simp; omega) Om;have e : A ++ V1 ++ (u :: U2) ++ Q ++ U1 ++ (v :: V2) ++ S = (A ++ V1) ++ u :: ((U2 ++ Q ++ U1) ++ v :: (V2 ++ S)) := by simp
  simp only [share_rest_69.l0];rw [w64' (n := (A.length : Int) + ((U1.length : Int) + ((u :: U2).length : Int)) + (Q.length : Int) + (U1.length : Int)) (by simp; omega) (by simp; omega), w64' (n := (A.length : Int) + (U1.length : Int)) Om Om, w64' (n := (U1.length : Int) + 1) Om Om];rw [if_pos (by simp; omega), if_pos Om, if_pos (by simp; omega), if_pos Om, if_pos (by simp; omega)];rw [e, swap2 (A ++ V1) u (U2 ++ Q ++ U1) v (V2 ++ S) (by simp; omega) (by simp; omega)];have e2 : (A ++ V1) ++ v :: ((U2 ++ Q ++ U1) ++ u :: (V2 ++ S)) = A ++ (V1 ++ [v]) ++ U2 ++ Q ++ (U1 ++ [u]) ++ V2 ++ S := by simp
  rw [e2];simp only [List.length_append, List.length_cons, List.length_nil] at ih ⊢;have e3 : ((U1.length + (0 + 1) : Nat) : Int) = (U1.length : Int) + 1 := by omega
  rw [e3] at ih;have e4 : (U1.length : Int) + 1 + (U2.length : Int) = (U1.length : Int) + ((U2.length + 1 : Nat) : Int) := by omega
  rw [e4] at ih;rw [ih];simp
theorem swapRange_eq (A U Q V S : List S66) (h : U.length = V.length) (hb : A.length + U.length + Q.length + U.length + S.length ≤ 4611686018427387904) {a b n : Int} (ha : a = (A.length : Int)) (hb' : b = (A.length : Int) + (U.length : Int) + (Q.length : Int)) (hn : n = (U.length : Int)) (u : Unit) {k : Nat} (hk : U.length + 1 ≤ k) :
  share_rest_69.f k (A ++ U ++ Q ++ V ++ S) a b n u = some (A ++ V ++ Q ++ U ++ S) := by
 subst ha hb' hn;have := swap_l0 A Q S U V [] [] k h rfl (by simp; omega) hk;simpa [share_rest_69.f] using this
theorem rotate_l0 (u : Unit) : ∀ (n : Nat) (A X Y B : List S66) (k : Nat), X.length + Y.length = n → 0 < X.length → 0 < Y.length → A.length + X.length + Y.length + B.length ≤ 1152921504606846976 → n + 2 ≤ k →
  share_rest_67.l0 k (A ++ X ++ Y ++ B) ((A.length : Int) + (X.length : Int)) u (X.length : Int) (Y.length : Int) = some (A ++ Y ++ X ++ B) := by
 intro n
 induction n using Nat.strongRecOn with
 | _ n ih =>
  intro A X Y B k hn hx hy hb hk;obtain ⟨k, rfl⟩ : ∃ m, k = m + 1 := ⟨k - 1, by omega⟩;have ew : wrap64 ((A.length : Int) + (X.length : Int) - (X.length : Int)) = (A.length : Int) := by rw [w64' Om Om]; omega
  simp only [share_rest_67.l0];rw [ew];clear ew
  by_cases c : (X.length : Int) = (Y.length : Int)
  ·rw [if_pos c];have h := swapRange_eq A X [] Y B Om (by simp; omega) (a := (A.length : Int)) (b := (A.length : Int) + (X.length : Int)) (n := (X.length : Int)) rfl (by simp) rfl u (k := k) Om;simp only [List.append_nil] at h;rw [h];rfl
  ·rw [if_neg c]
   by_cases c2 : (X.length : Int) > (Y.length : Int)
   ·rw [if_pos c2];obtain ⟨X1, X2, rfl, h1⟩ : ∃ X1 X2, X = X1 ++ X2 ∧ X1.length = Y.length := ⟨X.take Y.length, X.drop Y.length, (List.take_append_drop _ _).symm, by simp; omega⟩;simp only [List.length_append] at hn hx hb c2 c ⊢;have h := swapRange_eq A X1 X2 Y B h1 Om (a := (A.length : Int)) (b := (A.length : Int) + ((X1.length + X2.length : Nat) : Int)) (n := (Y.length : Int)) rfl Om Om u (k := k) Om;rw [show A ++ (X1 ++ X2) ++ Y ++ B = A ++ X1 ++ X2 ++ Y ++ B by simp, h];simp only [Option.bind_some];have g := ih (X2.length + X1.length) Om (A ++ Y) X2 X1 B k rfl Om Om (by simp; omega) Om;rw [w64' (n := ((X1.length + X2.length : Nat) : Int) - (Y.length : Int)) Om Om];have e1 : ((X1.length + X2.length : Nat) : Int) - (Y.length : Int) = (X2.length : Int) := by omega
    have e2 : (A.length : Int) + ((X1.length + X2.length : Nat) : Int) = ((A ++ Y).length : Int) + (X2.length : Int) := by simp; omega
    have e3 : (Y.length : Int) = (X1.length : Int) := by omega
    rw [e1, e2, e3, g];simp
   ·rw [if_neg c2];obtain ⟨Y1, Y2, rfl, h1⟩ : ∃ Y1 Y2, Y = Y1 ++ Y2 ∧ Y2.length = X.length := ⟨Y.take (Y.length - X.length), Y.drop (Y.length - X.length), (List.take_append_drop _ _).symm, by simp; omega⟩;simp only [List.length_append] at hn hy hb c2 c ⊢;have h := swapRange_eq A X Y1 Y2 B h1.symm Om (a := (A.length : Int)) (b := (A.length : Int) + (X.length : Int) + (Y1.length : Int)) (n := (X.length : Int)) rfl Om rfl u (k := k) Om
    have e0 : wrap64 (wrap64 ((A.length : Int) + (X.length : Int) + ((Y1.length + Y2.length : Nat) : Int)) - (X.length : Int)) = (A.length : Int) + (X.length : Int) + (Y1.length : Int) := by
     rw [w64' (n := (A.length : Int) + (X.length : Int) + ((Y1.length + Y2.length : Nat) : Int)) Om Om, w64' Om Om];omega
    rw [e0, show A ++ X ++ (Y1 ++ Y2) ++ B = A ++ X ++ Y1 ++ Y2 ++ B by simp, h];clear e0;simp only [Option.bind_some];have g := ih (Y2.length + Y1.length) Om A Y2 Y1 (X ++ B) k rfl Om Om (by simp; omega) Om;rw [w64' (n := ((Y1.length + Y2.length : Nat) : Int) - (X.length : Int)) Om Om];have e1 : ((Y1.length + Y2.length : Nat) : Int) - (X.length : Int) = (Y1.length : Int) := by omega
    have e3 : (X.length : Int) = (Y2.length : Int) := by omega
    rw [e1, e3, show A ++ Y2 ++ Y1 ++ X ++ B = A ++ Y2 ++ Y1 ++ (X ++ B) by simp, g];simp
theorem rotate_eq (A X Y B : List S66) (hx : 0 < X.length) (hy : 0 < Y.length) (hb : A.length + X.length + Y.length + B.length ≤ 1152921504606846976) {a m b : Int} (ha : a = (A.length : Int)) (hm : m = (A.length : Int) + (X.length : Int)) (hb' : b = (A.length : Int) + (X.length : Int) + (Y.length : Int)) (u : Unit) {k : Nat} (hk : X.length + Y.length + 2 ≤ k) :
  share_rest_67.f k (A ++ X ++ Y ++ B) a m b u = some (A ++ Y ++ X ++ B) := by
 subst ha hm hb';have h := rotate_l0 u _ A X Y B k rfl hx hy hb hk;simp only [share_rest_67.f];have e1 : wrap64 ((A.length : Int) + (X.length : Int) - (A.length : Int)) = (X.length : Int) := by rw [w64' Om Om]; omega
 have e2 : wrap64 ((A.length : Int) + (X.length : Int) + (Y.length : Int) - ((A.length : Int) + (X.length : Int))) = (Y.length : Int) := by rw [w64' Om Om]; omega
 rw [e1, e2];exact h
end Go.Ai.Lf
namespace Go.Ai.Lf
open Go.RowKit
def lt (a b : S66) : Prop := b.f0 < a.f0 ∨ (a.f0 = b.f0 ∧ a.f1 < b.f1)
theorem lt_trans {a b c : S66} (h : lt a b) (h' : lt b c) : lt a c := by unfold lt at *; omega
def Srt (l : List S66) : Prop := l.Pairwise lt
def cmpS (a b : S66) : Int := if b.f0 < a.f0 then -1 else if b.f0 > a.f0 then 1 else 0
theorem cmp_eq (a b : S66) : share_Parts_1.f a.f0 a.f1 b.f0 b.f1 = some (cmpS a b) := by
 simp only [share_Parts_1.f, cmp_Compare_int.f, cmp_isNaN_int.f, Option.bind_some, bne_self_eq_false, Bool.false_eq_true, if_false, cmpS]
 repeat' split
 all_goals rfl
theorem cmp_lt (a b : S66) : cmpS a b < 0 ↔ b.f0 < a.f0 := by
 unfold cmpS
 repeat' split
 all_goals omega
theorem ins_l1 (b i : Int) : ∀ (n : Nat) (A P : List S66) (x : S66) (D : List S66), P.length = n → Srt P → A.length + P.length + D.length ≤ 1152921504606846976 →
  ∃ P1 P2, P = P1 ++ P2 ∧ (∀ p ∈ P1, x.f0 ≤ p.f0) ∧ (∀ p ∈ P2, p.f0 < x.f0) ∧ ∀ r K, (∀ k, K ≤ k → share_rest_63.l0 k (A ++ P1 ++ x :: (P2 ++ D)) (A.length : Int) b (wrap64 (i + 1)) = some r) → ∀ k, K + n + 1 ≤ k → share_rest_63.l1 k (A ++ P ++ x :: D) (A.length : Int) b i ((A.length : Int) + (P.length : Int)) = some r := by
 intro n
 induction n with
 | zero =>
  intro A P x D hn hs hb;obtain rfl : P = [] := List.length_eq_zero_iff.1 hn;refine ⟨[], [], rfl, by simp, by simp, fun r K h k hk => ?_⟩;obtain ⟨k, rfl⟩ : ∃ m, k = m + 1 := ⟨k - 1, by omega⟩;simp only [share_rest_63.l1];rw [if_neg (by simp)];exact h k Om
 | succ n ih =>
  intro A P x D hn hs hb;obtain ⟨P0, y, rfl⟩ : ∃ P0 y, P = P0 ++ [y] := ⟨P.dropLast, P.getLast (by intro h; simp [h] at hn), (List.dropLast_concat_getLast _).symm⟩;simp only [List.length_append, List.length_cons, List.length_nil] at hn hb;have hs0 : Srt P0 := (List.pairwise_append.1 hs).1;have hsy : ∀ p ∈ P0, lt p y := fun p hp => (List.pairwise_append.1 hs).2.2 p hp y (by simp)
  have ej : wrap64 ((A.length : Int) + ((P0 ++ [y]).length : Int) - 1) = (A.length : Int) + (P0.length : Int) := by rw [w64' (by simp; omega) (by simp; omega)]; simp; omega
  have e : A ++ (P0 ++ [y]) ++ x :: D = (A ++ P0) ++ y :: ([] ++ x :: D) := by simp
  have ex : rd_T66 (A ++ (P0 ++ [y]) ++ x :: D) ((A.length : Int) + ((P0 ++ [y]).length : Int)) = x := rdT_app _ x D (by simp);have ey : rd_T66 (A ++ (P0 ++ [y]) ++ x :: D) ((A.length : Int) + (P0.length : Int)) = y := by rw [e]; exact rdT_app _ y _ (by simp)
  by_cases c : y.f0 < x.f0
  ·obtain ⟨P1, P2, rfl, h1, h2, h3⟩ := ih A P0 x (y :: D) Om hs0 (by simp; omega);refine ⟨P1, P2 ++ [y], by simp, h1, fun p hp => ?_, fun r K h k hk => ?_⟩
   ·rcases List.mem_append.1 hp with hp | hp
    ·exact h2 p hp
    ·rw [List.mem_singleton.1 hp]; exact c
   ·obtain ⟨k, rfl⟩ : ∃ m, k = m + 1 := ⟨k - 1, by omega⟩;have h' := h3 r K (fun k hk => by have := h k hk; simpa using this) k Om;have sw := swap2 (A ++ (P1 ++ P2)) y [] x D (i := (A.length : Int) + ((P1 ++ P2).length : Int)) (j := (A.length : Int) + ((P1 ++ P2 ++ [y]).length : Int)) (by simp) (by simp; omega);simp only [share_rest_63.l1];rw [if_pos (by simp; omega), if_pos Om, if_pos (by simp; omega), ej, if_pos Om, if_pos (by simp; omega), ex, ey, cmp_eq];simp only [Option.bind_some];rw [if_pos ((cmp_lt x y).2 c)]
    have sw' : ((A ++ (P1 ++ P2 ++ [y]) ++ x :: D).set ((A.length : Int) + ((P1 ++ P2 ++ [y]).length : Int)).toNat (⟨y.f0, y.f1⟩ : S66)).set ((A.length : Int) + ((P1 ++ P2).length : Int)).toNat (⟨x.f0, x.f1⟩ : S66) = A ++ (P1 ++ P2) ++ x :: (y :: D) := by
     rw [e, List.set_comm _ _ (by simp; omega)];have ex' : rd_T66 ((A ++ (P1 ++ P2)) ++ y :: ([] ++ x :: D)) ((A.length : Int) + ((P1 ++ P2 ++ [y]).length : Int)) = x := by rw [← e]; exact ex
     have ey' : rd_T66 ((A ++ (P1 ++ P2)) ++ y :: ([] ++ x :: D)) ((A.length : Int) + ((P1 ++ P2).length : Int)) = y := by rw [← e]; exact ey
     rw [ex', ey'] at sw;simpa using sw
    rw [sw'];exact h'
  ·refine ⟨P0 ++ [y], [], by simp, fun p hp => ?_, by simp, fun r K h k hk => ?_⟩
   ·rcases List.mem_append.1 hp with hp | hp
    ·have := hsy p hp;unfold lt at this;omega
    ·rw [List.mem_singleton.1 hp]; omega
   ·obtain ⟨k, rfl⟩ : ∃ m, k = m + 1 := ⟨k - 1, by omega⟩;have h' := h k Om;simp only [share_rest_63.l1];rw [if_pos (by simp; omega), if_pos Om, if_pos (by simp; omega), ej, if_pos Om, if_pos (by simp; omega), ex, ey, cmp_eq];simp only [Option.bind_some];rw [if_neg (fun h => c ((cmp_lt x y).1 h))];simpa using h'
def Ris (l : List S66) : Prop := l.Pairwise fun a b => a.f1 < b.f1
theorem ins_l0 (A B : List S66) : ∀ (N P : List S66), Srt P → (∀ p ∈ P, ∀ q ∈ N, p.f1 < q.f1) → Ris N → A.length + P.length + N.length + B.length ≤ 1152921504606846976 →
  ∃ Q, Q.Perm (P ++ N) ∧ Srt Q ∧ ∃ K, ∀ k, K ≤ k → share_rest_63.l0 k (A ++ P ++ (N ++ B)) (A.length : Int) ((A.length : Int) + (P.length : Int) + (N.length : Int)) ((A.length : Int) + (P.length : Int)) = some (A ++ Q ++ B)
 | [], P, hs, _, _, hb => by
  refine ⟨P, by simp, hs, 1, fun k hk => ?_⟩;obtain ⟨k, rfl⟩ : ∃ m, k = m + 1 := ⟨k - 1, by omega⟩;simp only [share_rest_63.l0];rw [if_neg (by simp)];rfl
 | x :: N, P, hs, hlt, hr, hb => by
  simp only [List.length_cons] at hb;obtain ⟨P1, P2, rfl, h1, h2, h3⟩ := ins_l1 ((A.length : Int) + (P.length : Int) + ((x :: N).length : Int)) ((A.length : Int) + (P.length : Int)) P.length A P x (N ++ B) rfl hs (by simp; omega)
  have hs' : Srt (P1 ++ x :: P2) := by
   obtain ⟨g1, g2, g3⟩ := List.pairwise_append.1 hs;refine List.pairwise_append.2 ⟨g1, List.pairwise_cons.2 ⟨fun p hp => Or.inl (h2 p hp), g2⟩, fun p hp q hq => ?_⟩
   have hx : lt p x := by
    have a1 := h1 p hp;have a2 := hlt p (by simp [hp]) x (by simp);unfold lt;omega
   rcases List.mem_cons.1 hq with rfl | hq
   ·exact hx
   ·exact g3 p hp q hq
  obtain ⟨hrx, hrN⟩ := List.pairwise_cons.1 hr
  obtain ⟨Q, q1, q2, K, hK⟩ := ins_l0 A B N (P1 ++ x :: P2) hs' (fun p hp q hq => by
   rcases List.mem_append.1 hp with hp | hp
   ·exact hlt p (by simp [hp]) q (by simp [hq])
   ·rcases List.mem_cons.1 hp with rfl | hp
    ·exact hrx q hq
    ·exact hlt p (by simp [hp]) q (by simp [hq])) hrN (by simp at hb ⊢; omega)
  refine ⟨Q, q1.trans (by
   have : (P1 ++ x :: P2 ++ N).Perm ((P1 ++ P2) ++ x :: N) := by
    refine List.Perm.trans (List.Perm.append_right N List.perm_middle) ?_;exact List.perm_middle.symm
   exact this), q2, K + (P1 ++ P2).length + 2, fun k hk => ?_⟩
  obtain ⟨k, rfl⟩ : ∃ m, k = m + 1 := ⟨k - 1, by omega⟩;simp only [share_rest_63.l0];rw [if_pos (by simp; omega)]
  have g := h3 (A ++ Q ++ B) K (fun k hk => by
   have e := hK k hk;rw [w64' (by simp at hb ⊢; omega) (by simp at hb ⊢; omega)];have e1 : (A.length : Int) + ((P1 ++ x :: P2).length : Int) + (N.length : Int) = (A.length : Int) + ((P1 ++ P2).length : Int) + ((x :: N).length : Int) := by simp; omega
   have e2 : (A.length : Int) + ((P1 ++ x :: P2).length : Int) = (A.length : Int) + ((P1 ++ P2).length : Int) + 1 := by simp; omega
   rw [e1, e2] at e
   simpa using e) k Om
  simpa using g
theorem insSort_eq (A M B : List S66) (hr : Ris M) (hb : A.length + M.length + B.length ≤ 1152921504606846976) : ∃ Q, Q.Perm M ∧ Srt Q ∧ ∃ K, ∀ k, K ≤ k → ∀ u, share_rest_63.f k (A ++ M ++ B) (A.length : Int) ((A.length : Int) + (M.length : Int)) u = some (A ++ Q ++ B) := by
 cases M with
 | nil =>
  refine ⟨[], by simp, List.Pairwise.nil, 1, fun k hk u => ?_⟩;obtain ⟨k, rfl⟩ : ∃ m, k = m + 1 := ⟨k - 1, by omega⟩;simp only [share_rest_63.f, share_rest_63.l0];rw [w64' Om (by simp at hb; omega), if_neg (by simp; omega)]
 | cons x N =>
  obtain ⟨hrx, hrN⟩ := List.pairwise_cons.1 hr;obtain ⟨Q, q1, q2, K, hK⟩ := ins_l0 A B N [x] (List.pairwise_singleton _ _) (fun p hp q hq => by rw [List.mem_singleton.1 hp]; exact hrx q hq) hrN (by simp at hb ⊢; omega);refine ⟨Q, by simpa using q1, q2, K, fun k hk u => ?_⟩;have e := hK k hk;simp only [share_rest_63.f];rw [w64' Om (by simp at hb; omega)];have e1 : (A.length : Int) + ([x].length : Int) + (N.length : Int) = (A.length : Int) + ((x :: N).length : Int) := by simp; omega
  have e2 : (A.length : Int) + ([x].length : Int) = (A.length : Int) + 1 := by simp
  rw [e1, e2] at e;simpa using e
end Go.Ai.Lf
namespace Go.Ai.Lf
open Go.RowKit
theorem mid_eq {n : Int} (h : 0 ≤ n) (h' : n ≤ 9223372036854775807) : wrap64 ((IntKind.u64.wrap (wrap64 n)) / 2) = n / 2 := by
 rw [w64' (n := n) Om h']
 have e : IntKind.u64.wrap n = n := by
  simp only [IntKind.wrap, IntKind.bits, IntKind.signed, Bool.false_and, Bool.false_eq_true, if_false];omega
 rw [e, w64' Om Om]
theorem swap2' (A : List S66) (x : S66) (B : List S66) (y : S66) (C : List S66) {i j : Int} (hi : i = (A.length : Int)) (hj : j = (A.length : Int) + 1 + (B.length : Int)) :
  ((A ++ x :: (B ++ y :: C)).set j.toNat (⟨(rd_T66 (A ++ x :: (B ++ y :: C)) i).f0, (rd_T66 (A ++ x :: (B ++ y :: C)) i).f1⟩ : S66)).set i.toNat (⟨(rd_T66 (A ++ x :: (B ++ y :: C)) j).f0, (rd_T66 (A ++ x :: (B ++ y :: C)) j).f1⟩ : S66) = A ++ y :: (B ++ x :: C) := by
 rw [List.set_comm _ _ Om];exact swap2 A x B y C hi hj
theorem mv_l1 (A : List S66) (x : S66) (E : List S66) : ∀ (S D : List S66) (k : Nat), A.length + D.length + S.length + E.length ≤ 1152921504606846976 → S.length + 1 ≤ k →
  share_rest_64.l1 k (A ++ D ++ x :: (S ++ E)) ((A.length : Int) + (D.length : Int) + (S.length : Int) + 1) ((A.length : Int) + (D.length : Int)) = some (A ++ D ++ S ++ x :: E)
 | [], D, k, hb, hk => by
  obtain ⟨k, rfl⟩ : ∃ m, k = m + 1 := ⟨k - 1, by omega⟩;simp only [share_rest_64.l1];rw [w64' (by simp at hb ⊢; omega) (by simp at hb ⊢; omega), if_neg (by simp)];simp
 | y :: S, D, k, hb, hk => by
  obtain ⟨k, rfl⟩ : ∃ m, k = m + 1 := ⟨k - 1, by omega⟩;simp only [List.length_cons] at hb hk;have ih := mv_l1 A x E S (D ++ [y]) k (by simp; omega) Om;have sw := swap2 (A ++ D) x [] y (S ++ E) (i := (A.length : Int) + (D.length : Int)) (j := (A.length : Int) + (D.length : Int) + 1) (by simp) (by simp);simp only [share_rest_64.l1];rw [w64' (n := (A.length : Int) + (D.length : Int) + ((y :: S).length : Int) + 1 - 1) (by simp; omega) (by simp; omega), w64' (n := (A.length : Int) + (D.length : Int) + 1) Om Om];rw [if_pos (by simp; omega), if_pos Om, if_pos (by simp; omega), if_pos Om, if_pos (by simp; omega)];simp only [List.nil_append, List.cons_append] at sw ⊢;rw [sw];have e1 : A ++ D ++ y :: x :: (S ++ E) = A ++ (D ++ [y]) ++ x :: (S ++ E) := by simp
  have e2 : (A.length : Int) + (D.length : Int) + ((y :: S).length : Int) + 1 = (A.length : Int) + ((D ++ [y]).length : Int) + (S.length : Int) + 1 := by simp; omega
  have e3 : (A.length : Int) + (D.length : Int) + 1 = (A.length : Int) + ((D ++ [y]).length : Int) := by simp; omega
  rw [e1, e2, e3, ih];simp
theorem mv_l3 (A : List S66) (y : S66) : ∀ (n : Nat) (S E : List S66) (k : Nat), S.length = n → A.length + S.length + E.length ≤ 1152921504606846976 → n + 1 ≤ k →
  share_rest_64.l3 k (A ++ S ++ y :: E) (A.length : Int) ((A.length : Int) + (S.length : Int)) = some (A ++ y :: (S ++ E)) := by
 intro n
 induction n with
 | zero =>
  intro S E k hn hb hk;obtain rfl : S = [] := List.length_eq_zero_iff.1 hn;obtain ⟨k, rfl⟩ : ∃ m, k = m + 1 := ⟨k - 1, by omega⟩;simp only [share_rest_64.l3];rw [if_neg (by simp)];simp
 | succ n ih =>
  intro S E k hn hb hk;obtain ⟨S, z, rfl⟩ : ∃ P0 y, S = P0 ++ [y] := ⟨S.dropLast, S.getLast (by intro h; simp [h] at hn), (List.dropLast_concat_getLast _).symm⟩;obtain ⟨k, rfl⟩ : ∃ m, k = m + 1 := ⟨k - 1, by omega⟩;simp only [List.length_append, List.length_cons, List.length_nil] at hn hb;have ih := ih S (z :: E) k Om (by simp; omega) Om;have sw := swap2' (A ++ S) z [] y E (i := (A.length : Int) + (S.length : Int)) (j := (A.length : Int) + ((S ++ [z]).length : Int)) (by simp) (by simp; omega);have e : A ++ (S ++ [z]) ++ y :: E = A ++ S ++ z :: ([] ++ y :: E) := by simp
  have ew : wrap64 ((A.length : Int) + ((S ++ [z]).length : Int) - 1) = (A.length : Int) + (S.length : Int) := by rw [w64' (by simp; omega) (by simp; omega)]; simp; omega
  simp only [share_rest_64.l3];rw [ew];rw [if_pos (by simp; omega), if_pos Om, if_pos (by simp; omega), if_pos Om, if_pos (by simp; omega)];rw [e, sw];simp only [List.nil_append];rw [ih];simp
theorem srt_f0 {p q : S66} (h : lt p q) : q.f0 ≤ p.f0 := by unfold lt at h; omega
theorem find_l0 (A : List S66) (x : S66) (B : List S66) : ∀ (n : Nat) (R1 M R2 : List S66), M.length = n → Srt (R1 ++ M ++ R2) → (∀ p ∈ R1, x.f0 < p.f0) → (∀ q ∈ R2, q.f0 ≤ x.f0) → A.length + R1.length + M.length + R2.length + B.length ≤ 1152921504606846976 →
  ∃ S T, R1 ++ M ++ R2 = S ++ T ∧ (∀ p ∈ S, x.f0 < p.f0) ∧ (∀ q ∈ T, q.f0 ≤ x.f0) ∧ ∀ r K, (∀ k, K ≤ k → share_rest_64.l1 k (A ++ x :: (S ++ T ++ B)) ((A.length : Int) + 1 + (S.length : Int)) (A.length : Int) = some r) →
   ∀ k, K + n + 1 ≤ k → share_rest_64.l0 k (A ++ x :: (R1 ++ M ++ R2 ++ B)) (A.length : Int) ((A.length : Int) + 1 + (R1.length : Int)) ((A.length : Int) + 1 + (R1.length : Int) + (M.length : Int)) = some r := by
 intro n
 induction n using Nat.strongRecOn with
 | _ n ih =>
  intro R1 M R2 hn hs h1 h2 hb
  by_cases hz : M = []
  ·subst hz;refine ⟨R1, R2, by simp, h1, h2, fun r K h k hk => ?_⟩;obtain ⟨k, rfl⟩ : ∃ m, k = m + 1 := ⟨k - 1, by omega⟩;simp only [share_rest_64.l0];rw [if_neg (by simp)];have := h k Om;simpa using this
  ·have hpos : 0 < M.length := List.length_pos_iff.2 hz
   obtain ⟨M1, c, M2, rfl, hm⟩ : ∃ M1 c M2, M = M1 ++ c :: M2 ∧ M1.length = M.length / 2 := by
    have hlt : M.length / 2 < M.length := by omega
    exact ⟨M.take (M.length / 2), M[M.length / 2], M.drop (M.length / 2 + 1), by rw [List.getElem_cons_drop, List.take_append_drop], by simp; omega⟩
   simp only [List.length_append, List.length_cons] at hn hb hm
   have eh : wrap64 ((IntKind.u64.wrap (wrap64 ((A.length : Int) + 1 + (R1.length : Int) + ((A.length : Int) + 1 + (R1.length : Int) + ((M1 ++ c :: M2).length : Int))))) / 2) = (A.length : Int) + 1 + (R1.length : Int) + (M1.length : Int) := by
    rw [mid_eq Om (by simp; omega)];simp only [List.length_append, List.length_cons];omega
   have el : A ++ x :: (R1 ++ (M1 ++ c :: M2) ++ R2 ++ B) = (A ++ x :: (R1 ++ M1)) ++ c :: (M2 ++ R2 ++ B) := by simp
   have ec : rd_T66 (A ++ x :: (R1 ++ (M1 ++ c :: M2) ++ R2 ++ B)) ((A.length : Int) + 1 + (R1.length : Int) + (M1.length : Int)) = c := by
    rw [el];exact rdT_app _ c _ (by simp; omega)
   have ex : rd_T66 (A ++ x :: (R1 ++ (M1 ++ c :: M2) ++ R2 ++ B)) (A.length : Int) = x := rdT_app A x _ rfl
   have step : ∀ k, share_rest_64.l0 (k + 1) (A ++ x :: (R1 ++ (M1 ++ c :: M2) ++ R2 ++ B)) (A.length : Int) ((A.length : Int) + 1 + (R1.length : Int)) ((A.length : Int) + 1 + (R1.length : Int) + ((M1 ++ c :: M2).length : Int)) =
     if x.f0 < c.f0 then share_rest_64.l0 k (A ++ x :: (R1 ++ (M1 ++ c :: M2) ++ R2 ++ B)) (A.length : Int) ((A.length : Int) + 1 + (R1.length : Int) + (M1.length : Int) + 1) ((A.length : Int) + 1 + (R1.length : Int) + ((M1 ++ c :: M2).length : Int))
     else share_rest_64.l0 k (A ++ x :: (R1 ++ (M1 ++ c :: M2) ++ R2 ++ B)) (A.length : Int) ((A.length : Int) + 1 + (R1.length : Int)) ((A.length : Int) + 1 + (R1.length : Int) + (M1.length : Int)) := by
    intro k;simp only [share_rest_64.l0];rw [eh];rw [if_pos (by simp; omega), if_pos Om, if_pos (by simp; omega), if_pos Om, if_pos (by simp; omega), ec, ex, cmp_eq, w64' Om Om];simp only [Option.bind_some]
    by_cases cc : x.f0 < c.f0
    ·rw [if_pos cc, if_pos ((cmp_lt c x).2 cc)]
    ·rw [if_neg cc, if_neg (fun h => cc ((cmp_lt c x).1 h))]
   have hs' := hs;rw [List.append_assoc] at hs';obtain ⟨g1, g2, g3⟩ := List.pairwise_append.1 hs';rw [List.append_assoc] at g2;obtain ⟨g4, g5, g6⟩ := List.pairwise_append.1 g2;obtain ⟨g7, g8⟩ := List.pairwise_cons.1 g5
   by_cases cc : x.f0 < c.f0
   ·obtain ⟨S, T, e, k1, k2, k3⟩ := ih M2.length Om (R1 ++ M1 ++ [c]) M2 R2 rfl (by simpa using hs) (fun p hp => by
     rcases List.mem_append.1 hp with hp | hp
     ·rcases List.mem_append.1 hp with hp | hp
      ·exact h1 p hp
      ·have := srt_f0 (g6 p hp c (by simp)); omega
     ·rw [List.mem_singleton.1 hp]; exact cc) h2 (by simp; omega)
    refine ⟨S, T, by rw [← e]; simp, k1, k2, fun r K h k hk => ?_⟩;obtain ⟨k, rfl⟩ : ∃ m, k = m + 1 := ⟨k - 1, by omega⟩;rw [step, if_pos cc];have := k3 r K h k Om;have e1 : (A.length : Int) + 1 + ((R1 ++ M1 ++ [c]).length : Int) = (A.length : Int) + 1 + (R1.length : Int) + (M1.length : Int) + 1 := by simp; omega
    have e2 : (A.length : Int) + 1 + (R1.length : Int) + (M1.length : Int) + 1 + (M2.length : Int) = (A.length : Int) + 1 + (R1.length : Int) + ((M1 ++ c :: M2).length : Int) := by simp; omega
    rw [e1, e2] at this;simpa using this
   ·obtain ⟨S, T, e, k1, k2, k3⟩ := ih M1.length Om R1 M1 (c :: M2 ++ R2) rfl (by simpa using hs) h1 (fun q hq => by
     rcases List.mem_append.1 hq with hq | hq
     ·rcases List.mem_cons.1 hq with rfl | hq
      ·omega
      ·have := srt_f0 (g7 q (by simp [hq])); omega
     ·exact h2 q hq) (by simp; omega)
    refine ⟨S, T, by rw [← e]; simp, k1, k2, fun r K h k hk => ?_⟩;obtain ⟨k, rfl⟩ : ∃ m, k = m + 1 := ⟨k - 1, by omega⟩;rw [step, if_neg cc];have := k3 r K h k Om;simpa using this
theorem find_l2 (A : List S66) (y : S66) (B : List S66) : ∀ (n : Nat) (L1 M L2 : List S66), M.length = n → Srt (L1 ++ M ++ L2) → (∀ p ∈ L1, y.f0 ≤ p.f0) → (∀ q ∈ L2, q.f0 < y.f0) → A.length + L1.length + M.length + L2.length + B.length ≤ 1152921504606846976 →
  ∃ S T, L1 ++ M ++ L2 = S ++ T ∧ (∀ p ∈ S, y.f0 ≤ p.f0) ∧ (∀ q ∈ T, q.f0 < y.f0) ∧ ∀ r K, (∀ k, K ≤ k → share_rest_64.l3 k (A ++ S ++ T ++ y :: B) ((A.length : Int) + (S.length : Int)) ((A.length : Int) + (S.length : Int) + (T.length : Int)) = some r) →
   ∀ k, K + n + 1 ≤ k → share_rest_64.l2 k (A ++ (L1 ++ M ++ L2) ++ y :: B) ((A.length : Int) + (L1.length : Int) + (M.length : Int) + (L2.length : Int)) ((A.length : Int) + (L1.length : Int)) ((A.length : Int) + (L1.length : Int) + (M.length : Int)) = some r := by
 intro n
 induction n using Nat.strongRecOn with
 | _ n ih =>
  intro L1 M L2 hn hs h1 h2 hb
  by_cases hz : M = []
  ·subst hz;refine ⟨L1, L2, by simp, h1, h2, fun r K h k hk => ?_⟩;obtain ⟨k, rfl⟩ : ∃ m, k = m + 1 := ⟨k - 1, by omega⟩;simp only [share_rest_64.l2];rw [if_neg (by simp)];have := h k Om;simpa using this
  ·have hpos : 0 < M.length := List.length_pos_iff.2 hz
   obtain ⟨M1, c, M2, rfl, hm⟩ : ∃ M1 c M2, M = M1 ++ c :: M2 ∧ M1.length = M.length / 2 := by
    have hlt : M.length / 2 < M.length := by omega
    exact ⟨M.take (M.length / 2), M[M.length / 2], M.drop (M.length / 2 + 1), by rw [List.getElem_cons_drop, List.take_append_drop], by simp; omega⟩
   simp only [List.length_append, List.length_cons] at hn hb hm
   have eh : wrap64 ((IntKind.u64.wrap (wrap64 ((A.length : Int) + (L1.length : Int) + ((A.length : Int) + (L1.length : Int) + ((M1 ++ c :: M2).length : Int))))) / 2) = (A.length : Int) + (L1.length : Int) + (M1.length : Int) := by
    rw [mid_eq Om (by simp; omega)];simp only [List.length_append, List.length_cons];omega
   have el : A ++ (L1 ++ (M1 ++ c :: M2) ++ L2) ++ y :: B = (A ++ L1 ++ M1) ++ c :: (M2 ++ L2 ++ y :: B) := by simp
   have ec : rd_T66 (A ++ (L1 ++ (M1 ++ c :: M2) ++ L2) ++ y :: B) ((A.length : Int) + (L1.length : Int) + (M1.length : Int)) = c := by
    rw [el];exact rdT_app _ c _ (by simp; omega)
   have ey : rd_T66 (A ++ (L1 ++ (M1 ++ c :: M2) ++ L2) ++ y :: B) ((A.length : Int) + (L1.length : Int) + ((M1 ++ c :: M2).length : Int) + (L2.length : Int)) = y := rdT_app _ y _ (by simp; omega)
   have step : ∀ k, share_rest_64.l2 (k + 1) (A ++ (L1 ++ (M1 ++ c :: M2) ++ L2) ++ y :: B) ((A.length : Int) + (L1.length : Int) + ((M1 ++ c :: M2).length : Int) + (L2.length : Int)) ((A.length : Int) + (L1.length : Int)) ((A.length : Int) + (L1.length : Int) + ((M1 ++ c :: M2).length : Int)) =
     if c.f0 < y.f0 then share_rest_64.l2 k (A ++ (L1 ++ (M1 ++ c :: M2) ++ L2) ++ y :: B) ((A.length : Int) + (L1.length : Int) + ((M1 ++ c :: M2).length : Int) + (L2.length : Int)) ((A.length : Int) + (L1.length : Int)) ((A.length : Int) + (L1.length : Int) + (M1.length : Int))
     else share_rest_64.l2 k (A ++ (L1 ++ (M1 ++ c :: M2) ++ L2) ++ y :: B) ((A.length : Int) + (L1.length : Int) + ((M1 ++ c :: M2).length : Int) + (L2.length : Int)) ((A.length : Int) + (L1.length : Int) + (M1.length : Int) + 1) ((A.length : Int) + (L1.length : Int) + ((M1 ++ c :: M2).length : Int)) := by
    intro k;simp only [share_rest_64.l2];rw [eh];rw [if_pos (by simp; omega), if_pos Om, if_pos (by simp; omega), if_pos Om, if_pos (by simp; omega), ec, ey, cmp_eq, w64' Om Om];simp only [Option.bind_some]
    by_cases cc : c.f0 < y.f0
    ·rw [if_pos cc, if_pos ((cmp_lt y c).2 cc)]
    ·rw [if_neg cc, if_neg (fun h => cc ((cmp_lt y c).1 h))]
   have hs' := hs;rw [List.append_assoc] at hs';obtain ⟨g1, g2, g3⟩ := List.pairwise_append.1 hs';rw [List.append_assoc] at g2;obtain ⟨g4, g5, g6⟩ := List.pairwise_append.1 g2;obtain ⟨g7, g8⟩ := List.pairwise_cons.1 g5
   by_cases cc : c.f0 < y.f0
   ·obtain ⟨S, T, e, k1, k2, k3⟩ := ih M1.length Om L1 M1 (c :: M2 ++ L2) rfl (by simpa using hs) h1 (fun q hq => by
     rcases List.mem_append.1 hq with hq | hq
     ·rcases List.mem_cons.1 hq with rfl | hq
      ·exact cc
      ·have := srt_f0 (g7 q (by simp [hq])); omega
     ·exact h2 q hq) (by simp; omega)
    refine ⟨S, T, by rw [← e]; simp, k1, k2, fun r K h k hk => ?_⟩;obtain ⟨k, rfl⟩ : ∃ m, k = m + 1 := ⟨k - 1, by omega⟩;rw [step, if_pos cc];have := k3 r K h k Om;have e2 : (A.length : Int) + (L1.length : Int) + (M1.length : Int) + ((c :: M2 ++ L2).length : Int) = (A.length : Int) + (L1.length : Int) + ((M1 ++ c :: M2).length : Int) + (L2.length : Int) := by simp; omega
    rw [e2] at this;simpa using this
   ·obtain ⟨S, T, e, k1, k2, k3⟩ := ih M2.length Om (L1 ++ M1 ++ [c]) M2 L2 rfl (by simpa using hs) (fun p hp => by
     rcases List.mem_append.1 hp with hp | hp
     ·rcases List.mem_append.1 hp with hp | hp
      ·exact h1 p hp
      ·have := srt_f0 (g6 p hp c (by simp)); omega
     ·rw [List.mem_singleton.1 hp]; omega) h2 (by simp; omega)
    refine ⟨S, T, by rw [← e]; simp, k1, k2, fun r K h k hk => ?_⟩;obtain ⟨k, rfl⟩ : ∃ m, k = m + 1 := ⟨k - 1, by omega⟩;rw [step, if_neg cc];have := k3 r K h k Om;have e1 : (A.length : Int) + ((L1 ++ M1 ++ [c]).length : Int) = (A.length : Int) + (L1.length : Int) + (M1.length : Int) + 1 := by simp; omega
    have e2 : (A.length : Int) + (L1.length : Int) + (M1.length : Int) + 1 + (M2.length : Int) = (A.length : Int) + (L1.length : Int) + ((M1 ++ c :: M2).length : Int) := by simp; omega
    rw [e1, e2] at this;simpa using this
def Bel (L R : List S66) : Prop := ∀ p ∈ L, ∀ q ∈ R, p.f1 < q.f1
theorem lt_of_le {p q : S66} (h : q.f0 ≤ p.f0) (h' : p.f1 < q.f1) : lt p q := by unfold lt; omega
def MergeOk (L R : List S66) : Prop := ∀ A B : List S66, A.length + L.length + R.length + B.length ≤ 1152921504606846976 → ∃ Q, Q.Perm (L ++ R) ∧ Srt Q ∧ ∃ K, ∀ k, K ≤ k → ∀ u, share_rest_64.f k (A ++ L ++ R ++ B) (A.length : Int) ((A.length : Int) + (L.length : Int)) ((A.length : Int) + (L.length : Int) + (R.length : Int)) u = some (A ++ Q ++ B)
theorem merge_one (x : S66) (R : List S66) (hs : Srt R) (hl : Bel [x] R) : MergeOk [x] R := by
 intro A B hb;simp only [List.length_cons, List.length_nil] at hb;obtain ⟨S, T, e, k1, k2, k3⟩ := find_l0 A x B R.length [] R [] rfl (by simpa using hs) (by simp) (by simp) (by simp; omega);simp only [List.nil_append, List.append_nil] at e;subst e;simp only [List.length_append] at hb;refine ⟨S ++ x :: T, List.perm_middle, ?_, S.length + 1 + (S ++ T).length + 2, fun k hk u => ?_⟩
 ·obtain ⟨g1, g2, g3⟩ := List.pairwise_append.1 hs;refine List.pairwise_append.2 ⟨g1, List.pairwise_cons.2 ⟨fun q hq => lt_of_le (k2 q hq) (hl x (by simp) q (by simp [hq])), g2⟩, fun p hp q hq => ?_⟩;rcases List.mem_cons.1 hq with rfl | hq
  ·exact Or.inl (k1 p hp)
  ·exact g3 p hp q hq
 ·obtain ⟨k, rfl⟩ : ∃ m, k = m + 1 := ⟨k - 1, by omega⟩
  have h := k3 (A ++ (S ++ x :: T) ++ B) (S.length + 1) (fun k hk => by
   have := mv_l1 A x (T ++ B) S [] k (by simp; omega) Om;have e1 : (A.length : Int) + (([] : List S66).length : Int) + (S.length : Int) + 1 = (A.length : Int) + 1 + (S.length : Int) := by simp; omega
   rw [e1] at this
   simpa using this) k Om
  simp only [share_rest_64.f];rw [w64' (by simp; omega) (by simp; omega), if_pos (by simp; omega)];simpa using h
theorem merge_last (L : List S66) (y : S66) (hne : 1 < L.length) (hs : Srt L) (hl : Bel L [y]) : MergeOk L [y] := by
 intro A B hb;simp only [List.length_cons, List.length_nil] at hb;obtain ⟨S, T, e, k1, k2, k3⟩ := find_l2 A y B L.length [] L [] rfl (by simpa using hs) (by simp) (by simp) (by simp; omega);simp only [List.nil_append, List.append_nil] at e;subst e;simp only [List.length_append] at hb hne;refine ⟨S ++ y :: T, ?_, ?_, T.length + 1 + (S ++ T).length + 2, fun k hk u => ?_⟩
 ·rw [List.append_assoc];exact List.Perm.append_left S (List.perm_append_comm (l₁ := [y]) (l₂ := T))
 ·obtain ⟨g1, g2, g3⟩ := List.pairwise_append.1 hs;refine List.pairwise_append.2 ⟨g1, List.pairwise_cons.2 ⟨fun q hq => Or.inl (k2 q hq), g2⟩, fun p hp q hq => ?_⟩;rcases List.mem_cons.1 hq with rfl | hq
  ·exact lt_of_le (k1 p hp) (hl p (by simp [hp]) q (by simp))
  ·exact g3 p hp q hq
 ·obtain ⟨k, rfl⟩ : ∃ m, k = m + 1 := ⟨k - 1, by omega⟩
  have h := k3 (A ++ (S ++ y :: T) ++ B) (T.length + 1) (fun k hk => by
   have := mv_l3 (A ++ S) y T.length T B k rfl (by simp; omega) Om;have e1 : ((A ++ S).length : Int) = (A.length : Int) + (S.length : Int) := by simp
   rw [e1] at this
   simpa using this) k Om
  simp only [share_rest_64.f];rw [w64' (n := (A.length : Int) + ((S ++ T).length : Int) - (A.length : Int)) (by simp; omega) (by simp; omega), if_neg (by simp; omega)];rw [w64' (by simp; omega) (by simp; omega), if_pos (by simp; omega)];simpa using h
theorem bel_cross {p q : S66} (h : ¬ p.f0 < q.f0) (h' : p.f1 < q.f1) : lt p q := by unfold lt; omega
theorem cut_l4 (A L R B : List S66) (x1 x2 x3 x18 x19 x22 : Int) (u : Unit) (hx : x22 = (A.length : Int) + ((L.length + R.length) / 2 : Nat) + (A.length : Int) + (L.length : Int) - 1)
  (hb : A.length + L.length + R.length + B.length ≤ 1152921504606846976) (lo hi : Nat) (hlo : lo + R.length ≥ (L.length + R.length) / 2) (hhi : hi ≤ L.length) (hhi' : hi ≤ (L.length + R.length) / 2) : ∀ (n s e : Nat), e - s = n → lo ≤ s → s ≤ e → e ≤ hi →
  (s = lo ∨ ¬ (∀ p q, L[s - 1]? = some p → R[(L.length + R.length) / 2 - s]? = some q → p.f0 < q.f0)) → (e = hi ∨ (∀ p q, L[e]? = some p → R[(L.length + R.length) / 2 - e - 1]? = some q → p.f0 < q.f0)) →
  ∃ s', lo ≤ s' ∧ s' ≤ hi ∧ (s' = lo ∨ ¬ (∀ p q, L[s' - 1]? = some p → R[(L.length + R.length) / 2 - s']? = some q → p.f0 < q.f0)) ∧ (s' = hi ∨ (∀ p q, L[s']? = some p → R[(L.length + R.length) / 2 - s' - 1]? = some q → p.f0 < q.f0)) ∧
   ∀ r K, (∀ k, K ≤ k → (if (A.length : Int) + (s' : Int) < x2 then (share_rest_64.j6 k (A ++ L ++ R ++ B) x1 x2 x3 u x18 ((A.length : Int) + (s' : Int)) (wrap64 (x19 - ((A.length : Int) + (s' : Int)))) (decide (x2 < (wrap64 (x19 - ((A.length : Int) + (s' : Int))))))) else (share_rest_64.j6 k (A ++ L ++ R ++ B) x1 x2 x3 u x18 ((A.length : Int) + (s' : Int)) (wrap64 (x19 - ((A.length : Int) + (s' : Int)))) false)) = some r) →
    ∀ k, K + n + 1 ≤ k → share_rest_64.l4 k (A ++ L ++ R ++ B) x1 x2 x3 u x18 x19 ((A.length : Int) + (s : Int)) ((A.length : Int) + (e : Int)) x22 = some r := by
 intro n
 induction n using Nat.strongRecOn with
 | _ n ih =>
  intro s e hn hs hse he h1 h2
  by_cases hz : s = e
  ·subst hz;refine ⟨s, hs, he, h1, h2, fun r K h k hk => ?_⟩;obtain ⟨k, rfl⟩ : ∃ m, k = m + 1 := ⟨k - 1, by omega⟩;simp only [share_rest_64.l4];rw [if_neg Om];exact h k Om
  ·obtain ⟨c, hc⟩ : ∃ c : Nat, c = (s + e) / 2 := ⟨_, rfl⟩;have hcs : s ≤ c := by omega
   have hce : c < e := by omega
   have hcL : c < L.length := by omega
   have hcR : (L.length + R.length) / 2 - c - 1 < R.length := by omega
   obtain ⟨p, hp⟩ : ∃ p, p = L[c] := ⟨_, rfl⟩;obtain ⟨q, hq⟩ : ∃ q, q = R[(L.length + R.length) / 2 - c - 1] := ⟨_, rfl⟩
   have eh : wrap64 ((IntKind.u64.wrap (wrap64 ((A.length : Int) + (s : Int) + ((A.length : Int) + (e : Int))))) / 2) = (A.length : Int) + (c : Int) := by
    rw [mid_eq Om Om];omega
   replace eh := Aside0.mk eh
   have ex : wrap64 (x22 - ((A.length : Int) + (c : Int))) = ((A.length + L.length + ((L.length + R.length) / 2 - c - 1) : Nat) : Int) := by
    rw [w64' Om Om];omega
   replace ex := Aside0.mk ex
   have ep : rd_T66 (A ++ L ++ R ++ B) ((A.length : Int) + (c : Int)) = p := by
    have e0 : (A.length : Int) + (c : Int) = ((A.length + c : Nat) : Int) := by omega
    rw [e0, rdT (by simp; omega), hp];rw [List.getElem_append_left (by simp; omega), List.getElem_append_left (by simp; omega), List.getElem_append_right Om];simp
   have eq : rd_T66 (A ++ L ++ R ++ B) ((A.length + L.length + ((L.length + R.length) / 2 - c - 1) : Nat) : Int) = q := by
    rw [rdT (by simp; omega), hq];rw [List.getElem_append_left (by simp; omega), List.getElem_append_right (by simp)]
    congr 1
    simp
   have step : ∀ k, share_rest_64.l4 (k + 1) (A ++ L ++ R ++ B) x1 x2 x3 u x18 x19 ((A.length : Int) + (s : Int)) ((A.length : Int) + (e : Int)) x22 =
     if p.f0 < q.f0 then share_rest_64.l4 k (A ++ L ++ R ++ B) x1 x2 x3 u x18 x19 ((A.length : Int) + (s : Int)) ((A.length : Int) + (c : Int)) x22
     else share_rest_64.l4 k (A ++ L ++ R ++ B) x1 x2 x3 u x18 x19 ((A.length : Int) + (c : Int) + 1) ((A.length : Int) + (e : Int)) x22 := by
    intro k;simp only [share_rest_64.l4];rw [eh.out, ex.out];rw [if_pos Om, if_pos Om, if_pos (by simp; omega), if_pos Om, if_pos (by simp; omega), ep, eq, cmp_eq, w64' Om Om];simp only [Option.bind_some]
    by_cases cc : p.f0 < q.f0
    ·rw [if_pos cc, if_pos ((cmp_lt q p).2 cc)]
    ·rw [if_neg cc, if_neg (fun h => cc ((cmp_lt q p).1 h))]
   by_cases cc : p.f0 < q.f0
   ·obtain ⟨s', a1, a2, a3, a4, a5⟩ := ih (c - s) Om s c rfl hs hcs Om h1 (Or.inr (fun p' q' hp' hq' => by
     rw [List.getElem?_eq_getElem hcL] at hp';rw [List.getElem?_eq_getElem hcR] at hq';obtain rfl := Option.some.inj hp';obtain rfl := Option.some.inj hq';rw [← hp, ← hq]
     exact cc))
    refine ⟨s', a1, a2, a3, a4, fun r K h k hk => ?_⟩;obtain ⟨k, rfl⟩ : ∃ m, k = m + 1 := ⟨k - 1, by omega⟩;rw [step, if_pos cc];exact a5 r K h k Om
   ·obtain ⟨s', a1, a2, a3, a4, a5⟩ := ih (e - (c + 1)) Om (c + 1) e rfl Om Om he (Or.inr (fun h => cc (by
     have := h p q (by rw [Nat.add_sub_cancel, List.getElem?_eq_getElem hcL, hp]) (by rw [Nat.sub_add_eq, List.getElem?_eq_getElem hcR, hq])
     exact this))) h2
    refine ⟨s', a1, a2, a3, a4, fun r K h k hk => ?_⟩;obtain ⟨k, rfl⟩ : ∃ m, k = m + 1 := ⟨k - 1, by omega⟩;rw [step, if_neg cc];have := a5 r K h k Om;have e1 : (A.length : Int) + ((c + 1 : Nat) : Int) = (A.length : Int) + (c : Int) + 1 := by omega
    rw [e1] at this;exact this
theorem srt_app {X Y : List S66} (hx : Srt X) (hy : Srt Y) (h : ∀ p ∈ X, ∀ q ∈ Y, lt p q) : Srt (X ++ Y) := List.pairwise_append.2 ⟨hx, hy, h⟩
theorem merge_all : ∀ (n : Nat) (L R : List S66), L.length + R.length = n → 0 < L.length → 0 < R.length → Srt L → Srt R → Bel L R → MergeOk L R := by
 intro n
 induction n using Nat.strongRecOn with
 | _ n ih =>
  intro L R hn hL hR hsL hsR hbel
  by_cases c1 : L.length = 1
  ·obtain ⟨x, rfl⟩ := List.length_eq_one_iff.1 c1;exact merge_one x R hsR hbel
  by_cases c2 : R.length = 1
  ·obtain ⟨y, rfl⟩ := List.length_eq_one_iff.1 c2;exact merge_last L y Om hsL hbel
  intro A B hb;obtain ⟨h, hh⟩ : ∃ h : Nat, h = (L.length + R.length) / 2 := ⟨_, rfl⟩
  obtain ⟨lo, hi, hcs, hlo1, hhi1, hhi2, hlohi⟩ : ∃ lo hi : Nat, Aside0 ((h < L.length ∧ lo = h - R.length ∧ hi = h) ∨ (¬ h < L.length ∧ lo = 0 ∧ hi = L.length)) ∧ lo + R.length ≥ h ∧ hi ≤ L.length ∧ hi ≤ h ∧ lo ≤ hi := by
   by_cases hc : h < L.length
   ·exact ⟨h - R.length, h, ⟨Or.inl ⟨hc, rfl, rfl⟩⟩, by omega, by omega, by omega, by omega⟩
   ·exact ⟨0, L.length, ⟨Or.inr ⟨hc, rfl, rfl⟩⟩, by omega, by omega, by omega, by omega⟩
  rw [hh] at hlo1 hhi2;obtain ⟨s, b1, b2, b3, b4, b5⟩ := cut_l4 A L R B (A.length : Int) ((A.length : Int) + (L.length : Int)) ((A.length : Int) + (L.length : Int) + (R.length : Int)) ((A.length : Int) + (h : Int)) ((A.length : Int) + (h : Int) + (A.length : Int) + (L.length : Int)) ((A.length : Int) + (h : Int) + (A.length : Int) + (L.length : Int) - 1) () (by rw [hh]) hb lo hi hlo1 hhi1 hhi2 (hi - lo) lo hi rfl (Nat.le_refl _) hlohi (Nat.le_refl _) (Or.inl rfl) (Or.inl rfl);rw [← hh] at b3 b4 hlo1 hhi2;obtain ⟨L1, L2, rfl, hl1⟩ : ∃ L1 L2, L = L1 ++ L2 ∧ L1.length = s := ⟨L.take s, L.drop s, (List.take_append_drop _ _).symm, by simp; omega⟩;have hsh : s ≤ h := by omega
  have hhR : h - s ≤ R.length := by omega
  obtain ⟨R1, R2, rfl, hr1⟩ : ∃ R1 R2, R = R1 ++ R2 ∧ R1.length = h - s := ⟨R.take (h - s), R.drop (h - s), (List.take_append_drop _ _).symm, by simp; omega⟩;simp only [List.length_append] at *;obtain ⟨sl1, sl2, sl3⟩ := List.pairwise_append.1 hsL;obtain ⟨sr1, sr2, sr3⟩ := List.pairwise_append.1 hsR
  have x12 : ∀ p ∈ L1, ∀ q ∈ R2, lt p q := by
   rcases b3 with b3 | b3
   ·intro p hp q hq;exfalso;have u1 := List.length_pos_of_mem hp;have u2 := List.length_pos_of_mem hq;have := hcs.out;omega
   ·intro p hp q hq;obtain ⟨X, z, rfl⟩ : ∃ X z, L1 = X ++ [z] := ⟨L1.dropLast, L1.getLast (by intro h; simp [h] at hp), (List.dropLast_concat_getLast _).symm⟩
    obtain ⟨y, Y, rfl⟩ : ∃ y Y, R2 = y :: Y := by
     cases R2 with
     | nil => simp at hq
     | cons y Y => exact ⟨y, Y, rfl⟩
    have hzy : lt z y := by
     refine bel_cross (fun hlt => b3 (fun p q hp hq => ?_)) (hbel z (by simp) y (by simp));rw [← hl1] at hp;simp at hp;rw [← hr1] at hq;simp at hq;rw [← hp, ← hq];exact hlt
    have hpz : p = z ∨ lt p z := by
     rcases List.mem_append.1 hp with hp | hp
     ·exact Or.inr ((List.pairwise_append.1 sl1).2.2 p hp z (by simp))
     ·exact Or.inl (List.mem_singleton.1 hp)
    have hyq : q = y ∨ lt y q := by
     rcases List.mem_cons.1 hq with hq | hq
     ·exact Or.inl hq
     ·exact Or.inr ((List.pairwise_cons.1 sr2).1 q hq)
    rcases hpz with rfl | hpz <;> rcases hyq with rfl | hyq
    ·exact hzy
    ·exact lt_trans hzy hyq
    ·exact lt_trans hpz hzy
    ·exact lt_trans hpz (lt_trans hzy hyq)
  have x21 : ∀ p ∈ R1, ∀ q ∈ L2, lt p q := by
   rcases b4 with b4 | b4
   ·intro p hp q hq;exfalso;have u1 := List.length_pos_of_mem hp;have u2 := List.length_pos_of_mem hq;have := hcs.out;omega
   ·intro p hp q hq;obtain ⟨X, z, rfl⟩ : ∃ X z, R1 = X ++ [z] := ⟨R1.dropLast, R1.getLast (by intro h; simp [h] at hp), (List.dropLast_concat_getLast _).symm⟩
    obtain ⟨y, Y, rfl⟩ : ∃ y Y, L2 = y :: Y := by
     cases L2 with
     | nil => simp at hq
     | cons y Y => exact ⟨y, Y, rfl⟩
    have hzy : lt z y := by
     refine Or.inl (b4 y z ?_ ?_)
     ·rw [← hl1]; simp
     ·rw [← hr1]; simp
    have hpz : p = z ∨ lt p z := by
     rcases List.mem_append.1 hp with hp | hp
     ·exact Or.inr ((List.pairwise_append.1 sr1).2.2 p hp z (by simp))
     ·exact Or.inl (List.mem_singleton.1 hp)
    have hyq : q = y ∨ lt y q := by
     rcases List.mem_cons.1 hq with hq | hq
     ·exact Or.inl hq
     ·exact Or.inr ((List.pairwise_cons.1 sl2).1 q hq)
    rcases hpz with rfl | hpz <;> rcases hyq with rfl | hyq
    ·exact hzy
    ·exact lt_trans hzy hyq
    ·exact lt_trans hpz hzy
    ·exact lt_trans hpz (lt_trans hzy hyq)
  have half : ∀ X Y : List S66, X.length + Y.length < n → Srt X → Srt Y → Bel X Y → ∀ C D : List S66, C.length + X.length + Y.length + D.length ≤ 1152921504606846976 → ∃ Q, Q.Perm (X ++ Y) ∧ Srt Q ∧ (0 < X.length → 0 < Y.length → ∃ K, ∀ k, K ≤ k → ∀ u, share_rest_64.f k (C ++ X ++ Y ++ D) (C.length : Int) ((C.length : Int) + (X.length : Int)) ((C.length : Int) + (X.length : Int) + (Y.length : Int)) u = some (C ++ Q ++ D)) ∧ (¬ (0 < X.length ∧ 0 < Y.length) → Q = X ++ Y) := by
   intro X Y hlt hX hY hXY C D hbd
   by_cases hx : 0 < X.length ∧ 0 < Y.length
   ·obtain ⟨Q, q1, q2, q3⟩ := ih _ hlt X Y rfl hx.1 hx.2 hX hY hXY C D hbd;exact ⟨Q, q1, q2, fun _ _ => q3, fun h => absurd hx h⟩
   ·refine ⟨X ++ Y, List.Perm.refl _, ?_, fun h1 h2 => absurd ⟨h1, h2⟩ hx, fun _ => rfl⟩
    by_cases h0 : 0 < X.length
    ·obtain rfl : Y = [] := List.length_eq_zero_iff.1 Om;simpa using hX
    ·obtain rfl : X = [] := List.length_eq_zero_iff.1 Om;simpa using hY
  obtain ⟨Q1, p1, s1, m1, e1⟩ := half L1 R1 Om sl1 sr1 (fun p hp q hq => hbel p (by simp [hp]) q (by simp [hq])) A (L2 ++ R2 ++ B) (by simp; omega);have hq1 : Q1.length = h := by have := p1.length_eq; simp at this; omega
  obtain ⟨Q2, p2, s2, m2, e2⟩ := half L2 R2 Om sl2 sr2 (fun p hp q hq => hbel p (by simp [hp]) q (by simp [hq])) (A ++ Q1) B (by simp; omega);clear half ih;refine ⟨Q1 ++ Q2, ?_, srt_app s1 s2 (fun p hp q hq => ?_), ?_⟩
  ·refine (List.Perm.append p1 p2).trans ?_;have a1 : (L1 ++ R1 ++ (L2 ++ R2)).Perm (L1 ++ (R1 ++ L2) ++ R2) := by simp
   have a2 : (L1 ++ (R1 ++ L2) ++ R2).Perm (L1 ++ (L2 ++ R1) ++ R2) := List.Perm.append_right _ (List.Perm.append_left _ List.perm_append_comm);have a3 : (L1 ++ (L2 ++ R1) ++ R2).Perm (L1 ++ L2 ++ (R1 ++ R2)) := by simp
   exact a1.trans (a2.trans a3)
  ·have hp' := p1.mem_iff.1 hp;have hq' := p2.mem_iff.1 hq;rcases List.mem_append.1 hp' with hp' | hp' <;> rcases List.mem_append.1 hq' with hq' | hq'
   ·exact sl3 p hp' q hq'
   ·exact x12 p hp' q hq'
   ·exact x21 p hp' q hq'
   ·exact sr3 p hp' q hq'
  clear x12 x21 sl3 sr3 b3 b4 p1 p2 s1 s2 hbel hsL hsR sl1 sl2 sr1 sr2
  have K1 : ∃ K, ∀ k, K ≤ k → ∀ u, 0 < L1.length → 0 < R1.length → share_rest_64.f k (A ++ L1 ++ R1 ++ (L2 ++ R2 ++ B)) (A.length : Int) ((A.length : Int) + (s : Int)) ((A.length : Int) + (h : Int)) u = some (A ++ Q1 ++ (L2 ++ R2 ++ B)) := by
   by_cases hx : 0 < L1.length ∧ 0 < R1.length
   ·obtain ⟨K, hK⟩ := m1 hx.1 hx.2;refine ⟨K, fun k hk u _ _ => ?_⟩;have := hK k hk u;have z1 : (A.length : Int) + (L1.length : Int) = (A.length : Int) + (s : Int) := by omega
    have z2 : (A.length : Int) + (s : Int) + (R1.length : Int) = (A.length : Int) + (h : Int) := by omega
    rw [z1, z2] at this;exact this
   ·exact ⟨0, fun k _ u a b => absurd ⟨a, b⟩ hx⟩
  have K2 : ∃ K, ∀ k, K ≤ k → ∀ u, 0 < L2.length → 0 < R2.length → share_rest_64.f k (A ++ Q1 ++ (L2 ++ R2 ++ B)) ((A.length : Int) + (h : Int)) ((A.length : Int) + (h : Int) + (L2.length : Int)) ((A.length : Int) + ((L1.length + L2.length : Nat) : Int) + ((R1.length + R2.length : Nat) : Int)) u = some (A ++ Q1 ++ Q2 ++ B) := by
   by_cases hx : 0 < L2.length ∧ 0 < R2.length
   ·obtain ⟨K, hK⟩ := m2 hx.1 hx.2;refine ⟨K, fun k hk u _ _ => ?_⟩;have := hK k hk u;have z1 : ((A ++ Q1).length : Int) = (A.length : Int) + (h : Int) := by simp; omega
    have z2 : (A.length : Int) + (h : Int) + (L2.length : Int) + (R2.length : Int) = (A.length : Int) + ((L1.length + L2.length : Nat) : Int) + ((R1.length + R2.length : Nat) : Int) := by omega
    rw [z1, z2] at this;simpa using this
   ·exact ⟨0, fun k _ u a b => absurd ⟨a, b⟩ hx⟩
  obtain ⟨K1, K1h⟩ := K1;obtain ⟨K2, K2h⟩ := K2
  have hE : (A ++ Q1 ++ (L2 ++ R2 ++ B) : List S66) = A ++ Q1 ++ Q2 ++ B ∨ (0 < L2.length ∧ 0 < R2.length) := by
   by_cases hx : 0 < L2.length ∧ 0 < R2.length
   ·exact Or.inr hx
   ·rw [e2 hx]; simp
  have hE1 : (A ++ L1 ++ R1 ++ (L2 ++ R2 ++ B) : List S66) = A ++ Q1 ++ (L2 ++ R2 ++ B) ∨ (0 < L1.length ∧ 0 < R1.length) := by
   by_cases hx : 0 < L1.length ∧ 0 < R1.length
   ·exact Or.inr hx
   ·rw [e1 hx]; simp
  clear e1 e2 m1 m2
  have tail : ∀ k, K2 ≤ k → ∀ u, (if (A.length : Int) + (h : Int) < (A.length : Int) + (h : Int) + (L2.length : Int) then (if (A.length : Int) + (h : Int) + (L2.length : Int) < (A.length : Int) + ((L1.length + L2.length : Nat) : Int) + ((R1.length + R2.length : Nat) : Int) then ((share_rest_64.f k (A ++ Q1 ++ (L2 ++ R2 ++ B)) ((A.length : Int) + (h : Int)) ((A.length : Int) + (h : Int) + (L2.length : Int)) ((A.length : Int) + ((L1.length + L2.length : Nat) : Int) + ((R1.length + R2.length : Nat) : Int)) u).bind fun t146 => (some t146)) else (some (A ++ Q1 ++ (L2 ++ R2 ++ B)))) else (some (A ++ Q1 ++ (L2 ++ R2 ++ B)))) = some (A ++ Q1 ++ Q2 ++ B) := by
   intro k hk u;rcases hE with hE | ⟨h1, h2⟩
   ·by_cases hx : 0 < L2.length ∧ 0 < R2.length
    ·rw [if_pos Om, if_pos Om, K2h k hk u hx.1 hx.2];rfl
    ·split
     ·rw [if_neg Om, hE]
     ·rw [hE]
   ·rw [if_pos Om, if_pos Om, K2h k hk u h1 h2];rfl
  have j8 : ∀ k, K1 + K2 + 1 ≤ k → ∀ u c, (c = true ↔ 0 < L1.length ∧ 0 < R1.length) → share_rest_64.j8 k (A ++ L1 ++ R1 ++ (L2 ++ R2 ++ B)) (A.length : Int) ((A.length : Int) + ((L1.length + L2.length : Nat) : Int) + ((R1.length + R2.length : Nat) : Int)) u ((A.length : Int) + (h : Int)) ((A.length : Int) + (s : Int)) ((A.length : Int) + (h : Int) + (L2.length : Int)) c = some (A ++ Q1 ++ Q2 ++ B) := by
   intro k hk u c hc;obtain ⟨k, rfl⟩ : ∃ m, k = m + 1 := ⟨k - 1, by omega⟩;simp only [share_rest_64.j8]
   by_cases hx : c = true
   ·obtain ⟨h1, h2⟩ := hc.1 hx;rw [if_pos hx, K1h k Om u h1 h2];simp only [Option.bind_some];exact tail k Om u
   ·have h1 := mt hc.2 hx;rcases hE1 with hE1 | hE1
    ·rw [if_neg hx, hE1];exact tail k Om u
    ·exact absurd hE1 h1
  have j7 : ∀ k, K1 + K2 + 2 ≤ k → ∀ u, share_rest_64.j7 k (A ++ L1 ++ R1 ++ (L2 ++ R2 ++ B)) (A.length : Int) ((A.length : Int) + ((L1.length + L2.length : Nat) : Int) + ((R1.length + R2.length : Nat) : Int)) u ((A.length : Int) + (h : Int)) ((A.length : Int) + (s : Int)) ((A.length : Int) + (h : Int) + (L2.length : Int)) = some (A ++ Q1 ++ Q2 ++ B) := by
   intro k hk u;obtain ⟨k, rfl⟩ : ∃ m, k = m + 1 := ⟨k - 1, by omega⟩;simp only [share_rest_64.j7]
   by_cases hx : (A.length : Int) < (A.length : Int) + (s : Int)
   ·rw [if_pos hx];exact j8 k Om u _ (by rw [decide_eq_true_iff]; omega)
   ·rw [if_neg hx];exact j8 k Om u _ (by simp; omega)
  clear j8 tail K1h K2h hE hE1
  have j6 : ∀ k, K1 + K2 + L2.length + R1.length + 6 ≤ k → ∀ u c, (c = true ↔ 0 < L2.length ∧ 0 < R1.length) → share_rest_64.j6 k (A ++ (L1 ++ L2) ++ (R1 ++ R2) ++ B) (A.length : Int) ((A.length : Int) + ((L1.length + L2.length : Nat) : Int)) ((A.length : Int) + ((L1.length + L2.length : Nat) : Int) + ((R1.length + R2.length : Nat) : Int)) u ((A.length : Int) + (h : Int)) ((A.length : Int) + (s : Int)) ((A.length : Int) + (h : Int) + (L2.length : Int)) c = some (A ++ Q1 ++ Q2 ++ B) := by
   intro k hk u c hc;obtain ⟨k, rfl⟩ : ∃ m, k = m + 1 := ⟨k - 1, by omega⟩;simp only [share_rest_64.j6]
   by_cases hx : c = true
   ·obtain ⟨h1, h2⟩ := hc.1 hx;have ro := rotate_eq (A ++ L1) L2 R1 (R2 ++ B) h1 h2 (by simp; omega) (a := (A.length : Int) + (s : Int)) (m := (A.length : Int) + ((L1.length + L2.length : Nat) : Int)) (b := (A.length : Int) + (h : Int) + (L2.length : Int)) (by simp; omega) (by simp; omega) (by simp; omega) u (k := k) Om;have y1 : A ++ (L1 ++ L2) ++ (R1 ++ R2) ++ B = A ++ L1 ++ L2 ++ R1 ++ (R2 ++ B) := by simp
    rw [if_pos hx, y1, ro];simp only [Option.bind_some];have := j7 k Om u;simpa using this
   ·have h1 := mt hc.2 hx;rw [if_neg hx]
    have y1 : A ++ (L1 ++ L2) ++ (R1 ++ R2) ++ B = A ++ L1 ++ R1 ++ (L2 ++ R2 ++ B) := by
     by_cases h0 : 0 < L2.length
     ·obtain rfl : R1 = [] := List.length_eq_zero_iff.1 Om;simp
     ·obtain rfl : L2 = [] := List.length_eq_zero_iff.1 Om;simp
    rw [y1];exact j7 k Om u
  clear j7;refine ⟨K1 + K2 + L2.length + R1.length + 6 + (hi - lo) + 3, fun k hk u => ?_⟩
  have srch := b5 (A ++ Q1 ++ Q2 ++ B) (K1 + K2 + L2.length + R1.length + 6) (fun k hk => by
   have z : wrap64 ((A.length : Int) + (h : Int) + (A.length : Int) + ((L1.length + L2.length : Nat) : Int) - ((A.length : Int) + (s : Int))) = (A.length : Int) + (h : Int) + (L2.length : Int) := by
    rw [w64' Om Om];omega
   rw [z];clear z
   by_cases hx : (A.length : Int) + (s : Int) < (A.length : Int) + ((L1.length + L2.length : Nat) : Int)
   ·rw [if_pos hx];exact j6 k hk () _ (by rw [decide_eq_true_iff]; omega)
   ·rw [if_neg hx]
    exact j6 k hk () _ (by simp; omega))
  clear b5 j6;obtain ⟨k, rfl⟩ : ∃ m, k = m + 2 := ⟨k - 2, by omega⟩;have w1 := Aside0.mk (show wrap64 ((A.length : Int) + ((L1.length + L2.length : Nat) : Int) - (A.length : Int)) = ((L1.length + L2.length : Nat) : Int) from by rw [w64' Om Om]; omega);have w2 := Aside0.mk (show wrap64 ((A.length : Int) + ((L1.length + L2.length : Nat) : Int) + ((R1.length + R2.length : Nat) : Int) - ((A.length : Int) + ((L1.length + L2.length : Nat) : Int))) = ((R1.length + R2.length : Nat) : Int) from by rw [w64' Om Om]; omega);have w3 := Aside0.mk (show wrap64 ((IntKind.u64.wrap (wrap64 ((A.length : Int) + ((A.length : Int) + ((L1.length + L2.length : Nat) : Int) + ((R1.length + R2.length : Nat) : Int))))) / 2) = (A.length : Int) + (h : Int) from by rw [mid_eq Om Om]; omega);have w4 := Aside0.mk (show wrap64 ((A.length : Int) + (h : Int) + ((A.length : Int) + ((L1.length + L2.length : Nat) : Int))) = (A.length : Int) + (h : Int) + (A.length : Int) + ((L1.length + L2.length : Nat) : Int) from by rw [w64' Om Om]; omega);have w5 := Aside0.mk (show wrap64 ((A.length : Int) + (h : Int) + (A.length : Int) + ((L1.length + L2.length : Nat) : Int) - 1) = (A.length : Int) + (h : Int) + (A.length : Int) + ((L1.length + L2.length : Nat) : Int) - 1 from by rw [w64' Om Om]);have w6 := Aside0.mk (show h < L1.length + L2.length → wrap64 ((A.length : Int) + (h : Int) + (A.length : Int) + ((L1.length + L2.length : Nat) : Int) - ((A.length : Int) + ((L1.length + L2.length : Nat) : Int) + ((R1.length + R2.length : Nat) : Int))) = (A.length : Int) + ((h - (R1.length + R2.length) : Nat) : Int) from by intro hx; rw [w64' Om Om]; omega);obtain ⟨rfl, u1⟩ : u = () ∧ True := ⟨rfl, trivial⟩;simp only [share_rest_64.f, share_rest_64.j4];rw [w1.out, w2.out, w3.out, w4.out, w5.out];rw [if_neg Om, if_neg Om];have fin := srch k Om
  by_cases hx : h < L1.length + L2.length
  ·rw [w6.out hx, if_pos Om];obtain ⟨rfl, rfl⟩ : lo = h - (R1.length + R2.length) ∧ hi = h := by have := hcs.out; omega
   simpa using fin
  ·rw [if_neg Om];obtain ⟨rfl, rfl⟩ : lo = 0 ∧ hi = L1.length + L2.length := by have := hcs.out; omega
   simpa using fin
end Go.Ai.Lf
namespace Go.Ai.Lf
open Go.RowKit
inductive Blk (b : Nat) : List S66 → List S66 → Prop
 | last (xs ys : List S66) (h : xs.length ≤ b) (p : ys.Perm xs) (s : Srt ys) : Blk b xs ys
 | cons (X Y xs ys : List S66) (h : X.length = b) (p : Y.Perm X) (s : Srt Y) (r : Blk b xs ys) : Blk b (X ++ xs) (Y ++ ys)
theorem Blk.perm {b : Nat} {xs ys : List S66} (h : Blk b xs ys) : ys.Perm xs := by
 induction h with
 | last xs ys h p s => exact p
 | cons X Y xs ys h p s r ih => exact List.Perm.append p ih
theorem bel_perm {L R L' R' : List S66} (h : Bel L R) (hl : L'.Perm L) (hr : R'.Perm R) : Bel L' R' := fun p hp q hq => h p (hl.mem_iff.1 hp) q (hr.mem_iff.1 hq)
theorem ris_bel {X Y : List S66} (h : Ris (X ++ Y)) : Bel X Y := (List.pairwise_append.1 h).2.2
theorem ris_l {X Y : List S66} (h : Ris (X ++ Y)) : Ris X := (List.pairwise_append.1 h).1
theorem ris_r {X Y : List S66} (h : Ris (X ++ Y)) : Ris Y := (List.pairwise_append.1 h).2.1
theorem pass0 (u : Unit) : ∀ (n : Nat) (xs : List S66), xs.length = n → Ris xs → ∀ D : List S66, D.length + n ≤ 4294967296 → ∃ ys, Blk 20 xs ys ∧
  ∀ r K, (∀ k, K ≤ k → share_rest_56.l1 k (D ++ ys) ((D.length : Int) + (n : Int)) u 20 = some r) → ∃ K', ∀ k, K' ≤ k → share_rest_56.l0 k (D ++ xs) ((D.length : Int) + (n : Int)) u 20 (D.length : Int) ((D.length : Int) + 20) = some r := by
 intro n
 induction n using Nat.strongRecOn with
 | _ n ih =>
  intro xs hn hr D hb
  by_cases c : 20 ≤ n
  ·obtain ⟨X, xs', rfl, hX⟩ : ∃ X xs', xs = X ++ xs' ∧ X.length = 20 := ⟨xs.take 20, xs.drop 20, (List.take_append_drop _ _).symm, by simp; omega⟩;simp only [List.length_append] at hn;obtain ⟨Q, q1, q2, K0, hK0⟩ := insSort_eq D X xs' (ris_l hr) Om;have hQ : Q.length = 20 := by rw [q1.length_eq, hX]
   obtain ⟨ys, b1, b2⟩ := ih (n - 20) Om xs' Om (ris_r hr) (D ++ Q) (by simp; omega);refine ⟨Q ++ ys, Blk.cons X Q xs' ys hX q1 q2 b1, fun r K h => ?_⟩
   obtain ⟨K1, hK1⟩ := b2 r K (fun k hk => by
    have := h k hk;have e : ((D ++ Q).length : Int) + ((n - 20 : Nat) : Int) = (D.length : Int) + (n : Int) := by simp; omega
    rw [e]
    simpa using this)
   refine ⟨K0 + K1 + 1, fun k hk => ?_⟩;obtain ⟨k, rfl⟩ : ∃ m, k = m + 1 := ⟨k - 1, by omega⟩;have g := hK0 k Om u;have g1 := hK1 k Om;have e1 : ((D ++ Q).length : Int) + ((n - 20 : Nat) : Int) = (D.length : Int) + (n : Int) := by simp; omega
   have e2 : ((D ++ Q).length : Int) = (D.length : Int) + 20 := by simp; omega
   have e3 : (X.length : Int) = 20 := by omega
   rw [e1, e2] at g1;rw [e3] at g;simp only [share_rest_56.l0];rw [if_pos Om, show D ++ (X ++ xs') = D ++ X ++ xs' by simp, g];simp only [Option.bind_some];rw [w64' Om Om];exact g1
  ·obtain ⟨Q, q1, q2, K0, hK0⟩ := insSort_eq D xs [] hr (by simp; omega);refine ⟨Q, Blk.last xs Q Om q1 q2, fun r K h => ⟨K0 + K + 1, fun k hk => ?_⟩⟩;obtain ⟨k, rfl⟩ : ∃ m, k = m + 1 := ⟨k - 1, by omega⟩;have g := hK0 k Om u;rw [hn] at g;simp only [List.append_nil] at g;simp only [share_rest_56.l0];rw [if_neg Om, g];exact h k Om
theorem pass1 (u : Unit) (b : Nat) (hb0 : 0 < b) (hb1 : b ≤ 4294967296) : ∀ (n : Nat) (xs ys : List S66), xs.length = n → Blk b xs ys → Ris xs → ∀ D : List S66, D.length + n ≤ 4294967296 → ∃ zs, Blk (2 * b) xs zs ∧
  ∀ r K, (∀ k, K ≤ k → share_rest_56.l1 k (D ++ zs) ((D.length : Int) + (n : Int)) u ((2 * b : Nat) : Int) = some r) → ∃ K', ∀ k, K' ≤ k → share_rest_56.l2 k (D ++ ys) ((D.length : Int) + (n : Int)) u (b : Int) (D.length : Int) ((D.length : Int) + 2 * (b : Int)) = some r := by
 intro n
 induction n using Nat.strongRecOn with
 | _ n ih =>
  intro xs ys hn hblk hr D hb
  have stop : ∀ zs : List S66, n ≤ b → ∀ r K, (∀ k, K ≤ k → share_rest_56.l1 k (D ++ zs) ((D.length : Int) + (n : Int)) u ((2 * b : Nat) : Int) = some r) → ∃ K', ∀ k, K' ≤ k → share_rest_56.l2 k (D ++ zs) ((D.length : Int) + (n : Int)) u (b : Int) (D.length : Int) ((D.length : Int) + 2 * (b : Int)) = some r := by
   intro zs h r K hk;refine ⟨K + 1, fun k hk' => ?_⟩;obtain ⟨k, rfl⟩ : ∃ m, k = m + 1 := ⟨k - 1, by omega⟩;simp only [share_rest_56.l2];rw [if_neg Om, w64' (n := (D.length : Int) + (b : Int)) Om Om, if_neg Om, w64' Om Om];have := hk k Om;have e : ((2 * b : Nat) : Int) = (b : Int) * 2 := by omega
   rw [e] at this;exact this
  cases hblk with
  | last _ _ h p s => exact ⟨ys, Blk.last _ _ Om p s, stop ys Om⟩
  | cons X Y xs' ys' h p s hr' =>
   have hY : Y.length = b := by rw [p.length_eq, h]
   have hp' := hr'.perm;have hbel : Bel Y ys' := bel_perm (ris_bel hr) p hp';simp only [List.length_append] at hn
   have two : ∀ (X' Y' xs'' ys'' : List S66), xs' = X' ++ xs'' → ys' = Y' ++ ys'' → X'.length = b → Y'.Perm X' → Srt Y' → Blk b xs'' ys'' → ∃ zs, Blk (2 * b) (X ++ xs') zs ∧
     ∀ r K, (∀ k, K ≤ k → share_rest_56.l1 k (D ++ zs) ((D.length : Int) + (n : Int)) u ((2 * b : Nat) : Int) = some r) → ∃ K', ∀ k, K' ≤ k → share_rest_56.l2 k (D ++ (Y ++ ys')) ((D.length : Int) + (n : Int)) u (b : Int) (D.length : Int) ((D.length : Int) + 2 * (b : Int)) = some r := by
    rintro X' Y' xs'' ys'' rfl rfl h2 p2 s2 hb2;have hY' : Y'.length = b := by rw [p2.length_eq, h2]
    simp only [List.length_append] at hn;have hlen'' := hb2.perm.length_eq;obtain ⟨Q, q1, q2, K0, hK0⟩ := merge_all _ Y Y' rfl Om Om s s2 (fun p hp q hq => hbel p hp q (by simp [hq])) D ys'' Om;have hQ : Q.length = 2 * b := by rw [q1.length_eq]; simp; omega
    obtain ⟨zs, b1, b2⟩ := ih (n - 2 * b) Om xs'' ys'' Om hb2 (ris_r (ris_r hr)) (D ++ Q) (by simp; omega);refine ⟨Q ++ zs, ?_, fun r K hk => ?_⟩
    ·have := Blk.cons (b := 2 * b) (X ++ X') Q xs'' zs (by simp; omega) (q1.trans (List.Perm.append p p2)) q2 b1;simpa using this
    ·obtain ⟨K1, hK1⟩ := b2 r K (fun k hk' => by
      have := hk k hk';have e : ((D ++ Q).length : Int) + ((n - 2 * b : Nat) : Int) = (D.length : Int) + (n : Int) := by simp; omega
      rw [e]
      simpa using this)
     refine ⟨K0 + K1 + 1, fun k hk' => ?_⟩;obtain ⟨k, rfl⟩ : ∃ m, k = m + 1 := ⟨k - 1, by omega⟩;have g := hK0 k Om u;have g1 := hK1 k Om;have e1 : ((D ++ Q).length : Int) + ((n - 2 * b : Nat) : Int) = (D.length : Int) + (n : Int) := by simp; omega
     have e2 : ((D ++ Q).length : Int) = (D.length : Int) + 2 * (b : Int) := by simp; omega
     have e3 : (Y.length : Int) = (b : Int) := by omega
     have e4 : (Y'.length : Int) = (b : Int) := by omega
     have e5 : (D.length : Int) + (b : Int) + (b : Int) = (D.length : Int) + 2 * (b : Int) := by omega
     rw [e1, e2] at g1;rw [e3, e4, e5] at g;simp only [share_rest_56.l2];rw [if_pos Om, w64' (n := (D.length : Int) + (b : Int)) Om Om, show D ++ (Y ++ (Y' ++ ys'')) = D ++ Y ++ Y' ++ ys'' by simp, g];simp only [Option.bind_some];rw [w64' (n := 2 * (b : Int)) Om Om, w64' Om Om];exact g1
   cases hr' with
   | cons X' Y' xs'' ys'' h2 p2 s2 hb2 => exact two X' Y' xs'' ys'' rfl rfl h2 p2 s2 hb2
   | last _ _ h2 p2 s2 =>
    by_cases c1 : xs'.length = b
    ·have := two xs' ys' [] [] (by simp) (by simp) c1 p2 s2 (Blk.last [] [] (by simp) (List.Perm.refl _) List.Pairwise.nil);exact this
    by_cases c2 : xs' = []
    ·subst c2;obtain rfl : ys' = [] := List.length_eq_zero_iff.1 (by simpa using p2.length_eq);exact ⟨Y ++ [], Blk.last _ _ (by simp; omega) (by simpa using p) (by simpa using s), stop _ (by simp at hn; omega)⟩
    have hpos : 0 < xs'.length := List.length_pos_iff.2 c2;have hl2 := p2.length_eq;obtain ⟨Q, q1, q2, K0, hK0⟩ := merge_all _ Y ys' rfl Om Om s s2 hbel D [] (by simp; omega);refine ⟨Q, Blk.last _ _ (by simp; omega) (q1.trans (List.Perm.append p p2)) q2, fun r K hk => ⟨K0 + K + 1, fun k hk' => ?_⟩⟩;obtain ⟨k, rfl⟩ : ∃ m, k = m + 1 := ⟨k - 1, by omega⟩;have g := hK0 k Om u;have e3 : (Y.length : Int) = (b : Int) := by omega
    have e4 : (D.length : Int) + (b : Int) + (ys'.length : Int) = (D.length : Int) + (n : Int) := by omega
    rw [e3, e4] at g;simp only [List.append_nil] at g;simp only [share_rest_56.l2];rw [if_neg Om, w64' (n := (D.length : Int) + (b : Int)) Om Om, if_pos Om, show D ++ (Y ++ ys') = D ++ Y ++ ys' by simp, g];simp only [Option.bind_some];rw [w64' Om Om];have := hk k Om;have e : ((2 * b : Nat) : Int) = (b : Int) * 2 := by omega
    rw [e] at this;exact this
theorem passes (u : Unit) (xs : List S66) (hr : Ris xs) (hn : xs.length ≤ 2147483648) : ∀ (d b : Nat) (ys : List S66), xs.length - b = d → 0 < b → b ≤ 4294967296 → Blk b xs ys → ∃ Q, Q.Perm xs ∧ Srt Q ∧ ∃ K, ∀ k, K ≤ k → share_rest_56.l1 k ys (xs.length : Int) u (b : Int) = some Q := by
 intro d
 induction d using Nat.strongRecOn with
 | _ d ih =>
  intro b ys hd hb0 hb1 hblk
  by_cases c : b < xs.length
  ·obtain ⟨zs, b1, b2⟩ := pass1 u b hb0 hb1 _ xs ys rfl hblk hr [] (by simp; omega);obtain ⟨Q, q1, q2, K, hK⟩ := ih (xs.length - 2 * b) Om (2 * b) zs rfl Om Om b1;obtain ⟨K', hK'⟩ := b2 Q K (fun k hk => by have := hK k hk; simpa using this);refine ⟨Q, q1, q2, K' + 1, fun k hk => ?_⟩;obtain ⟨k, rfl⟩ : ∃ m, k = m + 1 := ⟨k - 1, by omega⟩;have g := hK' k Om;simp only [share_rest_56.l1];rw [if_pos Om, w64' Om Om];simpa using g
  ·refine ⟨ys, hblk.perm, ?_, 1, fun k hk => ?_⟩
   ·cases hblk with
    | last _ _ _ _ s => exact s
    | cons X Y xs' ys' h p s r =>
     simp only [List.length_append] at c;have := r.perm.length_eq;obtain rfl : ys' = [] := List.length_eq_zero_iff.1 Om;simpa using s
   ·obtain ⟨k, rfl⟩ : ∃ m, k = m + 1 := ⟨k - 1, by omega⟩;simp only [share_rest_56.l1];rw [if_neg Om]
theorem sort_eq (l : List S66) (hr : Ris l) (hn : l.length ≤ 2147483648) : ∃ Q, Q.Perm l ∧ Srt Q ∧ ∃ K, ∀ k, K ≤ k → ∀ u, share_rest_47.f k l u = some Q := by
 obtain ⟨ys, b1, b2⟩ := pass0 () _ l rfl hr [] (by simp; omega);obtain ⟨Q, q1, q2, K, hK⟩ := passes () l hr hn _ 20 ys rfl Om Om b1;obtain ⟨K', hK'⟩ := b2 Q K (fun k hk => by have := hK k hk; simpa using this);refine ⟨Q, q1, q2, K', fun k hk u => ?_⟩;have g := hK' k hk;simp only [share_rest_47.f, share_rest_56.f];simp at g;cases u;rw [g];rfl
end Go.Ai.Lf
namespace Go.Ai.Lf
open Go.RowKit
theorem w64 {n : Int} (h : -9223372036854775808 ≤ n) (h' : n ≤ 9223372036854775807) : wrap64 n = n := by unfold wrap64; omega
theorem w1 : wrap64 1 = 1 := w64 Om Om
theorem w2 : wrap64 2 = 2 := w64 Om Om
theorem rd_nat {l : List Int} {i : Nat} (h : i < l.length) : rd l (i : Int) = l[i] := by simp [rd, List.getD_eq_getElem?_getD, h]
theorem rd_at {l : List Int} {i : Int} (h0 : 0 ≤ i) (h : i < (l.length : Int)) : rd l i = l[i.toNat]'Om := by
 obtain ⟨n, rfl⟩ := Int.eq_ofNat_of_zero_le h0;exact rd_nat Om
end Go.Ai.Lf
namespace Go.Ai.Lf
open Go.RowKit
def sumI : List Int → Int
 | [] => 0
 | x :: r => x + sumI r
theorem sumI_app : ∀ a b : List Int, sumI (a ++ b) = sumI a + sumI b
 | [], b => by simp [sumI]
 | x :: r, b => by simp only [List.cons_append, sumI, sumI_app r b]; omega
def OkW (l : List Int) : Prop := ∀ x ∈ l, 0 ≤ x ∧ x ≤ 1048576
instance (l : List Int) : Decidable (OkW l) := by unfold OkW; infer_instance
theorem OkW.sum_bd : ∀ {l : List Int}, OkW l → 0 ≤ sumI l ∧ sumI l ≤ l.length * 1048576
 | [], _ => by simp [sumI]
 | x :: r, h => by
  have := OkW.sum_bd (l := r) (fun y hy => h y (by simp [hy]));have := h x (by simp);simp only [sumI, List.length_cons];omega
theorem weight_l0 (l : List Int) (hl : l.length ≤ 256) : ∀ (rest done : List Int), l = done ++ rest → OkW done → ∀ k, rest.length + 1 ≤ k → share_weight.l0 k l (sumI done) (done.length : Int) = some (if OkW rest then sumI l else 0)
 | [], done, e, hd, k, hk => by
  obtain ⟨k, rfl⟩ : ∃ m, k = m + 1 := ⟨k - 1, by omega⟩;simp only [share_weight.l0];rw [e];rw [if_pos (by simp), if_pos (by simp [OkW])];simp
 | x :: rest, done, e, hd, k, hk => by
  obtain ⟨k, rfl⟩ : ∃ m, k = m + 1 := ⟨k - 1, by omega⟩;have hlen : l.length = done.length + (rest.length + 1) := by rw [e]; simp
  have hx : rd l (done.length : Int) = x := by rw [rd_nat Om]; simp [e]
  have hb := hd.sum_bd;simp only [share_weight.l0];rw [if_neg Om, if_pos Om, if_pos Om, hx]
  by_cases c : 0 ≤ x ∧ x ≤ 1048576
  ·rw [if_neg Om, if_neg Om]
   have ih := weight_l0 l hl rest (done ++ [x]) (by simp [e]) (fun y hy => by
    rcases List.mem_append.1 hy with hy | hy
    ·exact hd y hy
    ·rw [List.mem_singleton.1 hy]; exact c) k (by simp at hk; omega)
   have e1 : sumI (done ++ [x]) = sumI done + x := by rw [sumI_app]; simp [sumI]
   have e2 : ((done ++ [x]).length : Int) = (done.length : Int) + 1 := by simp
   rw [e1, e2] at ih;rw [w64' (n := sumI done + x) Om Om, w64' (n := (done.length : Int) + 1) Om Om, ih]
   have e3 : OkW (x :: rest) ↔ OkW rest := ⟨fun h y hy => h y (by simp [hy]), fun h y hy => by
    rcases List.mem_cons.1 hy with rfl | hy
    ·exact c
    ·exact h y hy⟩
   by_cases c2 : OkW rest
   ·rw [if_pos c2, if_pos (e3.2 c2)]
   ·rw [if_neg c2, if_neg (fun h => c2 (e3.1 h))]
  ·have hno : ¬ OkW (x :: rest) := fun h => c (h x (by simp))
   rw [if_neg hno]
   by_cases c2 : x < 0
   ·rw [if_pos c2]
   ·rw [if_neg c2, if_pos Om]
theorem weight_eq (l : List Int) {k : Nat} (hk : l.length + 1 ≤ k) : share_weight.f k l = some (if l.length ≤ 256 ∧ OkW l then sumI l else 0) := by
 simp only [share_weight.f]
 by_cases c : (l.length : Int) > 256
 ·rw [if_pos c, if_neg Om]
 ·rw [if_neg c];have := weight_l0 l Om l [] rfl (by simp [OkW]) k hk;simp only [sumI, List.length_nil, Int.natCast_zero] at this;rw [this]
  by_cases c2 : OkW l
  ·rw [if_pos c2, if_pos ⟨by omega, c2⟩]
  ·rw [if_neg c2, if_neg (fun h => c2 h.2)]
def qs (t s : Int) (ws : List Int) : List Int := ws.map fun w => t * w / s
def rs (t s : Int) : Int → List Int → List S66
 | _, [] => []
 | i, w :: r => ⟨t * w % s, i⟩ :: rs t s (i + 1) r
theorem rs_len (t s : Int) : ∀ (l : List Int) (i : Int), (rs t s i l).length = l.length
 | [], i => rfl
 | w :: r, i => by simp [rs, rs_len t s r]
theorem rs_app (t s : Int) : ∀ (a b : List Int) (i : Int), rs t s i (a ++ b) = rs t s i a ++ rs t s (i + (a.length : Int)) b
 | [], b, i => by simp [rs]
 | w :: r, b, i => by
  simp only [List.cons_append, rs, rs_app t s r b, List.length_cons];have e : i + ((r.length + 1 : Nat) : Int) = i + 1 + (r.length : Int) := by omega
  rw [e]
theorem rs_mem (t s : Int) : ∀ (l : List Int) (i : Int) (p : S66), p ∈ rs t s i l ↔ ∃ j : Nat, ∃ w, l[j]? = some w ∧ p = ⟨t * w % s, i + (j : Int)⟩
 | [], i, p => by simp [rs]
 | w :: r, i, p => by
  simp only [rs, List.mem_cons, rs_mem t s r (i + 1) p];constructor
  ·rintro (rfl | ⟨j, w', h, rfl⟩)
   ·exact ⟨0, w, by simp, by simp⟩
   ·exact ⟨j + 1, w', by simpa using h, by simp; omega⟩
  ·rintro ⟨j, w', h, rfl⟩
   cases j with
   | zero => left; simp at h; subst h; simp
   | succ j => right; exact ⟨j, w', by simpa using h, by simp; omega⟩
theorem rs_ris (t s : Int) : ∀ (l : List Int) (i : Int), Ris (rs t s i l)
 | [], i => List.Pairwise.nil
 | w :: r, i => by
  refine List.pairwise_cons.2 ⟨fun p hp => ?_, rs_ris t s r (i + 1)⟩;obtain ⟨j, w', _, rfl⟩ := (rs_mem t s r (i + 1) p).1 hp;show i < _;show i < i + 1 + (j : Int);omega
def incs : List Int → List S66 → List Int
 | l, [] => l
 | l, p :: T => incs (l.set p.f1.toNat (wrap64 (rd l p.f1 + 1))) T
theorem incs_len : ∀ (T : List S66) (l : List Int), (incs l T).length = l.length
 | [], l => rfl
 | p :: T, l => by simp [incs, incs_len T]
theorem parts_l1 : ∀ (T T1 : List S66) (l : List Int) (k : Nat), (∀ p ∈ T, 0 ≤ p.f1 ∧ p.f1 < (l.length : Int)) → T1.length + T.length ≤ 4294967296 → T.length + 1 ≤ k → share_Parts.l1 k l (T1 ++ T) ((T1 ++ T).length : Int) (T1.length : Int) = some (incs l T)
 | [], T1, l, k, _, _, hk => by
  obtain ⟨k, rfl⟩ : ∃ m, k = m + 1 := ⟨k - 1, by omega⟩;simp only [share_Parts.l1];rw [if_neg (by simp)];rfl
 | p :: T, T1, l, k, h, hb, hk => by
  simp only [List.length_cons] at hb hk;obtain ⟨k, rfl⟩ : ∃ m, k = m + 1 := ⟨k - 1, by omega⟩;have hp := h p (by simp);have er : rd_T66 (T1 ++ p :: T) (T1.length : Int) = p := rdT_app T1 p T rfl;simp only [share_Parts.l1];rw [er, if_pos (by simp; omega), if_pos Om, if_pos (by simp; omega), if_pos hp.1, if_pos hp.2];have ih := parts_l1 T (T1 ++ [p]) (l.set p.f1.toNat (wrap64 (rd l p.f1 + 1))) k (fun q hq => by have := h q (by simp [hq]); simpa using this) (by simp; omega) Om;rw [w64' (n := (T1.length : Int) + 1) Om Om];have e1 : ((T1 ++ [p]).length : Int) = (T1.length : Int) + 1 := by simp
  rw [e1] at ih;simpa [incs] using ih
structure May (t : Int) (ws : List Int) : Prop where
 t0 : 0 ≤ t
 t1 : t ≤ 1099511627776
 len : ws.length ≤ 256
 ok : OkW ws
 pos : 0 < sumI ws
theorem May.mul {t : Int} {ws : List Int} (h : May t ws) {w : Int} (hw : w ∈ ws) : 0 ≤ t * w ∧ t * w ≤ 1152921504606846976 := by
 have h1 := h.ok w hw;refine ⟨Int.mul_nonneg h.t0 h1.1, ?_⟩;have : t * w ≤ 1099511627776 * 1048576 := Int.mul_le_mul h.t1 h1.2 h1.1 Om;omega
theorem May.q_bd {t : Int} {ws : List Int} (h : May t ws) {w : Int} (hw : w ∈ ws) : 0 ≤ t * w / sumI ws ∧ t * w / sumI ws ≤ t := by
 have h1 := h.mul hw;refine ⟨Int.ediv_nonneg h1.1 (by have := h.pos; omega), ?_⟩
 have h2 : w ≤ sumI ws := by
  have : ∀ (l : List Int), OkW l → w ∈ l → w ≤ sumI l := by
   intro l
   induction l with
   | nil => intro _ h; simp at h
   | cons x r ih =>
    intro ho hm;have hr := OkW.sum_bd (l := r) (fun y hy => ho y (by simp [hy]));have hx := ho x (by simp);rcases List.mem_cons.1 hm with rfl | hm
    ·simp only [sumI]; omega
    ·have := ih (fun y hy => ho y (by simp [hy])) hm;simp only [sumI]; omega
  exact this ws h.ok hw
 refine Int.ediv_le_of_le_mul h.pos ?_;exact Int.mul_le_mul_of_nonneg_left h2 h.t0
theorem qs_sum_bd {t : Int} {ws : List Int} (h : May t ws) : ∀ l : List Int, (∀ w ∈ l, w ∈ ws) → 0 ≤ sumI (qs t (sumI ws) l) ∧ sumI (qs t (sumI ws) l) ≤ l.length * 1099511627776
 | [], _ => by simp [qs, sumI]
 | w :: r, hm => by
  have ih := qs_sum_bd h r (fun y hy => hm y (by simp [hy]));have hq := h.q_bd (hm w (by simp));have := h.t1;simp only [qs, List.map_cons, sumI, List.length_cons] at ih ⊢;omega
def tail (k : Nat) (t s : Int) (ws : List Int) : Option (List Int) := (share_rest_47.f k (rs t s 0 ws) ()).bind fun t167 => (if 0 ≤ t - sumI (qs t s ws) then (if t - sumI (qs t s ws) ≤ ((rs t s 0 ws).length : Int) then ((some (t167.take (t - sumI (qs t s ws)).toNat : List (S66))).bind fun y168 => (share_Parts.l1 k (qs t s ws) y168 (y168.length : Int) 0)) else (none)) else (none))
theorem parts_l0 {t : Int} {ws : List Int} (h : May t ws) (r : List Int) (K : Nat) (hK : ∀ k, K ≤ k → tail k t (sumI ws) ws = some r) : ∀ (rest done : List Int), ws = done ++ rest → ∀ k, K + rest.length + 1 ≤ k →
  share_Parts.l0 k t (sumI ws) (t - sumI (qs t (sumI ws) done)) (qs t (sumI ws) done) (rs t (sumI ws) 0 done) ws (ws.length : Int) (done.length : Int) = some r
 | [], done, e, k, hk => by
  obtain ⟨k, rfl⟩ : ∃ m, k = m + 1 := ⟨k - 1, by omega⟩;have e' : done = ws := by rw [e]; simp
  subst e';simp only [share_Parts.l0];rw [if_neg Om];exact hK k (by simp at hk; omega)
 | w :: rest, done, e, k, hk => by
  obtain ⟨k, rfl⟩ : ∃ m, k = m + 1 := ⟨k - 1, by omega⟩;simp only [List.length_cons] at hk;have hlen : ws.length = done.length + (rest.length + 1) := by rw [e]; simp
  have hw : w ∈ ws := by rw [e]; simp
  have h256 := h.len;have hx : rd ws (done.length : Int) = w := by rw [rd_nat Om]; simp [e]
  have hm := h.mul hw;have hq := h.q_bd hw;have hp := h.pos;have hs := qs_sum_bd h done (fun y hy => by rw [e]; simp [hy]);have ht := h.t1;have ht0 := h.t0;have e1 : Int.tdiv (t * w) (sumI ws) = t * w / sumI ws := Int.tdiv_eq_ediv_of_nonneg hm.1;have e2 : Int.tmod (t * w) (sumI ws) = t * w % sumI ws := Int.tmod_eq_emod_of_nonneg hm.1;simp only [share_Parts.l0];rw [if_pos Om, if_pos Om, if_pos Om, if_neg Om, hx];simp only [Option.bind_some];rw [w64' (n := t * w) Om Om, e1, e2, w64' (n := t * w / sumI ws) Om Om];rw [if_pos (by simp [qs]; omega), if_pos (by simp [rs_len]; omega)];rw [w64' (n := (done.length : Int) + 1) Om Om, w64' (n := t - sumI (qs t (sumI ws) done) - t * w / sumI ws) Om Om];have ih := parts_l0 h r K hK rest (done ++ [w]) (by simp [e]) k Om;have a1 : sumI (qs t (sumI ws) (done ++ [w])) = sumI (qs t (sumI ws) done) + t * w / sumI ws := by simp [qs, sumI_app, sumI]
  have a2 : qs t (sumI ws) (done ++ [w]) = qs t (sumI ws) done ++ [t * w / sumI ws] := by simp [qs]
  have a3 : rs t (sumI ws) 0 (done ++ [w]) = rs t (sumI ws) 0 done ++ [⟨t * w % sumI ws, (done.length : Int)⟩] := by rw [rs_app]; simp [rs]
  have a4 : ((done ++ [w]).length : Int) = (done.length : Int) + 1 := by simp
  have a5 : t - (sumI (qs t (sumI ws) done) + t * w / sumI ws) = t - sumI (qs t (sumI ws) done) - t * w / sumI ws := by omega
  rw [a1, a2, a3, a4, a5] at ih;exact ih
theorem rest_sum (t s : Int) : ∀ (l : List Int) (i : Int), sumI ((rs t s i l).map (·.f0)) = t * sumI l - s * sumI (qs t s l)
 | [], i => by simp [rs, sumI, qs]
 | w :: r, i => by
  have ih := rest_sum t s r (i + 1);simp only [rs, List.map_cons, sumI, qs] at ih ⊢;rw [ih, Int.mul_add, Int.mul_add];have := Int.mul_ediv_add_emod (t * w) s;omega
def left (t : Int) (ws : List Int) : Int := t - sumI (qs t (sumI ws) ws)
theorem left_mul (t : Int) (ws : List Int) : sumI ws * left t ws = sumI ((rs t (sumI ws) 0 ws).map (·.f0)) := by
 rw [rest_sum, left, Int.mul_sub, Int.mul_comm t]
theorem rs_f0 {t : Int} {ws : List Int} (h : May t ws) {p : S66} {i : Int} (hp : p ∈ rs t (sumI ws) i ws) : 0 ≤ p.f0 ∧ p.f0 < sumI ws := by
 obtain ⟨j, w, _, rfl⟩ := (rs_mem t _ ws i p).1 hp;exact ⟨Int.emod_nonneg _ (by have := h.pos; omega), Int.emod_lt_of_pos _ h.pos⟩
theorem sum_ub (s : Int) : ∀ X : List S66, (∀ p ∈ X, p.f0 < s) → sumI (X.map (·.f0)) ≤ X.length * (s - 1)
 | [], _ => by simp [sumI]
 | p :: X, h => by
  have ih := sum_ub s X (fun q hq => h q (by simp [hq]));have := h p (by simp);simp only [List.map_cons, sumI, List.length_cons];have e : ((X.length + 1 : Nat) : Int) * (s - 1) = X.length * (s - 1) + (s - 1) := by rw [Int.natCast_add, Int.add_mul]; simp
  omega
theorem sum_lb : ∀ X : List S66, (∀ p ∈ X, 0 ≤ p.f0) → 0 ≤ sumI (X.map (·.f0))
 | [], _ => by simp [sumI]
 | p :: X, h => by
  have ih := sum_lb X (fun q hq => h q (by simp [hq]));have := h p (by simp);simp only [List.map_cons, sumI];omega
theorem lt_of_mul {s a b : Int} (hs : 0 < s) (h : s * a ≤ b * (s - 1)) (hb : 0 ≤ b) : a ≤ b ∧ (0 < b → a < b) := by
 have h1 : s * a ≤ s * b - b := by rw [Int.mul_sub, Int.mul_comm b s, Int.mul_one] at h; exact h
 constructor
 ·exact Int.le_of_mul_le_mul_left (by omega : s * a ≤ s * b) hs
 ·intro h0;exact Int.lt_of_mul_lt_mul_left (by omega : s * a < s * b) Om
theorem left_bd {t : Int} {ws : List Int} (h : May t ws) : 0 ≤ left t ws ∧ left t ws < (ws.length : Int) := by
 have e := left_mul t ws;have h1 := sum_lb _ (fun p (hp : p ∈ rs t (sumI ws) 0 ws) => (rs_f0 h hp).1);have h2 := sum_ub (sumI ws) _ (fun p (hp : p ∈ rs t (sumI ws) 0 ws) => (rs_f0 h hp).2);rw [rs_len] at h2;rw [← e] at h1 h2;have hp := h.pos;constructor
 ·exact Int.nonneg_of_mul_nonneg_right h1 hp
 ·have hl : 0 < (ws.length : Int) := by
   cases ws with
   | nil => simp [sumI] at hp
   | cons w r => simp
  exact (lt_of_mul hp h2 Om).2 hl
def IsQ (t : Int) (ws : List Int) (Q : List S66) : Prop := Q.Perm (rs t (sumI ws) 0 ws) ∧ Srt Q
theorem IsQ.at_ {t : Int} {ws : List Int} {Q : List S66} (h : IsQ t ws Q) {p : S66} (hp : p ∈ Q) : ∃ j : Nat, ∃ w, ws[j]? = some w ∧ p = ⟨t * w % sumI ws, (j : Int)⟩ := by
 obtain ⟨j, w, h1, h2⟩ := (rs_mem t _ ws 0 p).1 (h.1.mem_iff.1 hp);exact ⟨j, w, h1, by rw [h2]; simp⟩
theorem parts_eq {t : Int} {ws : List Int} (h : May t ws) : ∃ Q, IsQ t ws Q ∧ ∃ K, ∀ k, K ≤ k → share_Parts.f k t ws = some (incs (qs t (sumI ws) ws) (Q.take (left t ws).toNat)) := by
 have h256 := h.len;obtain ⟨Q, q1, q2, K, hK⟩ := sort_eq (rs t (sumI ws) 0 ws) (rs_ris _ _ _ _) (by rw [rs_len]; omega);have hQ : IsQ t ws Q := ⟨q1, q2⟩;have hl := left_bd h;have hlen : Q.length = ws.length := by rw [q1.length_eq, rs_len]
 refine ⟨Q, hQ, K + 300 + ws.length + 1, fun k hk => ?_⟩;simp only [share_Parts.f];rw [weight_eq ws Om, if_pos ⟨h.len, h.ok⟩];simp only [Option.bind_some]
 have := parts_l0 h (incs (qs t (sumI ws) ws) (Q.take (left t ws).toNat)) (K + 300) (fun k hk => by
  unfold tail;rw [hK k Om ()];simp only [Option.bind_some];have hl1 : 0 ≤ t - sumI (qs t (sumI ws) ws) := hl.1;have hl2 : t - sumI (qs t (sumI ws) ws) ≤ ((rs t (sumI ws) 0 ws).length : Int) := by rw [rs_len]; have := hl.2; unfold left at this; omega
  rw [if_pos hl1, if_pos hl2]
  have := parts_l1 (Q.take (left t ws).toNat) [] (qs t (sumI ws) ws) k (fun p hp => by
   obtain ⟨j, w, hj, rfl⟩ := hQ.at_ (List.mem_of_mem_take hp);have := (gEi.1 hj).1;simp [qs]
   omega) (by simp; omega) (by simp; omega)
  simpa [left] using this) ws [] rfl k Om
 simpa [qs, rs, sumI] using this
end Go.Ai.Lf
namespace Go.Ai.Lf
open Go.RowKit
theorem rd_set {l : List Int} {i j : Int} {v : Int} (hi : 0 ≤ i) (hi' : i < (l.length : Int)) (hj : 0 ≤ j) : rd (l.set i.toNat v) j = if i = j then v else rd l j := by
 unfold rd;simp only [List.getD_eq_getElem?_getD, List.getElem?_set]
 by_cases c : i = j
 ·subst c;rw [if_pos rfl, if_pos rfl, if_pos Om];rfl
 ·rw [if_neg c, if_neg Om]
structure Inv (n : Nat) (R : List Int) (T1 T2 : List S66) : Prop where
 len : R.length = n
 at2 : ∀ p ∈ T2, 0 ≤ p.f1 ∧ p.f1 < (n : Int) ∧ rd R p.f1 = p.f0 ∧ 0 ≤ p.f0
 at1 : ∀ p ∈ T1, rd R p.f1 = -1
 all : ∀ i : Nat, i < n → ∃ p ∈ T1 ++ T2, p.f1 = (i : Int)
 srt : Srt T2
 nd : (T1 ++ T2).Pairwise fun a b => a.f1 ≠ b.f1
end Go.Ai.Lf
namespace Go.Ai.Lf
open Go.RowKit
def got (T : List S66) (i : Nat) : Int := if ∃ p ∈ T, p.f1 = (i : Int) then 1 else 0
theorem got_01 (T : List S66) (i : Nat) : got T i = 0 ∨ got T i = 1 := by
 unfold got;split
 ·exact Or.inr rfl
 ·exact Or.inl rfl
theorem incs_rd : ∀ (T : List S66) (l : List Int) (i : Nat), (∀ p ∈ T, 0 ≤ p.f1 ∧ p.f1 < (l.length : Int)) → (T.Pairwise fun a b => a.f1 ≠ b.f1) → (∀ x ∈ l, -1152921504606846976 ≤ x ∧ x ≤ 1152921504606846976) → i < l.length → rd (incs l T) i = rd l i + got T i
 | [], l, i, _, _, _, _ => by simp [incs, got]
 | p :: T, l, i, h, hd, hb, hi => by
  have hp := h p (by simp);obtain ⟨d1, d2⟩ := List.pairwise_cons.1 hd
  have hv : -1152921504606846976 ≤ rd l p.f1 ∧ rd l p.f1 ≤ 1152921504606846976 := by
   rw [rd_at hp.1 hp.2];exact hb _ (List.getElem_mem _)
  simp only [incs]
  have gen : ∀ (T : List S66) (l : List Int), (∀ q ∈ T, 0 ≤ q.f1 ∧ q.f1 < (l.length : Int)) → (∀ q ∈ T, q.f1 ≠ (i : Int)) → i < l.length → rd (incs l T) i = rd l i := by
   intro T
   induction T with
   | nil => intro l _ _ _; rfl
   | cons q T ih =>
    intro l hq hn hl;have hq0 := hq q (by simp);simp only [incs];rw [ih _ (fun r hr => by have := hq r (by simp [hr]); simpa using this) (fun r hr => hn r (by simp [hr])) (by simpa using hl), rd_set hq0.1 hq0.2 Om, if_neg (hn q (by simp))]
  by_cases c : p.f1 = (i : Int)
  ·rw [gen T _ (fun q hq => by have := h q (by simp [hq]); simpa using this) (fun q hq e => d1 q hq Om) (by simpa using hi), rd_set hp.1 hp.2 Om, if_pos c, w64' Om Om, c];unfold got;rw [if_pos ⟨p, by simp, c⟩]
  ·have hne : ∀ x ∈ l.set p.f1.toNat (wrap64 (rd l p.f1 + 1)), -1152921504606846977 ≤ x ∧ x ≤ 1152921504606846977 := by
    intro x hx;rcases List.mem_or_eq_of_mem_set hx with hx | rfl
    ·have := hb x hx; omega
    ·rw [w64' Om Om]; omega
   have go : ∀ (T : List S66) (l l' : List Int), l.length = l'.length → rd l i = rd l' i → (∀ q ∈ T, 0 ≤ q.f1 ∧ q.f1 < (l.length : Int)) → i < l.length → (T.Pairwise fun a b => a.f1 ≠ b.f1) → rd (incs l T) i = rd (incs l' T) i := by
    intro T
    induction T with
    | nil => intro l l' _ e _ _ _; exact e
    | cons q T ih =>
     intro l l' hl e hq hi2 hd2;have hq0 := hq q (by simp);obtain ⟨e1, e2⟩ := List.pairwise_cons.1 hd2;simp only [incs]
     by_cases cq : q.f1 = (i : Int)
     ·have e3 : rd l q.f1 = rd l' q.f1 := by rw [cq]; exact e
      refine ih _ _ (by simpa using hl) ?_ (fun r hr => by have := hq r (by simp [hr]); simpa using this) (by simpa using hi2) e2;rw [rd_set hq0.1 hq0.2 Om, rd_set hq0.1 Om Om, if_pos cq, if_pos cq, e3]
     ·refine ih _ _ (by simpa using hl) ?_ (fun r hr => by have := hq r (by simp [hr]); simpa using this) (by simpa using hi2) e2;rw [rd_set hq0.1 hq0.2 Om, rd_set hq0.1 Om Om, if_neg cq, if_neg cq, e]
   rw [go T _ l (by simp) (by rw [rd_set hp.1 hp.2 Om, if_neg c]) (fun q hq => by have := h q (by simp [hq]); simpa using this) (by simpa using hi) d2, incs_rd T l i (fun q hq => h q (by simp [hq])) d2 hb hi]
   have : got (p :: T) i = got T i := by
    unfold got
    by_cases g : ∃ q ∈ T, q.f1 = (i : Int)
    ·obtain ⟨q, h1, h2⟩ := g;rw [if_pos ⟨q, by simp [h1], h2⟩, if_pos ⟨q, h1, h2⟩]
    ·rw [if_neg g, if_neg (fun ⟨q, h1, h2⟩ => by
      rcases List.mem_cons.1 h1 with rfl | h1
      ·exact c h2
      ·exact g ⟨q, h1, h2⟩)]
   rw [this]
theorem incs_sum : ∀ (T : List S66) (l : List Int), (∀ p ∈ T, 0 ≤ p.f1 ∧ p.f1 < (l.length : Int)) → (T.Pairwise fun a b => a.f1 ≠ b.f1) → (∀ x ∈ l, -1152921504606846976 ≤ x ∧ x ≤ 1152921504606846976) → sumI (incs l T) = sumI l + T.length := by
 have set_sum : ∀ (l : List Int) (i : Nat) (v : Int), i < l.length → sumI (l.set i v) = sumI l - rd l i + v := by
  intro l
  induction l with
  | nil => intro i v h; simp at h
  | cons x l ih =>
   intro i v h
   cases i with
   | zero => simp [sumI, rd]; omega
   | succ i =>
    have := ih i v (by simpa using h);simp only [List.set_cons_succ, sumI];rw [this]
    have e : rd (x :: l) ((i + 1 : Nat) : Int) = rd l (i : Int) := by
     unfold rd;simp [List.getD_eq_getElem?_getD]
    rw [e];omega
 suffices H : ∀ (T : List S66) (l l0 : List Int), l.length = l0.length → (∀ p ∈ T, 0 ≤ p.f1 ∧ p.f1 < (l.length : Int)) → (T.Pairwise fun a b => a.f1 ≠ b.f1) → (∀ x ∈ l0, -1152921504606846976 ≤ x ∧ x ≤ 1152921504606846976) → (∀ p ∈ T, rd l p.f1 = rd l0 p.f1) → sumI (incs l T) = sumI l + T.length from
  fun T l h1 h2 h3 => H T l l rfl h1 h2 h3 (fun _ _ => rfl)
 intro T
 induction T with
 | nil => intro l l0 _ _ _ _ _; simp [incs]
 | cons p T ih =>
  intro l l0 hl h hd hb he;have hp := h p (by simp);obtain ⟨d1, d2⟩ := List.pairwise_cons.1 hd
  have hv : -1152921504606846976 ≤ rd l0 p.f1 ∧ rd l0 p.f1 ≤ 1152921504606846976 := by
   rw [rd_at hp.1 Om];exact hb _ (List.getElem_mem _)
  have hv2 := he p (by simp);simp only [incs]
  rw [ih (l.set p.f1.toNat (wrap64 (rd l p.f1 + 1))) l0 (by simpa using hl) (fun q hq => by have := h q (by simp [hq]); simpa using this) d2 hb (fun q hq => by
   have hq0 := h q (by simp [hq]);rw [rd_set hp.1 hp.2 hq0.1, if_neg (d1 q hq)]
   exact he q (by simp [hq])), set_sum l p.f1.toNat _ Om, w64' Om Om]
  have e : ((p.f1.toNat : Nat) : Int) = p.f1 := by omega
  rw [e];simp only [List.length_cons];omega
def partsL (t : Int) (ws : List Int) (Q : List S66) : List Int := incs (qs t (sumI ws) ws) (Q.take (left t ws).toNat)
theorem isQ_nd {t : Int} {ws : List Int} {Q : List S66} (hQ : IsQ t ws Q) : Q.Pairwise fun a b => a.f1 ≠ b.f1 := by
 have hr : (rs t (sumI ws) 0 ws).Pairwise fun a b => a.f1 ≠ b.f1 := (rs_ris t (sumI ws) ws 0).imp (fun h => by omega)
 exact hQ.1.symm.pairwise hr (fun h => Ne.symm h)
theorem partsL_len (t : Int) (ws : List Int) (Q : List S66) : (partsL t ws Q).length = ws.length := by unfold partsL; rw [incs_len]; simp [qs]
theorem qs_bd {t : Int} {ws : List Int} (h : May t ws) : ∀ x ∈ qs t (sumI ws) ws, -1152921504606846976 ≤ x ∧ x ≤ 1152921504606846976 := by
 intro x hx;obtain ⟨w, hw, rfl⟩ := List.mem_map.1 hx;have := h.q_bd hw;have := h.t1;omega
theorem isQ_at {t : Int} {ws : List Int} {Q : List S66} (hQ : IsQ t ws Q) (n : Nat) : ∀ p ∈ Q.take n, 0 ≤ p.f1 ∧ p.f1 < ((qs t (sumI ws) ws).length : Int) := by
 intro p hp;obtain ⟨j, w, hj, rfl⟩ := hQ.at_ (List.mem_of_mem_take hp);have := (gEi.1 hj).1;simp [qs];omega
theorem partsL_rd {t : Int} {ws : List Int} {Q : List S66} (h : May t ws) (hQ : IsQ t ws Q) {i : Nat} (hi : i < ws.length) : rd (partsL t ws Q) i = t * ws[i] / sumI ws + got (Q.take (left t ws).toNat) i := by
 unfold partsL;rw [incs_rd _ _ i (isQ_at hQ _) ((isQ_nd hQ).sublist (List.take_sublist _ _)) (qs_bd h) (by simp [qs, hi])];rw [rd_nat (by simp [qs, hi])];simp [qs]
theorem partsL_sum {t : Int} {ws : List Int} {Q : List S66} (h : May t ws) (hQ : IsQ t ws Q) : sumI (partsL t ws Q) = t := by
 unfold partsL;have hl := left_bd h;have hlen : Q.length = ws.length := by rw [hQ.1.length_eq, rs_len]
 rw [incs_sum _ _ (isQ_at hQ _) ((isQ_nd hQ).sublist (List.take_sublist _ _)) (qs_bd h), List.length_take];unfold left at *;omega
end Go.Ai.Lf
end
