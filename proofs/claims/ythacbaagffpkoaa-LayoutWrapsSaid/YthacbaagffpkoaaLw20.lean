/-
LayoutWraps, part 20 of 48: AiTy.
-/
import Derived.Test.YthacbaagffpkoaaProg
import Derived.Test.YthacbaagffpkoaaLw19
set_option linter.unusedVariables false
set_option linter.unusedSimpArgs false
namespace Go.Ai
open Go.Proofs
theorem el22 : elemAt Try.prog 22 = some (33, 5) := by kernel_rfl
theorem kd33 : kindAt Try.prog 33 = some (true, 5) := by kernel_rfl
theorem fa33_0 : fieldAt Try.prog 33 0 = some 0 := by kernel_rfl
theorem kd31 : kindAt Try.prog 31 = some (true, 4) := by kernel_rfl
theorem fa33_1 : fieldAt Try.prog 33 1 = some 4 := by kernel_rfl
theorem kd3 : kindAt Try.prog 3 = some (false, 1) := by kernel_rfl
theorem zb37 : zeroB Try.prog 37 = some (V.agg [S.i IntKind.i64 (Int.ofNat 0), S.i IntKind.i64 (Int.ofNat 0), S.c FloatKind.f64 0 0, S.c FloatKind.f64 0 0, S.sl0]) := by kernel_rfl
theorem kd37 : kindAt Try.prog 37 = some (true, 5) := by kernel_rfl
theorem sz37 : sizeB Try.prog 37 = some 5 := by kernel_rfl
theorem fa37_1 : fieldAt Try.prog 37 1 = some 2 := by kernel_rfl
theorem kd34 : kindAt Try.prog 34 = some (false, 1) := by kernel_rfl
theorem fa46_3 : fieldAt Try.prog 46 3 = some 3 := by kernel_rfl
theorem el26 : elemAt Try.prog 26 = some (3, 1) := by kernel_rfl
theorem ze26 : zeroB Try.prog 3 = some (V.one (S.i IntKind.i64 (Int.ofNat 0))) := by kernel_rfl
theorem zb31 : zeroB Try.prog 31 = some (V.agg [S.i IntKind.i64 (Int.ofNat 0), S.i IntKind.i64 (Int.ofNat 0), S.sl0, S.sl0]) := by kernel_rfl
theorem sz31 : sizeB Try.prog 31 = some 4 := by kernel_rfl
theorem fa46_0 : fieldAt Try.prog 46 0 = some 0 := by kernel_rfl
theorem kd26 : kindAt Try.prog 26 = some (false, 1) := by kernel_rfl
theorem ap26_26 : appAt Try.prog 26 26 = some (3, 1, 8) := by kernel_rfl
theorem fa31_2 : fieldAt Try.prog 31 2 = some 3 := by kernel_rfl
theorem kd29 : kindAt Try.prog 29 = some (false, 1) := by kernel_rfl
theorem el29 : elemAt Try.prog 29 = some (31, 4) := by kernel_rfl
theorem ze29 : zeroB Try.prog 31 = some (V.agg [S.i IntKind.i64 (Int.ofNat 0), S.i IntKind.i64 (Int.ofNat 0), S.sl0, S.sl0]) := by kernel_rfl
theorem ap29_29 : appAt Try.prog 29 29 = some (31, 4, 64) := by kernel_rfl
theorem sz29 : sizeB Try.prog 29 = some 1 := by kernel_rfl
theorem fa37_3 : fieldAt Try.prog 37 3 = some 4 := by kernel_rfl
theorem kd35 : kindAt Try.prog 35 = some (false, 1) := by kernel_rfl
theorem el35 : elemAt Try.prog 35 = some (37, 5) := by kernel_rfl
theorem fa37_2 : fieldAt Try.prog 37 2 = some 3 := by kernel_rfl
theorem fa37_0 : fieldAt Try.prog 37 0 = some 0 := by kernel_rfl
theorem kd25 : kindAt Try.prog 25 = some (true, 2) := by kernel_rfl
theorem fa31_0 : fieldAt Try.prog 31 0 = some 0 := by kernel_rfl
theorem zb25 : zeroB Try.prog 25 = some (V.agg [S.i IntKind.i64 (Int.ofNat 0), S.i IntKind.i64 (Int.ofNat 0)]) := by kernel_rfl
theorem fa31_1 : fieldAt Try.prog 31 1 = some 2 := by kernel_rfl
theorem fa28_0 : fieldAt Try.prog 28 0 = some 0 := by kernel_rfl
theorem sz3 : sizeB Try.prog 3 = some 1 := by kernel_rfl
theorem zb75 : zeroB Try.prog 75 = some (V.agg [S.p0, S.i IntKind.i64 (Int.ofNat 0), S.i IntKind.i64 (Int.ofNat 0), S.i IntKind.i64 (Int.ofNat 0)]) := by kernel_rfl
theorem zb28 : zeroB Try.prog 28 = some (V.agg [S.sl0]) := by kernel_rfl
theorem kd28 : kindAt Try.prog 28 = some (true, 1) := by kernel_rfl
theorem sz28 : sizeB Try.prog 28 = some 1 := by kernel_rfl
theorem sz26 : sizeB Try.prog 26 = some 1 := by kernel_rfl
theorem fa72_0 : fieldAt Try.prog 72 0 = some 0 := by kernel_rfl
theorem kd70 : kindAt Try.prog 70 = some (false, 1) := by kernel_rfl
theorem kd75 : kindAt Try.prog 75 = some (true, 4) := by kernel_rfl
theorem zb83 : zeroB Try.prog 83 = some (V.agg [S.p0, S.i IntKind.i64 (Int.ofNat 0), S.i IntKind.i64 (Int.ofNat 0), S.i IntKind.i64 (Int.ofNat 0), S.i IntKind.i64 (Int.ofNat 0)]) := by kernel_rfl
theorem kd83 : kindAt Try.prog 83 = some (true, 5) := by kernel_rfl
theorem sz83 : sizeB Try.prog 83 = some 5 := by kernel_rfl
theorem fa83_2 : fieldAt Try.prog 83 2 = some 2 := by kernel_rfl
theorem fa75_0 : fieldAt Try.prog 75 0 = some 0 := by kernel_rfl
theorem kd68 : kindAt Try.prog 68 = some (false, 1) := by kernel_rfl
theorem fa83_1 : fieldAt Try.prog 83 1 = some 1 := by kernel_rfl
theorem fa75_2 : fieldAt Try.prog 75 2 = some 2 := by kernel_rfl
theorem fa75_3 : fieldAt Try.prog 75 3 = some 3 := by kernel_rfl
theorem fa75_1 : fieldAt Try.prog 75 1 = some 1 := by kernel_rfl
theorem fa83_3 : fieldAt Try.prog 83 3 = some 3 := by kernel_rfl
theorem fa83_4 : fieldAt Try.prog 83 4 = some 4 := by kernel_rfl
theorem fa83_0 : fieldAt Try.prog 83 0 = some 0 := by kernel_rfl
theorem fo100_0 : fieldOf Try.prog 100 0 = some (false, 0, 1) := by kernel_rfl
theorem fo100_1 : fieldOf Try.prog 100 1 = some (false, 1, 1) := by kernel_rfl
theorem ze35 : zeroB Try.prog 37 = some (V.agg [S.i IntKind.i64 (Int.ofNat 0), S.i IntKind.i64 (Int.ofNat 0), S.c FloatKind.f64 0 0, S.c FloatKind.f64 0 0, S.sl0]) := by kernel_rfl
theorem ap35_35 : appAt Try.prog 35 35 = some (37, 5, 72) := by kernel_rfl
theorem sz34 : sizeB Try.prog 34 = some 1 := by kernel_rfl
theorem el107 : elemAt Try.prog 107 = some (109, 5) := by kernel_rfl
theorem ze107 : zeroB Try.prog 109 = some (V.agg [S.i IntKind.i64 (Int.ofNat 0), S.i IntKind.i64 (Int.ofNat 0), S.i IntKind.i64 (Int.ofNat 0), S.i IntKind.i64 (Int.ofNat 0), S.i IntKind.i64 (Int.ofNat 0)]) := by kernel_rfl
theorem ap107_107 : appAt Try.prog 107 107 = some (109, 5, 40) := by kernel_rfl
theorem zb115 : zeroB Try.prog 115 = some (V.agg [S.i IntKind.i64 (Int.ofNat 0), S.sl0, S.sl0, S.sl0, S.i IntKind.i64 (Int.ofNat 0)]) := by kernel_rfl
theorem el111 : elemAt Try.prog 111 = some (113, 1) := by kernel_rfl
theorem ze111 : zeroB Try.prog 113 = some (V.one S.p0) := by kernel_rfl
theorem ap111_111 : appAt Try.prog 111 111 = some (113, 1, 8) := by kernel_rfl
theorem fa115_4 : fieldAt Try.prog 115 4 = some 4 := by kernel_rfl
theorem kd113 : kindAt Try.prog 113 = some (false, 1) := by kernel_rfl
theorem fa115_1 : fieldAt Try.prog 115 1 = some 1 := by kernel_rfl
theorem kd107 : kindAt Try.prog 107 = some (false, 1) := by kernel_rfl
theorem fa115_0 : fieldAt Try.prog 115 0 = some 0 := by kernel_rfl
theorem fa115_2 : fieldAt Try.prog 115 2 = some 2 := by kernel_rfl
theorem fa115_3 : fieldAt Try.prog 115 3 = some 3 := by kernel_rfl
theorem zb121 : zeroB Try.prog 121 = some (V.agg [S.i IntKind.i64 (Int.ofNat 0), S.i IntKind.i64 (Int.ofNat 0)]) := by kernel_rfl
theorem kd121 : kindAt Try.prog 121 = some (true, 2) := by kernel_rfl
theorem sz121 : sizeB Try.prog 121 = some 2 := by kernel_rfl
theorem fa121_0 : fieldAt Try.prog 121 0 = some 0 := by kernel_rfl
theorem zb100 : zeroB Try.prog 100 = some (V.agg [S.i IntKind.i64 (Int.ofNat 0), S.i IntKind.i64 (Int.ofNat 0), S.i IntKind.i64 (Int.ofNat 0), S.b false]) := by kernel_rfl
theorem kd100 : kindAt Try.prog 100 = some (true, 4) := by kernel_rfl
theorem sz100 : sizeB Try.prog 100 = some 4 := by kernel_rfl
theorem zb109 : zeroB Try.prog 109 = some (V.agg [S.i IntKind.i64 (Int.ofNat 0), S.i IntKind.i64 (Int.ofNat 0), S.i IntKind.i64 (Int.ofNat 0), S.i IntKind.i64 (Int.ofNat 0), S.i IntKind.i64 (Int.ofNat 0)]) := by kernel_rfl
theorem kd109 : kindAt Try.prog 109 = some (true, 5) := by kernel_rfl
theorem sz109 : sizeB Try.prog 109 = some 5 := by kernel_rfl
theorem fo121_0 : fieldOf Try.prog 121 0 = some (false, 0, 1) := by kernel_rfl
theorem zb130 : zeroB Try.prog 130 = some (V.agg [S.sl0, S.i IntKind.i64 (Int.ofNat 0), S.i IntKind.i64 (Int.ofNat 0), S.b false, S.sl0, S.sl0]) := by kernel_rfl
theorem fa130_4 : fieldAt Try.prog 130 4 = some 4 := by kernel_rfl
theorem fa109_2 : fieldAt Try.prog 109 2 = some 2 := by kernel_rfl
theorem fa130_0 : fieldAt Try.prog 130 0 = some 0 := by kernel_rfl
theorem mk128 : makeAt Try.prog 128 = some (4, 1, 1, [S.b false]) := by kernel_rfl
theorem fa130_5 : fieldAt Try.prog 130 5 = some 5 := by kernel_rfl
theorem kd128 : kindAt Try.prog 128 = some (false, 1) := by kernel_rfl
theorem sz128 : sizeB Try.prog 128 = some 1 := by kernel_rfl
theorem fa130_1 : fieldAt Try.prog 130 1 = some 1 := by kernel_rfl
theorem fa130_2 : fieldAt Try.prog 130 2 = some 2 := by kernel_rfl
theorem fa130_3 : fieldAt Try.prog 130 3 = some 3 := by kernel_rfl
theorem kd4 : kindAt Try.prog 4 = some (false, 1) := by kernel_rfl
theorem sz4 : sizeB Try.prog 4 = some 1 := by kernel_rfl
theorem fa109_0 : fieldAt Try.prog 109 0 = some 0 := by kernel_rfl
theorem el128 : elemAt Try.prog 128 = some (4, 1) := by kernel_rfl
theorem fa109_1 : fieldAt Try.prog 109 1 = some 1 := by kernel_rfl
theorem fa109_3 : fieldAt Try.prog 109 3 = some 3 := by kernel_rfl
theorem fa109_4 : fieldAt Try.prog 109 4 = some 4 := by kernel_rfl
theorem zb141 : zeroB Try.prog 141 = some (V.agg [S.i IntKind.i64 (Int.ofNat 0), S.i IntKind.i64 (Int.ofNat 0)]) := by kernel_rfl
theorem el139 : elemAt Try.prog 139 = some (141, 2) := by kernel_rfl
theorem ze139 : zeroB Try.prog 141 = some (V.agg [S.i IntKind.i64 (Int.ofNat 0), S.i IntKind.i64 (Int.ofNat 0)]) := by kernel_rfl
theorem ap139_139 : appAt Try.prog 139 139 = some (141, 2, 16) := by kernel_rfl
theorem kd141 : kindAt Try.prog 141 = some (true, 2) := by kernel_rfl
theorem sz141 : sizeB Try.prog 141 = some 2 := by kernel_rfl
theorem fa141_1 : fieldAt Try.prog 141 1 = some 1 := by kernel_rfl
theorem fa141_0 : fieldAt Try.prog 141 0 = some 0 := by kernel_rfl
theorem IX22 {h : H} {b o len cap sz j : Nat} {ex : Bool} {k : IntKind} (hj : j < len) : doIndexW Try.prog h 22 (some (.one (.sl b o len cap sz ex))) (some (.one (.i k (j : Int)))) = some (.val (.one (.p b (o + j * 5))) h) := ixN el22 hj
theorem LD33 {h : H} {b o : Nat} : doLoad Try.prog h 33 (some (.one (.p b o))) = aggR h (h.row b o 5) := ldA kd33
theorem FA33_0 {h : H} {b o : Nat} : doFieldAddr Try.prog h 33 0 (some (.one (.p b o))) = some (.val (.one (.p b (o + 0))) h) := fa_p fa33_0
theorem LD31 {h : H} {b o : Nat} : doLoad Try.prog h 31 (some (.one (.p b o))) = aggR h (h.row b o 4) := ldA kd31
theorem FA33_1 {h : H} {b o : Nat} : doFieldAddr Try.prog h 33 1 (some (.one (.p b o))) = some (.val (.one (.p b (o + 4))) h) := fa_p fa33_1
theorem LD3 {h : H} {b o : Nat} : doLoad Try.prog h 3 (some (.one (.p b o))) = oneR h (h.row b o 1) := ld1 kd3
theorem LD37 {h : H} {b o : Nat} : doLoad Try.prog h 37 (some (.one (.p b o))) = aggR h (h.row b o 5) := ldA kd37
theorem FA37_1 {h : H} {b o : Nat} : doFieldAddr Try.prog h 37 1 (some (.one (.p b o))) = some (.val (.one (.p b (o + 2))) h) := fa_p fa37_1
theorem LD34 {h : H} {b o : Nat} : doLoad Try.prog h 34 (some (.one (.p b o))) = oneR h (h.row b o 1) := ld1 kd34
theorem FA46_3 {h : H} {b o : Nat} : doFieldAddr Try.prog h 46 3 (some (.one (.p b o))) = some (.val (.one (.p b (o + 3))) h) := fa_p fa46_3
theorem IX26 {h : H} {b o len cap sz j : Nat} {ex : Bool} {k : IntKind} (hj : j < len) : doIndexW Try.prog h 26 (some (.one (.sl b o len cap sz ex))) (some (.one (.i k (j : Int)))) = some (.val (.one (.p b (o + j * 1))) h) := ixN el26 hj
theorem FA46_0 {h : H} {b o : Nat} : doFieldAddr Try.prog h 46 0 (some (.one (.p b o))) = some (.val (.one (.p b (o + 0))) h) := fa_p fa46_0
theorem LD26 {h : H} {b o : Nat} : doLoad Try.prog h 26 (some (.one (.p b o))) = oneR h (h.row b o 1) := ld1 kd26
theorem FA31_2 {h : H} {b o : Nat} : doFieldAddr Try.prog h 31 2 (some (.one (.p b o))) = some (.val (.one (.p b (o + 3))) h) := fa_p fa31_2
theorem LD29 {h : H} {b o : Nat} : doLoad Try.prog h 29 (some (.one (.p b o))) = oneR h (h.row b o 1) := ld1 kd29
theorem IX29 {h : H} {b o len cap sz j : Nat} {ex : Bool} {k : IntKind} (hj : j < len) : doIndexW Try.prog h 29 (some (.one (.sl b o len cap sz ex))) (some (.one (.i k (j : Int)))) = some (.val (.one (.p b (o + j * 4))) h) := ixN el29 hj
theorem FA37_3 {h : H} {b o : Nat} : doFieldAddr Try.prog h 37 3 (some (.one (.p b o))) = some (.val (.one (.p b (o + 4))) h) := fa_p fa37_3
theorem LD35 {h : H} {b o : Nat} : doLoad Try.prog h 35 (some (.one (.p b o))) = oneR h (h.row b o 1) := ld1 kd35
theorem IX35 {h : H} {b o len cap sz j : Nat} {ex : Bool} {k : IntKind} (hj : j < len) : doIndexW Try.prog h 35 (some (.one (.sl b o len cap sz ex))) (some (.one (.i k (j : Int)))) = some (.val (.one (.p b (o + j * 5))) h) := ixN el35 hj
theorem FA37_2 {h : H} {b o : Nat} : doFieldAddr Try.prog h 37 2 (some (.one (.p b o))) = some (.val (.one (.p b (o + 3))) h) := fa_p fa37_2
theorem FA37_0 {h : H} {b o : Nat} : doFieldAddr Try.prog h 37 0 (some (.one (.p b o))) = some (.val (.one (.p b (o + 0))) h) := fa_p fa37_0
theorem LD25 {h : H} {b o : Nat} : doLoad Try.prog h 25 (some (.one (.p b o))) = aggR h (h.row b o 2) := ldA kd25
theorem FA31_0 {h : H} {b o : Nat} : doFieldAddr Try.prog h 31 0 (some (.one (.p b o))) = some (.val (.one (.p b (o + 0))) h) := fa_p fa31_0
theorem FA31_1 {h : H} {b o : Nat} : doFieldAddr Try.prog h 31 1 (some (.one (.p b o))) = some (.val (.one (.p b (o + 2))) h) := fa_p fa31_1
theorem FA28_0 {h : H} {b o : Nat} : doFieldAddr Try.prog h 28 0 (some (.one (.p b o))) = some (.val (.one (.p b (o + 0))) h) := fa_p fa28_0
theorem LD28 {h : H} {b o : Nat} : doLoad Try.prog h 28 (some (.one (.p b o))) = aggR h (h.row b o 1) := ldA kd28
theorem FA72_0 {h : H} {b o : Nat} : doFieldAddr Try.prog h 72 0 (some (.one (.p b o))) = some (.val (.one (.p b (o + 0))) h) := fa_p fa72_0
theorem LD70 {h : H} {b o : Nat} : doLoad Try.prog h 70 (some (.one (.p b o))) = oneR h (h.row b o 1) := ld1 kd70
theorem LD75 {h : H} {b o : Nat} : doLoad Try.prog h 75 (some (.one (.p b o))) = aggR h (h.row b o 4) := ldA kd75
theorem LD83 {h : H} {b o : Nat} : doLoad Try.prog h 83 (some (.one (.p b o))) = aggR h (h.row b o 5) := ldA kd83
theorem FA83_2 {h : H} {b o : Nat} : doFieldAddr Try.prog h 83 2 (some (.one (.p b o))) = some (.val (.one (.p b (o + 2))) h) := fa_p fa83_2
theorem FA75_0 {h : H} {b o : Nat} : doFieldAddr Try.prog h 75 0 (some (.one (.p b o))) = some (.val (.one (.p b (o + 0))) h) := fa_p fa75_0
theorem LD68 {h : H} {b o : Nat} : doLoad Try.prog h 68 (some (.one (.p b o))) = oneR h (h.row b o 1) := ld1 kd68
theorem FA83_1 {h : H} {b o : Nat} : doFieldAddr Try.prog h 83 1 (some (.one (.p b o))) = some (.val (.one (.p b (o + 1))) h) := fa_p fa83_1
theorem FA75_2 {h : H} {b o : Nat} : doFieldAddr Try.prog h 75 2 (some (.one (.p b o))) = some (.val (.one (.p b (o + 2))) h) := fa_p fa75_2
theorem FA75_3 {h : H} {b o : Nat} : doFieldAddr Try.prog h 75 3 (some (.one (.p b o))) = some (.val (.one (.p b (o + 3))) h) := fa_p fa75_3
theorem FA75_1 {h : H} {b o : Nat} : doFieldAddr Try.prog h 75 1 (some (.one (.p b o))) = some (.val (.one (.p b (o + 1))) h) := fa_p fa75_1
theorem FA83_3 {h : H} {b o : Nat} : doFieldAddr Try.prog h 83 3 (some (.one (.p b o))) = some (.val (.one (.p b (o + 3))) h) := fa_p fa83_3
theorem FA83_4 {h : H} {b o : Nat} : doFieldAddr Try.prog h 83 4 (some (.one (.p b o))) = some (.val (.one (.p b (o + 4))) h) := fa_p fa83_4
theorem FA83_0 {h : H} {b o : Nat} : doFieldAddr Try.prog h 83 0 (some (.one (.p b o))) = some (.val (.one (.p b (o + 0))) h) := fa_p fa83_0
theorem IX107 {h : H} {b o len cap sz j : Nat} {ex : Bool} {k : IntKind} (hj : j < len) : doIndexW Try.prog h 107 (some (.one (.sl b o len cap sz ex))) (some (.one (.i k (j : Int)))) = some (.val (.one (.p b (o + j * 5))) h) := ixN el107 hj
theorem IX111 {h : H} {b o len cap sz j : Nat} {ex : Bool} {k : IntKind} (hj : j < len) : doIndexW Try.prog h 111 (some (.one (.sl b o len cap sz ex))) (some (.one (.i k (j : Int)))) = some (.val (.one (.p b (o + j * 1))) h) := ixN el111 hj
theorem FA115_4 {h : H} {b o : Nat} : doFieldAddr Try.prog h 115 4 (some (.one (.p b o))) = some (.val (.one (.p b (o + 4))) h) := fa_p fa115_4
theorem LD113 {h : H} {b o : Nat} : doLoad Try.prog h 113 (some (.one (.p b o))) = oneR h (h.row b o 1) := ld1 kd113
theorem FA115_1 {h : H} {b o : Nat} : doFieldAddr Try.prog h 115 1 (some (.one (.p b o))) = some (.val (.one (.p b (o + 1))) h) := fa_p fa115_1
theorem LD107 {h : H} {b o : Nat} : doLoad Try.prog h 107 (some (.one (.p b o))) = oneR h (h.row b o 1) := ld1 kd107
theorem FA115_0 {h : H} {b o : Nat} : doFieldAddr Try.prog h 115 0 (some (.one (.p b o))) = some (.val (.one (.p b (o + 0))) h) := fa_p fa115_0
theorem FA115_2 {h : H} {b o : Nat} : doFieldAddr Try.prog h 115 2 (some (.one (.p b o))) = some (.val (.one (.p b (o + 2))) h) := fa_p fa115_2
theorem FA115_3 {h : H} {b o : Nat} : doFieldAddr Try.prog h 115 3 (some (.one (.p b o))) = some (.val (.one (.p b (o + 3))) h) := fa_p fa115_3
theorem LD121 {h : H} {b o : Nat} : doLoad Try.prog h 121 (some (.one (.p b o))) = aggR h (h.row b o 2) := ldA kd121
theorem FA121_0 {h : H} {b o : Nat} : doFieldAddr Try.prog h 121 0 (some (.one (.p b o))) = some (.val (.one (.p b (o + 0))) h) := fa_p fa121_0
theorem LD100 {h : H} {b o : Nat} : doLoad Try.prog h 100 (some (.one (.p b o))) = aggR h (h.row b o 4) := ldA kd100
theorem LD109 {h : H} {b o : Nat} : doLoad Try.prog h 109 (some (.one (.p b o))) = aggR h (h.row b o 5) := ldA kd109
theorem FA130_4 {h : H} {b o : Nat} : doFieldAddr Try.prog h 130 4 (some (.one (.p b o))) = some (.val (.one (.p b (o + 4))) h) := fa_p fa130_4
theorem FA109_2 {h : H} {b o : Nat} : doFieldAddr Try.prog h 109 2 (some (.one (.p b o))) = some (.val (.one (.p b (o + 2))) h) := fa_p fa109_2
theorem FA130_0 {h : H} {b o : Nat} : doFieldAddr Try.prog h 130 0 (some (.one (.p b o))) = some (.val (.one (.p b (o + 0))) h) := fa_p fa130_0
theorem FA130_5 {h : H} {b o : Nat} : doFieldAddr Try.prog h 130 5 (some (.one (.p b o))) = some (.val (.one (.p b (o + 5))) h) := fa_p fa130_5
theorem LD128 {h : H} {b o : Nat} : doLoad Try.prog h 128 (some (.one (.p b o))) = oneR h (h.row b o 1) := ld1 kd128
theorem FA130_1 {h : H} {b o : Nat} : doFieldAddr Try.prog h 130 1 (some (.one (.p b o))) = some (.val (.one (.p b (o + 1))) h) := fa_p fa130_1
theorem FA130_2 {h : H} {b o : Nat} : doFieldAddr Try.prog h 130 2 (some (.one (.p b o))) = some (.val (.one (.p b (o + 2))) h) := fa_p fa130_2
theorem FA130_3 {h : H} {b o : Nat} : doFieldAddr Try.prog h 130 3 (some (.one (.p b o))) = some (.val (.one (.p b (o + 3))) h) := fa_p fa130_3
theorem LD4 {h : H} {b o : Nat} : doLoad Try.prog h 4 (some (.one (.p b o))) = oneR h (h.row b o 1) := ld1 kd4
theorem FA109_0 {h : H} {b o : Nat} : doFieldAddr Try.prog h 109 0 (some (.one (.p b o))) = some (.val (.one (.p b (o + 0))) h) := fa_p fa109_0
theorem IX128 {h : H} {b o len cap sz j : Nat} {ex : Bool} {k : IntKind} (hj : j < len) : doIndexW Try.prog h 128 (some (.one (.sl b o len cap sz ex))) (some (.one (.i k (j : Int)))) = some (.val (.one (.p b (o + j * 1))) h) := ixN el128 hj
theorem FA109_1 {h : H} {b o : Nat} : doFieldAddr Try.prog h 109 1 (some (.one (.p b o))) = some (.val (.one (.p b (o + 1))) h) := fa_p fa109_1
theorem FA109_3 {h : H} {b o : Nat} : doFieldAddr Try.prog h 109 3 (some (.one (.p b o))) = some (.val (.one (.p b (o + 3))) h) := fa_p fa109_3
theorem FA109_4 {h : H} {b o : Nat} : doFieldAddr Try.prog h 109 4 (some (.one (.p b o))) = some (.val (.one (.p b (o + 4))) h) := fa_p fa109_4
theorem IX139 {h : H} {b o len cap sz j : Nat} {ex : Bool} {k : IntKind} (hj : j < len) : doIndexW Try.prog h 139 (some (.one (.sl b o len cap sz ex))) (some (.one (.i k (j : Int)))) = some (.val (.one (.p b (o + j * 2))) h) := ixN el139 hj
theorem LD141 {h : H} {b o : Nat} : doLoad Try.prog h 141 (some (.one (.p b o))) = aggR h (h.row b o 2) := ldA kd141
theorem FA141_1 {h : H} {b o : Nat} : doFieldAddr Try.prog h 141 1 (some (.one (.p b o))) = some (.val (.one (.p b (o + 1))) h) := fa_p fa141_1
theorem FA141_0 {h : H} {b o : Nat} : doFieldAddr Try.prog h 141 0 (some (.one (.p b o))) = some (.val (.one (.p b (o + 0))) h) := fa_p fa141_0
def dr11_9 : List (Nat × Nat × Bool) := [(0, 0, false), (1, 1, false), (2, 0, false), (3, 4, false), (4, 0, false), (5, 16, false), (6, 60, true), (7, 124, false), (8, 255, true), (9, 511, false), (10, 1023, true)]
def dr11_23 : List (Nat × Nat × Bool) := [(0, 0, false), (1, 1, true), (2, 3, false), (3, 7, false), (4, 15, false), (5, 31, false), (6, 15, false), (7, 127, false), (8, 255, false), (9, 511, false), (10, 15, false), (11, 2047, false), (12, 4095, false), (13, 8191, false), (14, 16383, false), (15, 32767, false), (16, 16383, false), (17, 131071, false), (18, 262143, false), (19, 524287, false), (20, 16383, false), (21, 16383, false), (22, 3162111, false), (23, 7356415, false), (24, 15745023, false), (25, 32522239, false), (26, 67108863, false), (27, 134217727, false)]
def dr19_5 : List (Nat × Nat × Bool) := [(0, 0, false), (1, 1, false), (2, 3, false), (3, 0, false), (4, 0, false), (5, 24, false), (6, 56, false), (7, 0, false), (8, 0, false), (9, 256, false), (10, 896, false), (11, 1920, false), (12, 4095, false), (13, 8191, true)]
def dr31_5 : List (Nat × Nat × Bool) := [(0, 0, false), (1, 1, false), (2, 0, false), (3, 4, true), (4, 12, false), (5, 31, true), (6, 63, false), (7, 127, true)]
def dr37_1 : List (Nat × Nat × Bool) := [(0, 0, false), (1, 1, false), (2, 3, false), (3, 7, false), (4, 0, false), (9, 0, false), (5, 31, true), (6, 63, false), (7, 127, false), (8, 127, false), (10, 767, true), (11, 2047, false)]
def dr37_8 : List (Nat × Nat × Bool) := [(0, 0, false), (1, 1, false), (2, 0, false), (3, 0, false), (4, 0, false), (5, 16, false), (6, 56, true), (7, 120, false), (8, 252, true), (9, 511, true), (10, 1023, false), (11, 2047, true)]
def dr37_9 : List (Nat × Nat × Bool) := [(0, 0, false), (1, 1, false), (2, 3, false), (3, 7, false), (4, 15, false), (5, 0, false), (6, 32, false), (7, 0, false), (8, 128, false), (10, 0, false), (12, 0, false), (9, 480, true), (11, 2047, false), (13, 8191, true)]
def dr37_10 : List (Nat × Nat × Bool) := [(0, 0, false), (1, 1, false), (2, 3, false), (3, 7, false), (4, 0, false), (5, 0, false), (6, 63, true)]
def dr45_5 : List (Nat × Nat × Bool) := [(0, 0, false), (1, 1, false), (2, 0, false), (3, 4, false), (4, 12, true), (5, 31, true), (6, 63, false)]
def dr45_10 : List (Nat × Nat × Bool) := [(0, 0, false), (1, 1, false), (2, 0, false), (3, 4, false), (4, 12, true), (5, 31, true), (6, 63, false), (7, 127, true)]
def dr45_12 : List (Nat × Nat × Bool) := [(0, 0, false), (1, 1, false), (2, 0, false), (3, 4, false), (4, 12, true), (5, 31, true), (6, 63, false), (7, 127, true)]
def dr56_5 : List (Nat × Nat × Bool) := [(0, 0, false), (1, 0, false), (2, 2, false), (3, 6, false), (4, 14, false), (5, 30, false), (6, 62, false), (7, 126, false), (8, 0, false), (9, 510, false), (10, 0, false), (11, 1024, false), (12, 3072, false), (13, 7168, false), (14, 16382, false), (16, 0, false), (15, 32767, true), (17, 131071, true)]
def dr56_7 : List (Nat × Nat × Bool) := [(0, 0, false), (1, 0, false), (2, 2, false), (4, 0, false), (5, 0, false), (6, 32, false), (7, 96, false), (8, 224, false), (9, 480, false), (10, 992, false), (11, 2016, false), (12, 0, false), (13, 8160, false), (14, 0, false), (3, 7, true), (15, 32751, true), (16, 65519, false), (17, 131071, true), (18, 262143, false), (19, 524287, false)]
def dr56_13 : List (Nat × Nat × Bool) := [(0, 0, false), (1, 0, false), (2, 0, false), (3, 0, false), (4, 8, false), (5, 24, false), (6, 56, false), (7, 120, false), (8, 248, false), (9, 504, false), (10, 0, false), (11, 2040, false), (12, 0, false), (13, 0, false), (14, 12288, false), (15, 28672, false), (16, 65532, true), (17, 131071, false), (18, 262143, false), (19, 524287, true)]
def dr57_14 : List (Nat × Nat × Bool) := [(0, 0, false), (1, 0, false), (2, 2, false), (4, 0, false), (5, 0, false), (6, 32, false), (7, 96, false), (8, 224, false), (9, 480, false), (3, 7, true), (10, 1023, true), (11, 2047, false), (12, 4095, false)]
def dr57_23 : List (Nat × Nat × Bool) := [(0, 0, false), (1, 0, false), (2, 2, false), (3, 6, false), (4, 14, false), (5, 0, false), (6, 62, false), (7, 0, false), (8, 0, false), (9, 256, false), (10, 768, false), (11, 1792, false), (12, 3840, false), (13, 7936, false), (14, 16128, false), (15, 0, false), (16, 32768, false), (17, 98304, false), (18, 229376, false), (19, 0, false), (20, 1015808, false), (21, 2096896, false), (22, 0, false), (23, 4194304, false), (24, 12582912, false), (25, 29360128, false), (26, 0, false), (27, 130023424, false), (28, 264241152, false), (29, 0, false), (30, 0, false), (31, 1610612736, false), (32, 3758096384, false), (33, 0, false), (34, 8589934592, false), (35, 25769803776, false), (36, 60129542144, false), (37, 0, false), (38, 266287972352, false), (39, 541165879296, false), (40, 1090921693184, false), (41, 2198486384640, true), (42, 4398046510976, true), (43, 8796093022207, false), (44, 17592186044415, false), (45, 35184372088831, true)]
def dr58_1 : List (Nat × Nat × Bool) := [(0, 0, false), (1, 0, false), (3, 0, false), (4, 8, false), (5, 24, false), (6, 56, false), (2, 3, true), (7, 127, true), (8, 255, false), (9, 511, false)]
def dr58_5 : List (Nat × Nat × Bool) := [(0, 0, false), (1, 0, false), (2, 0, false), (3, 4, false), (4, 12, false), (5, 28, false), (6, 0, false), (7, 64, false), (8, 192, false), (9, 448, false), (10, 960, true), (11, 2047, true), (12, 4095, false)]
def dr58_12 : List (Nat × Nat × Bool) := [(0, 0, false), (1, 0, false), (2, 0, false), (3, 4, false), (4, 12, false), (5, 28, false), (6, 0, false), (7, 0, false), (12, 0, false), (8, 128, true), (9, 448, true), (10, 1022, false), (11, 2047, true), (13, 8191, true)]
def dr58_14 : List (Nat × Nat × Bool) := [(0, 0, false), (1, 0, false), (3, 0, false), (4, 8, false), (5, 24, false), (6, 56, false), (7, 0, false), (8, 128, false), (9, 384, false), (10, 896, false), (13, 0, false), (2, 3, true), (11, 1927, true), (12, 4095, true), (14, 16383, true)]
def dr58_15 : List (Nat × Nat × Bool) := [(0, 0, false), (1, 0, false), (2, 0, false), (3, 4, false), (4, 0, false), (5, 0, false), (6, 48, false), (7, 112, false), (8, 255, true), (9, 511, false), (10, 1023, true)]
def dr65_1 : List (Nat × Nat × Bool) := [(0, 0, false), (1, 1, false), (2, 3, false), (3, 7, false), (4, 0, false), (5, 16, false), (6, 48, false), (7, 112, false), (8, 15, false), (9, 511, false)]
def dr68_1 : List (Nat × Nat × Bool) := [(0, 0, false), (2, 0, false), (3, 4, false), (4, 12, false), (5, 28, false), (1, 1, true), (6, 63, true), (7, 127, false), (8, 255, false)]
def dr69_3 : List (Nat × Nat × Bool) := [(0, 0, false), (1, 0, false), (2, 2, false), (3, 6, false), (4, 15, false), (5, 31, false), (6, 0, false), (7, 0, false), (8, 128, false), (9, 384, false), (10, 960, false), (11, 1984, false), (12, 4032, false), (13, 8191, true), (14, 16383, false)]
def dr71_5 : List (Nat × Nat × Bool) := [(0, 0, false), (2, 0, false), (3, 4, false), (4, 12, false), (5, 28, false), (7, 0, false), (8, 128, false), (9, 384, false), (10, 896, false), (1, 1, true), (6, 63, true), (11, 2047, true), (12, 4095, false)]
def dr72_2 : List (Nat × Nat × Bool) := [(0, 0, false), (1, 1, false), (2, 3, false), (3, 7, false), (4, 0, false), (5, 0, false), (6, 32, false), (7, 96, false), (8, 224, false), (9, 511, true), (10, 1023, false)]
def dr72_3 : List (Nat × Nat × Bool) := [(0, 0, false), (1, 0, false), (2, 0, false), (3, 0, false), (4, 8, false), (5, 24, false), (6, 56, false), (7, 0, false), (8, 128, false), (9, 384, false), (10, 896, false), (11, 1920, true), (12, 4094, true), (13, 8191, false), (14, 16383, false), (15, 32767, true)]
def dr72_8 : List (Nat × Nat × Bool) := [(0, 0, false), (1, 1, false), (2, 3, false), (3, 7, false), (4, 15, false), (5, 31, false), (6, 63, false), (7, 0, false), (8, 128, false), (9, 384, false), (10, 896, false), (11, 0, false), (12, 3968, false), (13, 8191, false), (14, 16383, false)]
def dr72_9 : List (Nat × Nat × Bool) := [(0, 0, false), (1, 0, false), (2, 2, false), (3, 6, false), (4, 14, false), (5, 0, false), (6, 0, false), (7, 96, false), (8, 224, false), (9, 0, false), (10, 512, false), (11, 1536, false), (12, 3584, false), (13, 0, false), (14, 8192, false), (15, 24576, false), (16, 57344, false), (17, 122880, true), (18, 262112, true), (19, 524256, false), (20, 1048544, false), (21, 2097150, true), (22, 4194303, false), (23, 8388607, false), (24, 16777215, true)]
def dr72_12 : List (Nat × Nat × Bool) := [(0, 0, false), (1, 0, false), (2, 0, false), (3, 0, false), (4, 0, false), (5, 16, false), (6, 48, false), (7, 112, false), (8, 0, false), (9, 0, false), (10, 768, false), (11, 1792, false), (12, 0, false), (15, 0, false), (13, 4096, true), (14, 16128, true), (16, 65528, false), (17, 131068, true), (18, 262143, false), (19, 524287, true)]
def dr82_4 : List (Nat × Nat × Bool) := [(0, 0, false), (1, 1, false), (2, 3, false), (3, 7, false), (4, 15, false), (5, 31, false), (6, 63, false), (7, 0, false), (8, 128, false), (9, 384, false), (10, 896, false), (11, 0, false), (12, 3968, false), (13, 8191, false), (14, 16383, false)]
def dr82_5 : List (Nat × Nat × Bool) := [(0, 0, false), (1, 0, false), (2, 0, false), (3, 4, false), (4, 12, false), (5, 28, false), (6, 0, false), (7, 0, false), (12, 0, false), (8, 128, true), (9, 448, true), (10, 1022, false), (11, 2047, true), (13, 8191, true)]
def dr82_8 : List (Nat × Nat × Bool) := [(0, 0, false), (1, 0, false), (2, 2, false), (3, 6, false), (4, 14, false), (5, 0, false), (6, 0, false), (7, 96, false), (8, 224, false), (9, 510, false), (10, 1023, false), (11, 2047, false), (12, 4095, true)]
def dr84_0 : List (Nat × Nat × Bool) := [(0, 0, false), (1, 0, false), (2, 0, false), (3, 4, false), (4, 12, false), (5, 28, false), (7, 0, false), (8, 128, false), (9, 384, false), (10, 896, false), (11, 1920, false), (12, 3968, false), (6, 60, true), (13, 2045, false), (14, 10237, false), (15, 26621, true), (16, 65535, false), (17, 131071, false), (18, 262143, true)]
def dr84_1 : List (Nat × Nat × Bool) := [(0, 0, false), (1, 0, false), (2, 2, false), (3, 6, false), (4, 14, false), (5, 0, false), (6, 32, false), (7, 96, false), (8, 224, false), (10, 0, false), (11, 1024, false), (12, 3072, false), (13, 7168, false), (9, 510, true), (14, 16382, false), (15, 32767, false), (16, 65535, false), (17, 131071, true)]
def dr84_6 : List (Nat × Nat × Bool) := [(0, 0, false), (1, 1, false), (2, 3, false), (3, 7, false), (4, 0, false), (5, 0, false), (6, 0, false), (7, 96, true), (8, 224, false), (9, 480, false), (10, 992, false), (11, 2016, false), (12, 4064, false), (13, 8160, false), (14, 16352, false), (15, 32736, false), (16, 65504, false), (17, 32736, false), (18, 262112, false), (19, 524256, false), (20, 1048544, false), (21, 2097120, false), (22, 4194272, false), (23, 8388576, false), (24, 16777184, false), (25, 33554400, false), (26, 67108832, false), (27, 134217696, false), (28, 268435424, false), (29, 536870880, false), (30, 268435424, false), (31, 2147483616, false), (32, 4294967264, false), (33, 8589934560, false), (34, 17179869183, false), (35, 34359738367, true)]
def dr86_5 : List (Nat × Nat × Bool) := [(0, 0, false), (1, 1, false), (2, 3, false), (3, 7, false), (4, 0, false), (5, 0, false), (6, 0, false), (7, 96, false), (8, 224, false), (9, 0, false), (10, 512, false), (11, 1536, false), (12, 3584, false), (13, 0, false), (14, 15872, false), (15, 32256, false), (16, 65024, false), (17, 0, false), (18, 131072, false), (19, 393216, false), (20, 917504, false), (21, 0, false), (22, 4063232, false), (23, 8257536, false), (24, 16646144, false), (25, 33554400, true), (26, 67108863, false), (27, 134217727, true)]
def dr86_6 : List (Nat × Nat × Bool) := [(0, 0, false), (1, 0, false), (2, 2, false), (3, 6, false), (4, 14, false), (5, 0, false), (6, 62, false), (7, 126, false), (8, 0, false), (9, 0, false), (10, 768, false), (11, 1792, false), (12, 4094, false), (13, 8191, false), (14, 16383, false)]
def dr86_11 : List (Nat × Nat × Bool) := [(0, 0, false), (1, 1, false), (2, 3, false), (3, 7, false), (4, 0, false), (5, 31, false), (6, 63, false), (7, 0, false), (8, 0, false), (9, 384, false), (10, 896, false), (11, 2047, false), (12, 4095, false)]
def dr88_8 : List (Nat × Nat × Bool) := [(0, 0, false), (1, 0, false), (2, 2, false), (3, 7, false), (4, 0, false), (5, 31, false)]
def dr88_11 : List (Nat × Nat × Bool) := [(0, 0, false), (1, 0, false), (2, 3, false), (3, 7, false), (4, 0, false), (5, 0, false), (6, 48, false), (7, 15, false), (8, 255, false)]
def dr91_10 : List (Nat × Nat × Bool) := [(0, 0, false), (1, 1, false), (2, 3, false), (3, 7, false), (4, 0, false), (5, 0, false), (6, 48, false), (7, 112, false), (8, 255, false), (9, 511, false), (10, 1023, false), (11, 2047, false)]
def dr92_8 : List (Nat × Nat × Bool) := [(0, 0, false), (1, 0, false), (2, 0, false), (3, 6, false), (4, 14, false), (6, 0, false), (7, 0, false), (8, 0, false), (9, 384, false), (10, 0, false), (11, 1920, false), (12, 3968, false), (5, 31, true), (13, 8191, true), (14, 16383, false), (15, 32767, false)]
def dr93_1 : List (Nat × Nat × Bool) := [(0, 0, false), (1, 1, false), (2, 3, false), (3, 7, false), (4, 0, false), (5, 16, false), (6, 48, false), (7, 112, false), (8, 0, false), (9, 256, false), (10, 768, false), (11, 1792, false), (12, 3840, false), (13, 7936, false), (14, 16128, false), (15, 32752, false), (16, 65535, false), (17, 131071, false)]
def dr100_4 : List (Nat × Nat × Bool) := [(0, 0, false), (1, 0, false), (2, 3, false), (3, 7, false), (4, 15, false), (5, 15, false), (6, 15, false), (7, 111, false), (8, 239, false), (9, 15, false), (10, 15, false), (11, 1039, false), (12, 3599, false), (13, 7695, false), (14, 16383, true), (15, 32767, false), (16, 65535, false)]
def dr100_6 : List (Nat × Nat × Bool) := [(0, 0, false), (1, 0, false), (2, 0, false), (3, 0, false), (4, 8, false), (5, 0, false), (6, 0, false), (7, 64, false), (8, 224, false), (9, 480, false), (10, 0, false), (11, 0, false), (12, 3072, false), (13, 7168, false), (14, 16355, false), (15, 32739, true), (16, 65535, false), (17, 131071, true)]
def dr101_5 : List (Nat × Nat × Bool) := [(0, 0, false), (1, 0, false), (2, 0, false), (3, 6, false), (4, 14, false), (5, 0, false), (6, 0, false), (7, 96, false), (8, 224, false), (9, 511, true), (10, 1023, false)]
def dr101_11 : List (Nat × Nat × Bool) := [(0, 0, false), (1, 0, false), (2, 0, false), (3, 0, false), (4, 8, false), (5, 0, false), (6, 0, false), (7, 64, false), (8, 224, false), (9, 480, false), (10, 0, false), (11, 0, false), (12, 3072, false), (13, 7168, false), (14, 16355, false), (15, 32739, true), (16, 65535, false), (17, 131071, true)]
def dr101_17 : List (Nat × Nat × Bool) := [(0, 0, false), (1, 0, false), (2, 0, false), (3, 6, false), (4, 14, false), (5, 0, false), (6, 0, false), (7, 96, false), (8, 224, false), (9, 511, true), (10, 1023, false), (11, 2047, false)]
def dr101_23 : List (Nat × Nat × Bool) := [(0, 0, false), (1, 0, false), (2, 0, false), (3, 0, false), (4, 8, false), (5, 0, false), (6, 0, false), (7, 64, false), (8, 224, false), (9, 480, false), (10, 0, false), (11, 0, false), (12, 3072, false), (13, 7168, false), (14, 16355, false), (15, 32739, true), (16, 65535, false), (17, 131071, true)]
def dr101_35 : List (Nat × Nat × Bool) := [(0, 0, false), (1, 0, false), (2, 0, false), (3, 0, false), (4, 12, false), (5, 30, false), (6, 62, false), (7, 0, false), (8, 0, false), (9, 384, false), (10, 896, false), (11, 2047, true), (12, 4095, false), (13, 8191, false)]
def dr103_3 : List (Nat × Nat × Bool) := [(0, 0, false), (1, 0, false), (2, 0, false), (3, 6, false), (4, 0, false), (5, 0, false), (6, 0, false), (7, 96, false), (8, 0, false), (9, 0, false), (10, 0, false), (11, 1536, false), (12, 3840, false), (13, 7936, false), (14, 0, false), (15, 0, false), (16, 0, false), (17, 98304, false), (18, 245760, false), (19, 507904, false), (20, 1048335, false), (21, 2096911, true), (22, 4194303, false), (23, 8388607, true)]
attribute [go_sem] ex_extract ex_move ex_assign ex_nilCheck ex_fieldAddr ex_indexAddr ex_load ex_pick ex_field pick_b ev evs Sl.get_set' ofInt ofBool ofNil mv_some nil_p Nat.zero_add Nat.mul_one List.drop_succ_cons List.drop_zero List.take_succ_cons List.take_zero List.nil_append List.cons_append oneR_some aggR_some cond_true cond_false
attribute [go_sem] IX22 LD33 FA33_0 LD31 FA33_1 LD3 LD37 FA37_1 LD34 FA46_3 IX26 FA46_0 LD26 FA31_2 LD29 IX29 FA37_3 LD35 IX35 FA37_2 FA37_0 LD25 FA31_0 FA31_1 FA28_0 LD28 FA72_0 LD70 LD75 LD83 FA83_2 FA75_0 LD68 FA83_1 FA75_2 FA75_3 FA75_1 FA83_3 FA83_4 FA83_0 IX107 IX111 FA115_4 LD113 FA115_1 LD107 FA115_0 FA115_2 FA115_3 LD121 FA121_0 LD100 LD109 FA130_4 FA109_2 FA130_0 FA130_5 LD128 FA130_1 FA130_2 FA130_3 LD4 FA109_0 IX128 FA109_1 FA109_3 FA109_4 IX139 LD141 FA141_1 FA141_0
end Go.Ai
