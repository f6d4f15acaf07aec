/-
Facts of the types that these functions use, each by the kernel; in which order their regions that draw are told.
-/
import Derived.Test.YtjjlmmebkemlgaaAiRl
import Derived.Test.YtjjlmmebkemlgaaProg
set_option linter.unusedVariables false
namespace Go.Ai
open Go.Proofs
theorem el38 : elemAt Try.prog 38 = some (41, 3) := by kernel_rfl
theorem kd41 : kindAt Try.prog 41 = some (true, 3) := by kernel_rfl
theorem zb41 : zeroB Try.prog 41 = some (V.agg [S.sl0, S.i IntKind.i64 (Int.ofNat 0), S.i IntKind.i64 (Int.ofNat 0)]) := by kernel_rfl
theorem sz41 : sizeB Try.prog 41 = some 3 := by kernel_rfl
theorem fa41_0 : fieldAt Try.prog 41 0 = some 0 := by kernel_rfl
theorem kd39 : kindAt Try.prog 39 = some (false, 1) := by kernel_rfl
theorem el39 : elemAt Try.prog 39 = some (46, 5) := by kernel_rfl
theorem ze39 : zeroB Try.prog 46 = some (V.agg [S.i IntKind.i64 (Int.ofNat 0), S.i IntKind.i64 (Int.ofNat 0), S.i IntKind.i64 (Int.ofNat 0), S.i IntKind.i64 (Int.ofNat 0), S.i IntKind.i64 (Int.ofNat 0)]) := by kernel_rfl
theorem ap39_39 : appAt Try.prog 39 39 = some (46, 5, 40) := by kernel_rfl
theorem fa41_1 : fieldAt Try.prog 41 1 = some 1 := by kernel_rfl
theorem kd3 : kindAt Try.prog 3 = some (false, 1) := by kernel_rfl
theorem fa41_2 : fieldAt Try.prog 41 2 = some 2 := by kernel_rfl
theorem el23 : elemAt Try.prog 23 = some (3, 1) := by kernel_rfl
theorem kd46 : kindAt Try.prog 46 = some (true, 5) := by kernel_rfl
theorem fa46_0 : fieldAt Try.prog 46 0 = some 0 := by kernel_rfl
theorem fa46_3 : fieldAt Try.prog 46 3 = some 3 := by kernel_rfl
theorem zb46 : zeroB Try.prog 46 = some (V.agg [S.i IntKind.i64 (Int.ofNat 0), S.i IntKind.i64 (Int.ofNat 0), S.i IntKind.i64 (Int.ofNat 0), S.i IntKind.i64 (Int.ofNat 0), S.i IntKind.i64 (Int.ofNat 0)]) := by kernel_rfl
theorem ze23 : zeroB Try.prog 3 = some (V.one (S.i IntKind.i64 (Int.ofNat 0))) := by kernel_rfl
theorem sz46 : sizeB Try.prog 46 = some 5 := by kernel_rfl
theorem fa46_1 : fieldAt Try.prog 46 1 = some 1 := by kernel_rfl
theorem fa46_2 : fieldAt Try.prog 46 2 = some 2 := by kernel_rfl
theorem sz3 : sizeB Try.prog 3 = some 1 := by kernel_rfl
theorem fa46_4 : fieldAt Try.prog 46 4 = some 4 := by kernel_rfl
theorem ap23_23 : appAt Try.prog 23 23 = some (3, 1, 8) := by kernel_rfl
theorem mk61 : makeAt Try.prog 61 = some (4, 1, 1, [S.b false]) := by kernel_rfl
theorem el61 : elemAt Try.prog 61 = some (4, 1) := by kernel_rfl
theorem kd4 : kindAt Try.prog 4 = some (false, 1) := by kernel_rfl
theorem sz4 : sizeB Try.prog 4 = some 1 := by kernel_rfl
theorem zb66 : zeroB Try.prog 66 = some (V.agg [S.i IntKind.i64 (Int.ofNat 0), S.i IntKind.i64 (Int.ofNat 0)]) := by kernel_rfl
theorem el64 : elemAt Try.prog 64 = some (66, 2) := by kernel_rfl
theorem ze64 : zeroB Try.prog 66 = some (V.agg [S.i IntKind.i64 (Int.ofNat 0), S.i IntKind.i64 (Int.ofNat 0)]) := by kernel_rfl
theorem ap64_64 : appAt Try.prog 64 64 = some (66, 2, 16) := by kernel_rfl
theorem kd66 : kindAt Try.prog 66 = some (true, 2) := by kernel_rfl
theorem sz66 : sizeB Try.prog 66 = some 2 := by kernel_rfl
theorem fa66_1 : fieldAt Try.prog 66 1 = some 1 := by kernel_rfl
theorem zb72 : zeroB Try.prog 72 = some (V.agg [S.sl0, S.i IntKind.i64 (Int.ofNat 0), S.i IntKind.i64 (Int.ofNat 0), S.b false, S.sl0, S.sl0]) := by kernel_rfl
theorem fa72_4 : fieldAt Try.prog 72 4 = some 4 := by kernel_rfl
theorem kd23 : kindAt Try.prog 23 = some (false, 1) := by kernel_rfl
theorem fa66_0 : fieldAt Try.prog 66 0 = some 0 := by kernel_rfl
theorem fa72_0 : fieldAt Try.prog 72 0 = some 0 := by kernel_rfl
theorem sz23 : sizeB Try.prog 23 = some 1 := by kernel_rfl
theorem fa72_5 : fieldAt Try.prog 72 5 = some 5 := by kernel_rfl
theorem kd61 : kindAt Try.prog 61 = some (false, 1) := by kernel_rfl
theorem sz61 : sizeB Try.prog 61 = some 1 := by kernel_rfl
theorem fa72_1 : fieldAt Try.prog 72 1 = some 1 := by kernel_rfl
theorem fa72_2 : fieldAt Try.prog 72 2 = some 2 := by kernel_rfl
theorem fa72_3 : fieldAt Try.prog 72 3 = some 3 := by kernel_rfl
theorem IX38 {h : H} {b o len cap sz j : Nat} {ex : Bool} {k : IntKind} (hj : j < len) : doIndexW Try.prog h 38 (some (.one (.sl b o len cap sz ex))) (some (.one (.i k (j : Int)))) = some (.val (.one (.p b (o + j * 3))) h) := ixN el38 hj
theorem LD41 {h : H} {b o : Nat} : doLoad Try.prog h 41 (some (.one (.p b o))) = aggR h (h.row b o 3) := ldA kd41
theorem FA41_0 {h : H} {b o : Nat} : doFieldAddr Try.prog h 41 0 (some (.one (.p b o))) = some (.val (.one (.p b (o + 0))) h) := fa_p fa41_0
theorem LD39 {h : H} {b o : Nat} : doLoad Try.prog h 39 (some (.one (.p b o))) = oneR h (h.row b o 1) := ld1 kd39
theorem IX39 {h : H} {b o len cap sz j : Nat} {ex : Bool} {k : IntKind} (hj : j < len) : doIndexW Try.prog h 39 (some (.one (.sl b o len cap sz ex))) (some (.one (.i k (j : Int)))) = some (.val (.one (.p b (o + j * 5))) h) := ixN el39 hj
theorem FA41_1 {h : H} {b o : Nat} : doFieldAddr Try.prog h 41 1 (some (.one (.p b o))) = some (.val (.one (.p b (o + 1))) h) := fa_p fa41_1
theorem LD3 {h : H} {b o : Nat} : doLoad Try.prog h 3 (some (.one (.p b o))) = oneR h (h.row b o 1) := ld1 kd3
theorem FA41_2 {h : H} {b o : Nat} : doFieldAddr Try.prog h 41 2 (some (.one (.p b o))) = some (.val (.one (.p b (o + 2))) h) := fa_p fa41_2
theorem IX23 {h : H} {b o len cap sz j : Nat} {ex : Bool} {k : IntKind} (hj : j < len) : doIndexW Try.prog h 23 (some (.one (.sl b o len cap sz ex))) (some (.one (.i k (j : Int)))) = some (.val (.one (.p b (o + j * 1))) h) := ixN el23 hj
theorem LD46 {h : H} {b o : Nat} : doLoad Try.prog h 46 (some (.one (.p b o))) = aggR h (h.row b o 5) := ldA kd46
theorem FA46_0 {h : H} {b o : Nat} : doFieldAddr Try.prog h 46 0 (some (.one (.p b o))) = some (.val (.one (.p b (o + 0))) h) := fa_p fa46_0
theorem FA46_3 {h : H} {b o : Nat} : doFieldAddr Try.prog h 46 3 (some (.one (.p b o))) = some (.val (.one (.p b (o + 3))) h) := fa_p fa46_3
theorem FA46_1 {h : H} {b o : Nat} : doFieldAddr Try.prog h 46 1 (some (.one (.p b o))) = some (.val (.one (.p b (o + 1))) h) := fa_p fa46_1
theorem FA46_2 {h : H} {b o : Nat} : doFieldAddr Try.prog h 46 2 (some (.one (.p b o))) = some (.val (.one (.p b (o + 2))) h) := fa_p fa46_2
theorem FA46_4 {h : H} {b o : Nat} : doFieldAddr Try.prog h 46 4 (some (.one (.p b o))) = some (.val (.one (.p b (o + 4))) h) := fa_p fa46_4
theorem IX61 {h : H} {b o len cap sz j : Nat} {ex : Bool} {k : IntKind} (hj : j < len) : doIndexW Try.prog h 61 (some (.one (.sl b o len cap sz ex))) (some (.one (.i k (j : Int)))) = some (.val (.one (.p b (o + j * 1))) h) := ixN el61 hj
theorem LD4 {h : H} {b o : Nat} : doLoad Try.prog h 4 (some (.one (.p b o))) = oneR h (h.row b o 1) := ld1 kd4
theorem IX64 {h : H} {b o len cap sz j : Nat} {ex : Bool} {k : IntKind} (hj : j < len) : doIndexW Try.prog h 64 (some (.one (.sl b o len cap sz ex))) (some (.one (.i k (j : Int)))) = some (.val (.one (.p b (o + j * 2))) h) := ixN el64 hj
theorem LD66 {h : H} {b o : Nat} : doLoad Try.prog h 66 (some (.one (.p b o))) = aggR h (h.row b o 2) := ldA kd66
theorem FA66_1 {h : H} {b o : Nat} : doFieldAddr Try.prog h 66 1 (some (.one (.p b o))) = some (.val (.one (.p b (o + 1))) h) := fa_p fa66_1
theorem FA72_4 {h : H} {b o : Nat} : doFieldAddr Try.prog h 72 4 (some (.one (.p b o))) = some (.val (.one (.p b (o + 4))) h) := fa_p fa72_4
theorem LD23 {h : H} {b o : Nat} : doLoad Try.prog h 23 (some (.one (.p b o))) = oneR h (h.row b o 1) := ld1 kd23
theorem FA66_0 {h : H} {b o : Nat} : doFieldAddr Try.prog h 66 0 (some (.one (.p b o))) = some (.val (.one (.p b (o + 0))) h) := fa_p fa66_0
theorem FA72_0 {h : H} {b o : Nat} : doFieldAddr Try.prog h 72 0 (some (.one (.p b o))) = some (.val (.one (.p b (o + 0))) h) := fa_p fa72_0
theorem FA72_5 {h : H} {b o : Nat} : doFieldAddr Try.prog h 72 5 (some (.one (.p b o))) = some (.val (.one (.p b (o + 5))) h) := fa_p fa72_5
theorem LD61 {h : H} {b o : Nat} : doLoad Try.prog h 61 (some (.one (.p b o))) = oneR h (h.row b o 1) := ld1 kd61
theorem FA72_1 {h : H} {b o : Nat} : doFieldAddr Try.prog h 72 1 (some (.one (.p b o))) = some (.val (.one (.p b (o + 1))) h) := fa_p fa72_1
theorem FA72_2 {h : H} {b o : Nat} : doFieldAddr Try.prog h 72 2 (some (.one (.p b o))) = some (.val (.one (.p b (o + 2))) h) := fa_p fa72_2
theorem FA72_3 {h : H} {b o : Nat} : doFieldAddr Try.prog h 72 3 (some (.one (.p b o))) = some (.val (.one (.p b (o + 3))) h) := fa_p fa72_3
def dr6_17 : List (Nat × Nat × Bool) := [(0, 0, false), (1, 0, false), (2, 3, false), (3, 7, false), (4, 0, false), (5, 16, false), (6, 0, false), (7, 112, false), (8, 240, false), (9, 511, false)]
def dr7_30 : List (Nat × Nat × Bool) := [(0, 0, false), (1, 1, false), (2, 3, false), (3, 7, false), (4, 7, false), (5, 31, false), (6, 63, false), (7, 7, false), (8, 7, false), (9, 391, false), (10, 903, false), (11, 1927, false), (12, 4095, false), (13, 8191, false), (14, 16383, false), (15, 32767, false), (16, 65535, false), (17, 131071, false), (18, 262143, false), (19, 262143, false), (20, 1048575, false), (21, 2097151, false), (22, 262143, false), (23, 262143, false), (24, 12845055, false), (25, 29622271, false), (26, 63176703, false), (27, 134217727, false), (28, 268435455, false), (29, 536870911, false), (30, 536870911, false), (31, 2147483647, false), (32, 4294967295, false), (33, 8589934591, false), (34, 17179869183, false), (35, 34359738367, false), (36, 68719476735, false)]
def dr8_14 : List (Nat × Nat × Bool) := [(0, 0, false), (1, 0, false), (2, 3, false), (3, 7, false), (4, 0, false), (5, 16, false), (6, 63, false), (7, 127, false), (8, 255, false), (9, 511, false), (10, 255, false), (11, 1279, false), (12, 4095, false), (13, 8191, false), (14, 16383, false), (15, 16383, false), (16, 65535, false), (17, 131071, false), (18, 16383, false), (19, 278527, false), (20, 1048575, false), (21, 2097151, false), (22, 4194303, false)]
def dr17_6 : List (Nat × Nat × Bool) := [(0, 0, false), (1, 0, false), (2, 3, false), (3, 7, false), (4, 0, false), (5, 0, false), (6, 48, false), (7, 112, false), (8, 255, false)]
def dr18_19 : List (Nat × Nat × Bool) := [(0, 0, false), (1, 0, false), (2, 3, false), (3, 7, false), (4, 0, false), (5, 0, false), (6, 48, false), (7, 112, false), (8, 255, false)]
def dr25_7 : List (Nat × Nat × Bool) := [(0, 0, false), (1, 0, false), (2, 0, false), (3, 0, false), (4, 12, false), (5, 28, false), (6, 0, false), (7, 124, true), (8, 252, false), (9, 508, false), (10, 1020, false), (11, 2044, false), (12, 4092, false), (13, 4092, false), (14, 16380, false), (15, 32764, false), (16, 65532, false), (17, 4092, false), (18, 4092, false), (19, 397308, false), (20, 921596, false), (21, 2097148, false), (22, 4194300, false), (23, 8388604, false), (24, 16777212, false), (25, 33554428, false), (26, 67108860, false), (27, 134217724, false), (28, 268435452, false), (29, 268435452, false), (30, 1073741820, false), (31, 2147483644, false), (32, 4294967292, false), (33, 268435452, false), (34, 268435452, false), (35, 26038239228, false), (36, 60397977596, false), (37, 137438953468, false), (38, 274877906940, false), (39, 549755813884, false), (40, 1099511627775, false), (41, 2199023255551, true)]
def dr25_29 : List (Nat × Nat × Bool) := [(0, 0, false), (1, 1, false), (2, 0, false), (3, 0, false), (4, 12, false), (5, 28, false), (6, 63, false), (7, 127, false), (8, 255, false)]
def dr25_31 : List (Nat × Nat × Bool) := [(0, 0, false), (1, 1, false), (2, 0, false), (3, 0, false), (4, 12, false), (5, 28, false), (6, 63, false), (7, 127, false), (8, 255, false)]
def dr29_6 : List (Nat × Nat × Bool) := [(0, 0, false), (1, 1, false), (3, 0, false), (4, 8, false), (2, 3, true), (5, 31, true), (6, 63, false)]
def dr35_8 : List (Nat × Nat × Bool) := [(0, 0, false), (1, 0, false), (2, 0, false), (3, 6, false), (4, 14, false), (6, 0, false), (7, 0, false), (8, 0, false), (9, 384, false), (10, 0, false), (11, 1920, false), (12, 3968, false), (5, 31, true), (13, 8191, true), (14, 16383, false), (15, 32767, false)]
def dr51_0 : List (Nat × Nat × Bool) := [(0, 0, false), (1, 0, false), (2, 0, false), (3, 4, false), (4, 12, false), (5, 28, false), (7, 0, false), (8, 128, false), (9, 384, false), (10, 896, false), (11, 1920, false), (12, 3968, false), (6, 60, true), (13, 2045, false), (14, 10237, false), (15, 26621, true), (16, 65535, false), (17, 131071, false), (18, 262143, true)]
def dr51_1 : List (Nat × Nat × Bool) := [(0, 0, false), (1, 0, false), (2, 2, false), (3, 6, false), (4, 14, false), (5, 0, false), (6, 32, false), (7, 96, false), (8, 224, false), (10, 0, false), (11, 1024, false), (12, 3072, false), (13, 7168, false), (9, 510, true), (14, 16382, false), (15, 32767, false), (16, 65535, false), (17, 131071, true)]
def dr51_6 : List (Nat × Nat × Bool) := [(0, 0, false), (1, 1, false), (2, 3, false), (3, 7, false), (4, 0, false), (5, 0, false), (6, 0, false), (7, 96, true), (8, 224, false), (9, 480, false), (10, 992, false), (11, 2016, false), (12, 4064, false), (13, 8160, false), (14, 16352, false), (15, 32736, false), (16, 65504, false), (17, 32736, false), (18, 262112, false), (19, 524256, false), (20, 1048544, false), (21, 2097120, false), (22, 4194272, false), (23, 8388576, false), (24, 16777184, false), (25, 33554400, false), (26, 67108832, false), (27, 134217696, false), (28, 268435424, false), (29, 536870880, false), (30, 268435424, false), (31, 2147483616, false), (32, 4294967264, false), (33, 8589934560, false), (34, 17179869183, false), (35, 34359738367, true)]
def dr53_5 : List (Nat × Nat × Bool) := [(0, 0, false), (1, 1, false), (2, 3, false), (3, 7, false), (4, 0, false), (5, 0, false), (6, 0, false), (7, 96, false), (8, 224, false), (9, 0, false), (10, 512, false), (11, 1536, false), (12, 3584, false), (13, 0, false), (14, 15872, false), (15, 32256, false), (16, 65024, false), (17, 0, false), (18, 131072, false), (19, 393216, false), (20, 917504, false), (21, 0, false), (22, 4063232, false), (23, 8257536, false), (24, 16646144, false), (25, 33554400, true), (26, 67108863, false), (27, 134217727, true)]
def dr53_6 : List (Nat × Nat × Bool) := [(0, 0, false), (1, 0, false), (2, 2, false), (3, 6, false), (4, 14, false), (5, 0, false), (6, 62, false), (7, 126, false), (8, 0, false), (9, 0, false), (10, 768, false), (11, 1792, false), (12, 4094, false), (13, 8191, false), (14, 16383, false)]
def dr53_11 : List (Nat × Nat × Bool) := [(0, 0, false), (1, 1, false), (2, 3, false), (3, 7, false), (4, 0, false), (5, 31, false), (6, 63, false), (7, 0, false), (8, 0, false), (9, 384, false), (10, 896, false), (11, 2047, false), (12, 4095, false)]
def dr61_10 : List (Nat × Nat × Bool) := [(0, 0, false), (1, 1, false), (2, 3, false), (3, 7, false), (4, 0, false), (5, 0, false), (6, 48, false), (7, 112, false), (8, 255, false), (9, 511, false), (10, 1023, false), (11, 2047, false)]
def dr63_4 : List (Nat × Nat × Bool) := [(0, 0, false), (1, 0, false), (2, 3, false), (3, 7, false), (4, 15, false), (5, 15, false), (6, 15, false), (7, 111, false), (8, 239, false), (9, 15, false), (10, 15, false), (11, 1039, false), (12, 3599, false), (13, 7695, false), (14, 16383, true), (15, 32767, false), (16, 65535, false)]
def dr63_6 : List (Nat × Nat × Bool) := [(0, 0, false), (1, 0, false), (2, 0, false), (3, 0, false), (4, 8, false), (5, 0, false), (6, 0, false), (7, 64, false), (8, 224, false), (9, 480, false), (10, 0, false), (11, 0, false), (12, 3072, false), (13, 7168, false), (14, 16355, false), (15, 32739, true), (16, 65535, false), (17, 131071, true)]
def dr64_5 : List (Nat × Nat × Bool) := [(0, 0, false), (1, 0, false), (2, 0, false), (3, 6, false), (4, 14, false), (5, 0, false), (6, 0, false), (7, 96, false), (8, 224, false), (9, 511, true), (10, 1023, false)]
def dr64_11 : List (Nat × Nat × Bool) := [(0, 0, false), (1, 0, false), (2, 0, false), (3, 0, false), (4, 8, false), (5, 0, false), (6, 0, false), (7, 64, false), (8, 224, false), (9, 480, false), (10, 0, false), (11, 0, false), (12, 3072, false), (13, 7168, false), (14, 16355, false), (15, 32739, true), (16, 65535, false), (17, 131071, true)]
def dr64_17 : List (Nat × Nat × Bool) := [(0, 0, false), (1, 0, false), (2, 0, false), (3, 6, false), (4, 14, false), (5, 0, false), (6, 0, false), (7, 96, false), (8, 224, false), (9, 511, true), (10, 1023, false), (11, 2047, false)]
def dr64_23 : List (Nat × Nat × Bool) := [(0, 0, false), (1, 0, false), (2, 0, false), (3, 0, false), (4, 8, false), (5, 0, false), (6, 0, false), (7, 64, false), (8, 224, false), (9, 480, false), (10, 0, false), (11, 0, false), (12, 3072, false), (13, 7168, false), (14, 16355, false), (15, 32739, true), (16, 65535, false), (17, 131071, true)]
def dr64_35 : List (Nat × Nat × Bool) := [(0, 0, false), (1, 0, false), (2, 0, false), (3, 0, false), (4, 12, false), (5, 30, false), (6, 62, false), (7, 0, false), (8, 0, false), (9, 384, false), (10, 896, false), (11, 2047, true), (12, 4095, false), (13, 8191, false)]
def dr66_1 : List (Nat × Nat × Bool) := [(0, 0, false), (1, 1, false), (2, 3, false), (3, 7, false), (4, 0, false), (5, 16, false), (6, 48, false), (7, 112, false), (8, 0, false), (9, 256, false), (10, 768, false), (11, 1792, false), (12, 3840, false), (13, 7936, false), (14, 16128, false), (15, 32752, false), (16, 65535, false), (17, 131071, false)]
def dr69_3 : List (Nat × Nat × Bool) := [(0, 0, false), (1, 0, false), (2, 0, false), (3, 6, false), (4, 0, false), (5, 0, false), (6, 0, false), (7, 96, false), (8, 0, false), (9, 0, false), (10, 0, false), (11, 1536, false), (12, 3840, false), (13, 7936, false), (14, 0, false), (15, 0, false), (16, 0, false), (17, 98304, false), (18, 245760, false), (19, 507904, false), (20, 1048335, false), (21, 2096911, true), (22, 4194303, false), (23, 8388607, true)]
attribute [go_sem] ex_extract ex_move ex_assign ex_nilCheck ex_fieldAddr ex_indexAddr ex_load ex_pick ex_field pick_b ev evs Sl.get_set' ofInt ofBool ofNil mv_some nil_p Nat.zero_add Nat.mul_one List.drop_succ_cons List.drop_zero List.take_succ_cons List.take_zero List.nil_append List.cons_append oneR_some aggR_some cond_true cond_false
attribute [go_sem] IX38 LD41 FA41_0 LD39 IX39 FA41_1 LD3 FA41_2 IX23 LD46 FA46_0 FA46_3 FA46_1 FA46_2 FA46_4 IX61 LD4 IX64 LD66 FA66_1 FA72_4 LD23 FA66_0 FA72_0 FA72_5 LD61 FA72_1 FA72_2 FA72_3
end Go.Ai
