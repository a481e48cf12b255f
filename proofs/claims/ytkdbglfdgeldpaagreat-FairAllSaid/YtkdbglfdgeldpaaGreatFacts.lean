/- Closed facts of the program: offsets, sizes, zero values; which functions have a body. Condition: none. -/
import Derived.Test.YtkdbglfdgeldpaaGreatLtG
import Derived.Test.YtkdbglfdgeldpaaGreatChecked
namespace Go.Proofs.YtkdbglfdgeldpaaGreat
open Go.Lt
theorem ar_138 : arm Tryz.prog 138 = some (2, 3, 1) := by kernel_rfl
theorem ar_147 : arm Tryz.prog 147 = some (7, 146, 1) := by kernel_rfl
theorem ar_209 : arm Tryz.prog 209 = some (3, 1, 1) := by kernel_rfl
theorem el_104 : elm Tryz.prog 104 = some (108, 5, 40) := by kernel_rfl
theorem el_161 : elm Tryz.prog 161 = some (164, 2, 16) := by kernel_rfl
theorem el_25 : elm Tryz.prog 25 = some (39, 1, 24) := by kernel_rfl
theorem el_26 : elm Tryz.prog 26 = some (3, 1, 8) := by kernel_rfl
theorem el_30 : elm Tryz.prog 30 = some (59, 7, 72) := by kernel_rfl
theorem el_39 : elm Tryz.prog 39 = some (46, 4, 32) := by kernel_rfl
theorem el_48 : elm Tryz.prog 48 = some (54, 3, 24) := by kernel_rfl
theorem el_65 : elm Tryz.prog 65 = some (124, 1, 8) := by kernel_rfl
theorem el_85 : elm Tryz.prog 85 = some (55, 1, 8) := by kernel_rfl
theorem el_96 : elm Tryz.prog 96 = some (2, 1, 8) := by kernel_rfl
theorem en_10 : enters Tryz.prog 10 = true := by kernel_rfl
theorem en_103 : enters Tryz.prog 103 = true := by kernel_rfl
theorem en_105 : enters Tryz.prog 105 = true := by kernel_rfl
theorem en_109 : enters Tryz.prog 109 = true := by kernel_rfl
theorem en_11 : enters Tryz.prog 11 = true := by kernel_rfl
theorem en_110 : enters Tryz.prog 110 = true := by kernel_rfl
theorem en_111 : enters Tryz.prog 111 = true := by kernel_rfl
theorem en_112 : enters Tryz.prog 112 = true := by kernel_rfl
theorem en_113 : enters Tryz.prog 113 = true := by kernel_rfl
theorem en_114 : enters Tryz.prog 114 = true := by kernel_rfl
theorem en_115 : enters Tryz.prog 115 = true := by kernel_rfl
theorem en_117 : enters Tryz.prog 117 = true := by kernel_rfl
theorem en_118 : enters Tryz.prog 118 = true := by kernel_rfl
theorem en_119 : enters Tryz.prog 119 = true := by kernel_rfl
theorem en_12 : enters Tryz.prog 12 = true := by kernel_rfl
theorem en_120 : enters Tryz.prog 120 = true := by kernel_rfl
theorem en_121 : enters Tryz.prog 121 = true := by kernel_rfl
theorem en_122 : enters Tryz.prog 122 = true := by kernel_rfl
theorem en_123 : enters Tryz.prog 123 = true := by kernel_rfl
theorem en_125 : enters Tryz.prog 125 = true := by kernel_rfl
theorem en_128 : enters Tryz.prog 128 = true := by kernel_rfl
theorem en_13 : enters Tryz.prog 13 = true := by kernel_rfl
theorem en_130 : enters Tryz.prog 130 = true := by kernel_rfl
theorem en_131 : enters Tryz.prog 131 = true := by kernel_rfl
theorem en_132 : enters Tryz.prog 132 = true := by kernel_rfl
theorem en_136 : enters Tryz.prog 136 = true := by kernel_rfl
theorem en_137 : enters Tryz.prog 137 = true := by kernel_rfl
theorem en_138 : enters Tryz.prog 138 = true := by kernel_rfl
theorem en_139 : enters Tryz.prog 139 = true := by kernel_rfl
theorem en_14 : enters Tryz.prog 14 = true := by kernel_rfl
theorem en_140 : enters Tryz.prog 140 = true := by kernel_rfl
theorem en_15 : enters Tryz.prog 15 = true := by kernel_rfl
theorem en_151 : enters Tryz.prog 151 = true := by kernel_rfl
theorem en_16 : enters Tryz.prog 16 = true := by kernel_rfl
theorem en_161 : enters Tryz.prog 161 = true := by kernel_rfl
theorem en_162 : enters Tryz.prog 162 = true := by kernel_rfl
theorem en_163 : enters Tryz.prog 163 = true := by kernel_rfl
theorem en_164 : enters Tryz.prog 164 = true := by kernel_rfl
theorem en_17 : enters Tryz.prog 17 = true := by kernel_rfl
theorem en_174 : enters Tryz.prog 174 = true := by kernel_rfl
theorem en_18 : enters Tryz.prog 18 = true := by kernel_rfl
theorem en_19 : enters Tryz.prog 19 = true := by kernel_rfl
theorem en_20 : enters Tryz.prog 20 = true := by kernel_rfl
theorem en_21 : enters Tryz.prog 21 = true := by kernel_rfl
theorem en_22 : enters Tryz.prog 22 = true := by kernel_rfl
theorem en_23 : enters Tryz.prog 23 = true := by kernel_rfl
theorem en_24 : enters Tryz.prog 24 = true := by kernel_rfl
theorem en_25 : enters Tryz.prog 25 = true := by kernel_rfl
theorem en_26 : enters Tryz.prog 26 = true := by kernel_rfl
theorem en_28 : enters Tryz.prog 28 = true := by kernel_rfl
theorem en_29 : enters Tryz.prog 29 = true := by kernel_rfl
theorem en_30 : enters Tryz.prog 30 = true := by kernel_rfl
theorem en_39 : enters Tryz.prog 39 = true := by kernel_rfl
theorem en_40 : enters Tryz.prog 40 = true := by kernel_rfl
theorem en_41 : enters Tryz.prog 41 = true := by kernel_rfl
theorem en_42 : enters Tryz.prog 42 = true := by kernel_rfl
theorem en_43 : enters Tryz.prog 43 = true := by kernel_rfl
theorem en_44 : enters Tryz.prog 44 = true := by kernel_rfl
theorem en_45 : enters Tryz.prog 45 = true := by kernel_rfl
theorem en_46 : enters Tryz.prog 46 = true := by kernel_rfl
theorem en_47 : enters Tryz.prog 47 = true := by kernel_rfl
theorem en_48 : enters Tryz.prog 48 = true := by kernel_rfl
theorem en_49 : enters Tryz.prog 49 = true := by kernel_rfl
theorem en_50 : enters Tryz.prog 50 = true := by kernel_rfl
theorem en_51 : enters Tryz.prog 51 = true := by kernel_rfl
theorem en_52 : enters Tryz.prog 52 = true := by kernel_rfl
theorem en_53 : enters Tryz.prog 53 = true := by kernel_rfl
theorem en_54 : enters Tryz.prog 54 = true := by kernel_rfl
theorem en_55 : enters Tryz.prog 55 = true := by kernel_rfl
theorem en_56 : enters Tryz.prog 56 = true := by kernel_rfl
theorem en_57 : enters Tryz.prog 57 = true := by kernel_rfl
theorem en_58 : enters Tryz.prog 58 = true := by kernel_rfl
theorem en_59 : enters Tryz.prog 59 = true := by kernel_rfl
theorem en_60 : enters Tryz.prog 60 = true := by kernel_rfl
theorem en_63 : enters Tryz.prog 63 = true := by kernel_rfl
theorem en_64 : enters Tryz.prog 64 = true := by kernel_rfl
theorem en_72 : enters Tryz.prog 72 = true := by kernel_rfl
theorem en_73 : enters Tryz.prog 73 = true := by kernel_rfl
theorem en_74 : enters Tryz.prog 74 = true := by kernel_rfl
theorem en_75 : enters Tryz.prog 75 = true := by kernel_rfl
theorem en_76 : enters Tryz.prog 76 = true := by kernel_rfl
theorem en_77 : enters Tryz.prog 77 = true := by kernel_rfl
theorem en_78 : enters Tryz.prog 78 = true := by kernel_rfl
theorem en_79 : enters Tryz.prog 79 = true := by kernel_rfl
theorem en_80 : enters Tryz.prog 80 = true := by kernel_rfl
theorem en_81 : enters Tryz.prog 81 = true := by kernel_rfl
theorem en_82 : enters Tryz.prog 82 = true := by kernel_rfl
theorem en_83 : enters Tryz.prog 83 = true := by kernel_rfl
theorem en_84 : enters Tryz.prog 84 = true := by kernel_rfl
theorem en_85 : enters Tryz.prog 85 = true := by kernel_rfl
theorem en_86 : enters Tryz.prog 86 = true := by kernel_rfl
theorem en_87 : enters Tryz.prog 87 = true := by kernel_rfl
theorem en_88 : enters Tryz.prog 88 = true := by kernel_rfl
theorem en_89 : enters Tryz.prog 89 = true := by kernel_rfl
theorem en_90 : enters Tryz.prog 90 = true := by kernel_rfl
theorem en_91 : enters Tryz.prog 91 = true := by kernel_rfl
theorem en_92 : enters Tryz.prog 92 = true := by kernel_rfl
theorem en_93 : enters Tryz.prog 93 = true := by kernel_rfl
theorem en_94 : enters Tryz.prog 94 = true := by kernel_rfl
theorem en_95 : enters Tryz.prog 95 = true := by kernel_rfl
theorem fa_106_0 : faOff Tryz.prog 106 0 = some 0 := by kernel_rfl
theorem fa_106_1 : faOff Tryz.prog 106 1 = some 1 := by kernel_rfl
theorem fa_106_2 : faOff Tryz.prog 106 2 = some 2 := by kernel_rfl
theorem fa_106_3 : faOff Tryz.prog 106 3 = some 3 := by kernel_rfl
theorem fa_108_0 : faOff Tryz.prog 108 0 = some 0 := by kernel_rfl
theorem fa_108_1 : faOff Tryz.prog 108 1 = some 3 := by kernel_rfl
theorem fa_108_2 : faOff Tryz.prog 108 2 = some 4 := by kernel_rfl
theorem fa_121_0 : faOff Tryz.prog 121 0 = some 0 := by kernel_rfl
theorem fa_121_1 : faOff Tryz.prog 121 1 = some 5 := by kernel_rfl
theorem fa_121_2 : faOff Tryz.prog 121 2 = some 6 := by kernel_rfl
theorem fa_121_3 : faOff Tryz.prog 121 3 = some 7 := by kernel_rfl
theorem fa_123_0 : faOff Tryz.prog 123 0 = some 0 := by kernel_rfl
theorem fa_123_1 : faOff Tryz.prog 123 1 = some 1 := by kernel_rfl
theorem fa_123_2 : faOff Tryz.prog 123 2 = some 2 := by kernel_rfl
theorem fa_123_3 : faOff Tryz.prog 123 3 = some 3 := by kernel_rfl
theorem fa_123_4 : faOff Tryz.prog 123 4 = some 4 := by kernel_rfl
theorem fa_123_5 : faOff Tryz.prog 123 5 = some 5 := by kernel_rfl
theorem fa_160_0 : faOff Tryz.prog 160 0 = some 0 := by kernel_rfl
theorem fa_160_1 : faOff Tryz.prog 160 1 = some 1 := by kernel_rfl
theorem fa_160_2 : faOff Tryz.prog 160 2 = some 2 := by kernel_rfl
theorem fa_164_0 : faOff Tryz.prog 164 0 = some 0 := by kernel_rfl
theorem fa_164_1 : faOff Tryz.prog 164 1 = some 1 := by kernel_rfl
theorem fa_192_0 : faOff Tryz.prog 192 0 = some 0 := by kernel_rfl
theorem fa_192_1 : faOff Tryz.prog 192 1 = some 1 := by kernel_rfl
theorem fa_192_2 : faOff Tryz.prog 192 2 = some 2 := by kernel_rfl
theorem fa_192_3 : faOff Tryz.prog 192 3 = some 3 := by kernel_rfl
theorem fa_192_4 : faOff Tryz.prog 192 4 = some 4 := by kernel_rfl
theorem fa_24_0 : faOff Tryz.prog 24 0 = some 0 := by kernel_rfl
theorem fa_24_1 : faOff Tryz.prog 24 1 = some 1 := by kernel_rfl
theorem fa_24_2 : faOff Tryz.prog 24 2 = some 2 := by kernel_rfl
theorem fa_24_3 : faOff Tryz.prog 24 3 = some 3 := by kernel_rfl
theorem fa_24_4 : faOff Tryz.prog 24 4 = some 4 := by kernel_rfl
theorem fa_28_0 : faOff Tryz.prog 28 0 = some 0 := by kernel_rfl
theorem fa_28_1 : faOff Tryz.prog 28 1 = some 5 := by kernel_rfl
theorem fa_46_0 : faOff Tryz.prog 46 0 = some 0 := by kernel_rfl
theorem fa_46_1 : faOff Tryz.prog 46 1 = some 1 := by kernel_rfl
theorem fa_46_2 : faOff Tryz.prog 46 2 = some 2 := by kernel_rfl
theorem fa_46_3 : faOff Tryz.prog 46 3 = some 3 := by kernel_rfl
theorem fa_54_0 : faOff Tryz.prog 54 0 = some 0 := by kernel_rfl
theorem fa_54_1 : faOff Tryz.prog 54 1 = some 1 := by kernel_rfl
theorem fa_57_0 : faOff Tryz.prog 57 0 = some 0 := by kernel_rfl
theorem fa_57_1 : faOff Tryz.prog 57 1 = some 1 := by kernel_rfl
theorem fa_57_2 : faOff Tryz.prog 57 2 = some 2 := by kernel_rfl
theorem fa_57_3 : faOff Tryz.prog 57 3 = some 3 := by kernel_rfl
theorem fa_59_0 : faOff Tryz.prog 59 0 = some 0 := by kernel_rfl
theorem fa_59_1 : faOff Tryz.prog 59 1 = some 1 := by kernel_rfl
theorem fa_59_2 : faOff Tryz.prog 59 2 = some 2 := by kernel_rfl
theorem fa_59_3 : faOff Tryz.prog 59 3 = some 3 := by kernel_rfl
theorem fa_67_0 : faOff Tryz.prog 67 0 = some 0 := by kernel_rfl
theorem fa_67_1 : faOff Tryz.prog 67 1 = some 1 := by kernel_rfl
theorem fa_67_2 : faOff Tryz.prog 67 2 = some 2 := by kernel_rfl
theorem fa_70_0 : faOff Tryz.prog 70 0 = some 0 := by kernel_rfl
theorem fa_70_1 : faOff Tryz.prog 70 1 = some 5 := by kernel_rfl
theorem fa_70_2 : faOff Tryz.prog 70 2 = some 6 := by kernel_rfl
theorem fa_74_0 : faOff Tryz.prog 74 0 = some 0 := by kernel_rfl
theorem fa_74_1 : faOff Tryz.prog 74 1 = some 1 := by kernel_rfl
theorem fa_91_0 : faOff Tryz.prog 91 0 = some 0 := by kernel_rfl
theorem fa_91_1 : faOff Tryz.prog 91 1 = some 6 := by kernel_rfl
theorem fa_91_2 : faOff Tryz.prog 91 2 = some 7 := by kernel_rfl
theorem fa_91_3 : faOff Tryz.prog 91 3 = some 8 := by kernel_rfl
theorem fi_164 : fint Tryz.prog 164 = some [.u64, .i64] := by kernel_rfl
theorem fi_54 : fint Tryz.prog 54 = some [.i64, .i64, .i64] := by kernel_rfl
theorem kn_2 : knd Tryz.prog 2 = some .i64 := by kernel_rfl
theorem kn_22 : knd Tryz.prog 22 = some .u64 := by kernel_rfl
theorem kn_3 : knd Tryz.prog 3 = some .i64 := by kernel_rfl
theorem kn_84 : knd Tryz.prog 84 = some .u64 := by kernel_rfl
theorem lk_1 : lk Tryz.prog 1 = some (false, 1) := by kernel_rfl
theorem lk_104 : lk Tryz.prog 104 = some (false, 1) := by kernel_rfl
theorem lk_106 : lk Tryz.prog 106 = some (true, 4) := by kernel_rfl
theorem lk_108 : lk Tryz.prog 108 = some (true, 5) := by kernel_rfl
theorem lk_118 : lk Tryz.prog 118 = some (false, 1) := by kernel_rfl
theorem lk_119 : lk Tryz.prog 119 = some (false, 1) := by kernel_rfl
theorem lk_124 : lk Tryz.prog 124 = some (false, 1) := by kernel_rfl
theorem lk_138 : lk Tryz.prog 138 = some (true, 2) := by kernel_rfl
theorem lk_146 : lk Tryz.prog 146 = some (false, 1) := by kernel_rfl
theorem lk_147 : lk Tryz.prog 147 = some (true, 7) := by kernel_rfl
theorem lk_158 : lk Tryz.prog 158 = some (false, 1) := by kernel_rfl
theorem lk_164 : lk Tryz.prog 164 = some (true, 2) := by kernel_rfl
theorem lk_2 : lk Tryz.prog 2 = some (false, 1) := by kernel_rfl
theorem lk_22 : lk Tryz.prog 22 = some (false, 1) := by kernel_rfl
theorem lk_24 : lk Tryz.prog 24 = some (true, 5) := by kernel_rfl
theorem lk_25 : lk Tryz.prog 25 = some (false, 1) := by kernel_rfl
theorem lk_26 : lk Tryz.prog 26 = some (false, 1) := by kernel_rfl
theorem lk_28 : lk Tryz.prog 28 = some (true, 6) := by kernel_rfl
theorem lk_3 : lk Tryz.prog 3 = some (false, 1) := by kernel_rfl
theorem lk_30 : lk Tryz.prog 30 = some (false, 1) := by kernel_rfl
theorem lk_39 : lk Tryz.prog 39 = some (false, 1) := by kernel_rfl
theorem lk_4 : lk Tryz.prog 4 = some (false, 1) := by kernel_rfl
theorem lk_46 : lk Tryz.prog 46 = some (true, 4) := by kernel_rfl
theorem lk_48 : lk Tryz.prog 48 = some (false, 1) := by kernel_rfl
theorem lk_54 : lk Tryz.prog 54 = some (true, 3) := by kernel_rfl
theorem lk_55 : lk Tryz.prog 55 = some (false, 1) := by kernel_rfl
theorem lk_57 : lk Tryz.prog 57 = some (true, 4) := by kernel_rfl
theorem lk_59 : lk Tryz.prog 59 = some (true, 7) := by kernel_rfl
theorem lk_60 : lk Tryz.prog 60 = some (false, 1) := by kernel_rfl
theorem lk_65 : lk Tryz.prog 65 = some (false, 1) := by kernel_rfl
theorem lk_68 : lk Tryz.prog 68 = some (false, 1) := by kernel_rfl
theorem lk_89 : lk Tryz.prog 89 = some (false, 1) := by kernel_rfl
theorem mixed : Tryz.prog.follows .mixedOrders = true := by kernel_rfl
theorem mp_119 : mpt Tryz.prog 119 = some (3, 3, .int .i64 0) := by kernel_rfl
theorem mp_158 : mpt Tryz.prog 158 = some (3, 169, .pointer none) := by kernel_rfl
theorem mp_89 : mpt Tryz.prog 89 = some (3, 106, .agg #[.int .u64 0, .slice none 0 0, .slice none 0 0, .bool false]) := by kernel_rfl
theorem pa_138 : plcA Tryz.prog 138 = some (2, 1, [.int .i64 0, .int .i64 0]) := by kernel_rfl
theorem pa_147 : plcA Tryz.prog 147 = some (7, 1, [.nilFunc, .nilFunc, .nilFunc, .nilFunc, .nilFunc, .nilFunc, .nilFunc]) := by kernel_rfl
theorem pa_209 : plcA Tryz.prog 209 = some (3, 1, [.nilFunc, .nilFunc, .nilFunc]) := by kernel_rfl
theorem pl_108 : plc Tryz.prog 108 = some ([(0, 3), (3, 1), (4, 1)], [.int .i64 0, .int .i64 0, .int .i64 0, .int .u64 0, .int .i64 0]) := by kernel_rfl
theorem pl_121 : plc Tryz.prog 121 = some ([(0, 5), (5, 1), (6, 1), (7, 1)], [.int .i64 0, .int .i64 0, .int .i64 0, .int .i64 0, .int .u64 0, .pointer none, .map none, .int .i64 0]) := by kernel_rfl
theorem pl_123 : plc Tryz.prog 123 = some ([(0, 1), (1, 1), (2, 1), (3, 1), (4, 1), (5, 1)], [.int .i64 0, .int .i64 0, .int .u64 0, .slice none 0 0, .int .u64 0, .int .u64 0]) := by kernel_rfl
theorem pl_160 : plc Tryz.prog 160 = some ([(0, 1), (1, 1), (2, 1)], [.map none, .int .u64 0, .int .u64 0]) := by kernel_rfl
theorem pl_164 : plc Tryz.prog 164 = some ([(0, 1), (1, 1)], [.int .u64 0, .int .i64 0]) := by kernel_rfl
theorem pl_192 : plc Tryz.prog 192 = some ([(0, 1), (1, 1), (2, 1), (3, 1), (4, 1)], [.int .u64 0, .int .i64 0, .slice none 0 0, .int .u64 0, .int .u64 0]) := by kernel_rfl
theorem pl_24 : plc Tryz.prog 24 = some ([(0, 1), (1, 1), (2, 1), (3, 1), (4, 1)], [.int .i64 0, .int .i64 0, .int .i64 0, .int .i64 0, .int .u64 0]) := by kernel_rfl
theorem pl_28 : plc Tryz.prog 28 = some ([(0, 5), (5, 1)], [.int .i64 0, .int .i64 0, .int .i64 0, .int .i64 0, .int .u64 0, .slice none 0 0]) := by kernel_rfl
theorem pl_46 : plc Tryz.prog 46 = some ([(0, 1), (1, 1), (2, 1), (3, 1)], [.int .i64 0, .int .i64 0, .int .i64 0, .int .i64 0]) := by kernel_rfl
theorem pl_54 : plc Tryz.prog 54 = some ([(0, 1), (1, 1), (2, 1)], [.int .i64 0, .int .i64 0, .int .i64 0]) := by kernel_rfl
theorem pl_57 : plc Tryz.prog 57 = some ([(0, 1), (1, 1), (2, 1), (3, 1)], [.int .i64 0, .slice none 0 0, .int .i64 0, .int .u64 0]) := by kernel_rfl
theorem pl_59 : plc Tryz.prog 59 = some ([(0, 1), (1, 1), (2, 1), (3, 4)], [.int .i64 0, .int .i64 0, .int .i64 0, .int .i64 0, .slice none 0 0, .int .i64 0, .int .u64 0]) := by kernel_rfl
theorem pl_67 : plc Tryz.prog 67 = some ([(0, 1), (1, 1), (2, 1)], [.slice none 0 0, .int .u64 0, .int .u64 0]) := by kernel_rfl
theorem pl_70 : plc Tryz.prog 70 = some ([(0, 5), (5, 1), (6, 1)], [.int .i64 0, .int .i64 0, .int .i64 0, .int .i64 0, .int .u64 0, .pointer none, .int .i64 0]) := by kernel_rfl
theorem pl_91 : plc Tryz.prog 91 = some ([(0, 6), (6, 1), (7, 1), (8, 1)], [.int .i64 0, .int .i64 0, .int .i64 0, .int .i64 0, .int .u64 0, .slice none 0 0, .slice none 0 0, .map none, .int .u64 0]) := by kernel_rfl
theorem pp_169 : isPtr Tryz.prog 169 = true := by kernel_rfl
theorem pp_42 : isPtr Tryz.prog 42 = true := by kernel_rfl
theorem sl_48 : isSl Tryz.prog 48 = true := by kernel_rfl
theorem un_2 : (Tryz.prog.underlying 2).isSome = true := by kernel_rfl
theorem un_22 : (Tryz.prog.underlying 22).isSome = true := by kernel_rfl
theorem un_3 : (Tryz.prog.underlying 3).isSome = true := by kernel_rfl
theorem un_84 : (Tryz.prog.underlying 84).isSome = true := by kernel_rfl
theorem ze_106 : zer Tryz.prog 106 = some [.int .u64 0, .slice none 0 0, .slice none 0 0, .bool false] := by kernel_rfl
theorem ze_108 : zer Tryz.prog 108 = some [.int .i64 0, .int .i64 0, .int .i64 0, .int .u64 0, .int .i64 0] := by kernel_rfl
theorem ze_124 : zer Tryz.prog 124 = some [.pointer none] := by kernel_rfl
theorem ze_138 : zer Tryz.prog 138 = some [.int .i64 0, .int .i64 0] := by kernel_rfl
theorem ze_147 : zer Tryz.prog 147 = some [.nilFunc, .nilFunc, .nilFunc, .nilFunc, .nilFunc, .nilFunc, .nilFunc] := by kernel_rfl
theorem ze_164 : zer Tryz.prog 164 = some [.int .u64 0, .int .i64 0] := by kernel_rfl
theorem ze_2 : zer Tryz.prog 2 = some [.int .i64 0] := by kernel_rfl
theorem ze_24 : zer Tryz.prog 24 = some [.int .i64 0, .int .i64 0, .int .i64 0, .int .i64 0, .int .u64 0] := by kernel_rfl
theorem ze_28 : zer Tryz.prog 28 = some [.int .i64 0, .int .i64 0, .int .i64 0, .int .i64 0, .int .u64 0, .slice none 0 0] := by kernel_rfl
theorem ze_3 : zer Tryz.prog 3 = some [.int .i64 0] := by kernel_rfl
theorem ze_39 : zer Tryz.prog 39 = some [.slice none 0 0] := by kernel_rfl
theorem ze_46 : zer Tryz.prog 46 = some [.int .i64 0, .int .i64 0, .int .i64 0, .int .i64 0] := by kernel_rfl
theorem ze_54 : zer Tryz.prog 54 = some [.int .i64 0, .int .i64 0, .int .i64 0] := by kernel_rfl
theorem ze_55 : zer Tryz.prog 55 = some [.int .i64 0] := by kernel_rfl
theorem ze_57 : zer Tryz.prog 57 = some [.int .i64 0, .slice none 0 0, .int .i64 0, .int .u64 0] := by kernel_rfl
theorem ze_59 : zer Tryz.prog 59 = some [.int .i64 0, .int .i64 0, .int .i64 0, .int .i64 0, .slice none 0 0, .int .i64 0, .int .u64 0] := by kernel_rfl
theorem ze_60 : zer Tryz.prog 60 = some [.pointer none] := by kernel_rfl
end Go.Proofs.YtkdbglfdgeldpaaGreat
