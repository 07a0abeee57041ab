/- Texts that the laws rest on, packed. -/
import Derived.Test.YtlfocommkkkgdaaDoorGA
import Derived.Test.YtlfocommkkkgdaaDoorProg
namespace Go.Proofs.YtlfocommkkkgdaaDoor
@[go_sem] theorem ty_0 : (Tryd.prog.underlying 0).isSome = true := by kernel_rfl
@[go_sem] theorem ty_1 : tyI Tryd.prog 0 = some (false, 1) := by kernel_rfl
@[go_sem] theorem ty_2 : isIf Tryd.prog 0 = false := by kernel_rfl
@[go_sem] theorem ty_3 : (Tryd.prog.underlying 1).isSome = true := by kernel_rfl
@[go_sem] theorem ty_4 : tyI Tryd.prog 1 = some (false, 1) := by kernel_rfl
@[go_sem] theorem ty_5 : zI Tryd.prog 1 = some [.nilf] := by kernel_rfl
@[go_sem] theorem ty_6 : isIf Tryd.prog 1 = false := by kernel_rfl
@[go_sem] theorem ty_7 : (Tryd.prog.underlying 2).isSome = true := by kernel_rfl
@[go_sem] theorem ty_8 : tyI Tryd.prog 2 = some (false, 1) := by kernel_rfl
@[go_sem] theorem ty_9 : intI Tryd.prog 2 = some .i64 := by kernel_rfl
@[go_sem] theorem ty_10 : zI Tryd.prog 2 = some [.d (.int .i64 0)] := by kernel_rfl
@[go_sem] theorem ty_11 : isIf Tryd.prog 2 = false := by kernel_rfl
@[go_sem] theorem ty_12 : (Tryd.prog.underlying 3).isSome = true := by kernel_rfl
@[go_sem] theorem ty_13 : tyI Tryd.prog 3 = some (false, 1) := by kernel_rfl
@[go_sem] theorem ty_14 : intI Tryd.prog 3 = some .i64 := by kernel_rfl
@[go_sem] theorem ty_15 : zI Tryd.prog 3 = some [.d (.int .i64 0)] := by kernel_rfl
@[go_sem] theorem ty_16 : isIf Tryd.prog 3 = false := by kernel_rfl
@[go_sem] theorem ty_17 : (Tryd.prog.underlying 4).isSome = true := by kernel_rfl
@[go_sem] theorem ty_18 : tyI Tryd.prog 4 = some (false, 1) := by kernel_rfl
@[go_sem] theorem ty_19 : zI Tryd.prog 4 = some [.d (.bool false)] := by kernel_rfl
@[go_sem] theorem ty_20 : isB Tryd.prog 4 = true := by kernel_rfl
@[go_sem] theorem ty_21 : isIf Tryd.prog 4 = false := by kernel_rfl
@[go_sem] theorem ty_22 : (Tryd.prog.underlying 5).isSome = true := by kernel_rfl
@[go_sem] theorem ty_23 : tyI Tryd.prog 5 = some (false, 1) := by kernel_rfl
@[go_sem] theorem ty_24 : intI Tryd.prog 5 = some .u8 := by kernel_rfl
@[go_sem] theorem ty_25 : zI Tryd.prog 5 = some [.d (.int .u8 0)] := by kernel_rfl
@[go_sem] theorem ty_26 : isIf Tryd.prog 5 = false := by kernel_rfl
@[go_sem] theorem ty_27 : (Tryd.prog.underlying 6).isSome = true := by kernel_rfl
@[go_sem] theorem ty_28 : tyI Tryd.prog 6 = some (false, 1) := by kernel_rfl
@[go_sem] theorem ty_29 : intI Tryd.prog 6 = some .u8 := by kernel_rfl
@[go_sem] theorem ty_30 : zI Tryd.prog 6 = some [.d (.int .u8 0)] := by kernel_rfl
@[go_sem] theorem ty_31 : isIf Tryd.prog 6 = false := by kernel_rfl
@[go_sem] theorem ty_32 : (Tryd.prog.underlying 7).isSome = true := by kernel_rfl
@[go_sem] theorem ty_33 : tyI Tryd.prog 7 = some (true, 4) := by kernel_rfl
@[go_sem] theorem ty_34 : fdI Tryd.prog 7 0 = some (0, 1, false) := by kernel_rfl
@[go_sem] theorem ty_35 : fdI Tryd.prog 7 1 = some (1, 1, false) := by kernel_rfl
@[go_sem] theorem ty_36 : fdI Tryd.prog 7 2 = some (2, 1, false) := by kernel_rfl
@[go_sem] theorem ty_37 : fdI Tryd.prog 7 3 = some (3, 1, false) := by kernel_rfl
@[go_sem] theorem ty_38 : bdI Tryd.prog 7 = some ([.d (.int .i64 0), .d (.int .i64 0), .d (.bool false), .d (.int .u8 0)], [(0, 1), (1, 1), (2, 1), (3, 1)]) := by kernel_rfl
@[go_sem] theorem ty_39 : zI Tryd.prog 7 = some [.d (.int .i64 0), .d (.int .i64 0), .d (.bool false), .d (.int .u8 0)] := by kernel_rfl
@[go_sem] theorem ty_40 : eqI Tryd.prog 7 = some [1, 1, 2, 1] := by kernel_rfl
@[go_sem] theorem ty_41 : isIf Tryd.prog 7 = false := by kernel_rfl
@[go_sem] theorem ty_42 : (Tryd.prog.underlying 8).isSome = true := by kernel_rfl
@[go_sem] theorem ty_43 : tyI Tryd.prog 8 = some (true, 4) := by kernel_rfl
@[go_sem] theorem ty_44 : fdI Tryd.prog 8 0 = some (0, 1, false) := by kernel_rfl
@[go_sem] theorem ty_45 : fdI Tryd.prog 8 1 = some (1, 1, false) := by kernel_rfl
@[go_sem] theorem ty_46 : fdI Tryd.prog 8 2 = some (2, 1, false) := by kernel_rfl
@[go_sem] theorem ty_47 : fdI Tryd.prog 8 3 = some (3, 1, false) := by kernel_rfl
@[go_sem] theorem ty_48 : bdI Tryd.prog 8 = some ([.d (.int .i64 0), .d (.int .i64 0), .d (.bool false), .d (.int .u8 0)], [(0, 1), (1, 1), (2, 1), (3, 1)]) := by kernel_rfl
@[go_sem] theorem ty_49 : zI Tryd.prog 8 = some [.d (.int .i64 0), .d (.int .i64 0), .d (.bool false), .d (.int .u8 0)] := by kernel_rfl
@[go_sem] theorem ty_50 : eqI Tryd.prog 8 = some [1, 1, 2, 1] := by kernel_rfl
@[go_sem] theorem ty_51 : isIf Tryd.prog 8 = false := by kernel_rfl
@[go_sem] theorem ty_52 : (Tryd.prog.underlying 9).isSome = true := by kernel_rfl
@[go_sem] theorem ty_53 : tyI Tryd.prog 9 = some (false, 1) := by kernel_rfl
@[go_sem] theorem ty_54 : zI Tryd.prog 9 = some [.d (.str [])] := by kernel_rfl
@[go_sem] theorem ty_55 : isStr Tryd.prog 9 = true := by kernel_rfl
@[go_sem] theorem ty_56 : isIf Tryd.prog 9 = false := by kernel_rfl
@[go_sem] theorem ty_57 : (Tryd.prog.underlying 10).isSome = true := by kernel_rfl
@[go_sem] theorem ty_58 : tyI Tryd.prog 10 = some (false, 1) := by kernel_rfl
@[go_sem] theorem ty_59 : zI Tryd.prog 10 = some [.d (.str [])] := by kernel_rfl
@[go_sem] theorem ty_60 : isStr Tryd.prog 10 = true := by kernel_rfl
@[go_sem] theorem ty_61 : isIf Tryd.prog 10 = false := by kernel_rfl
@[go_sem] theorem ty_62 : (Tryd.prog.underlying 11).isSome = true := by kernel_rfl
@[go_sem] theorem ty_63 : tyI Tryd.prog 11 = some (false, 1) := by kernel_rfl
@[go_sem] theorem ty_64 : zI Tryd.prog 11 = some [.d (.str [])] := by kernel_rfl
@[go_sem] theorem ty_65 : isStr Tryd.prog 11 = true := by kernel_rfl
@[go_sem] theorem ty_66 : isIf Tryd.prog 11 = false := by kernel_rfl
@[go_sem] theorem ty_67 : (Tryd.prog.underlying 12).isSome = true := by kernel_rfl
@[go_sem] theorem ty_68 : tyI Tryd.prog 12 = some (false, 1) := by kernel_rfl
@[go_sem] theorem ty_69 : intI Tryd.prog 12 = some .u64 := by kernel_rfl
@[go_sem] theorem ty_70 : zI Tryd.prog 12 = some [.d (.int .u64 0)] := by kernel_rfl
@[go_sem] theorem ty_71 : isIf Tryd.prog 12 = false := by kernel_rfl
@[go_sem] theorem ty_72 : (Tryd.prog.underlying 13).isSome = true := by kernel_rfl
@[go_sem] theorem ty_73 : tyI Tryd.prog 13 = some (true, 2) := by kernel_rfl
@[go_sem] theorem ty_74 : fdI Tryd.prog 13 0 = some (0, 1, false) := by kernel_rfl
@[go_sem] theorem ty_75 : fdI Tryd.prog 13 1 = some (1, 1, false) := by kernel_rfl
@[go_sem] theorem ty_76 : bdI Tryd.prog 13 = some ([.d (.str []), .d (.int .u64 0)], [(0, 1), (1, 1)]) := by kernel_rfl
@[go_sem] theorem ty_77 : zI Tryd.prog 13 = some [.d (.str []), .d (.int .u64 0)] := by kernel_rfl
@[go_sem] theorem ty_78 : isIf Tryd.prog 13 = false := by kernel_rfl
@[go_sem] theorem ty_79 : (Tryd.prog.underlying 14).isSome = true := by kernel_rfl
@[go_sem] theorem ty_80 : tyI Tryd.prog 14 = some (true, 2) := by kernel_rfl
@[go_sem] theorem ty_81 : fdI Tryd.prog 14 0 = some (0, 1, false) := by kernel_rfl
@[go_sem] theorem ty_82 : fdI Tryd.prog 14 1 = some (1, 1, false) := by kernel_rfl
@[go_sem] theorem ty_83 : bdI Tryd.prog 14 = some ([.d (.str []), .d (.int .u64 0)], [(0, 1), (1, 1)]) := by kernel_rfl
@[go_sem] theorem ty_84 : zI Tryd.prog 14 = some [.d (.str []), .d (.int .u64 0)] := by kernel_rfl
@[go_sem] theorem ty_85 : isIf Tryd.prog 14 = false := by kernel_rfl
@[go_sem] theorem ty_86 : (Tryd.prog.underlying 15).isSome = true := by kernel_rfl
@[go_sem] theorem ty_87 : tyI Tryd.prog 15 = some (false, 1) := by kernel_rfl
@[go_sem] theorem ty_88 : zI Tryd.prog 15 = some [.nilp] := by kernel_rfl
@[go_sem] theorem ty_89 : isIf Tryd.prog 15 = false := by kernel_rfl
@[go_sem] theorem ty_90 : (Tryd.prog.underlying 16).isSome = true := by kernel_rfl
@[go_sem] theorem ty_91 : tyI Tryd.prog 16 = some (false, 1) := by kernel_rfl
@[go_sem] theorem ty_92 : zI Tryd.prog 16 = some [.nilp] := by kernel_rfl
@[go_sem] theorem ty_93 : isIf Tryd.prog 16 = false := by kernel_rfl
@[go_sem] theorem ty_94 : (Tryd.prog.underlying 17).isSome = true := by kernel_rfl
@[go_sem] theorem ty_95 : tyI Tryd.prog 17 = some (false, 1) := by kernel_rfl
@[go_sem] theorem ty_96 : zI Tryd.prog 17 = some [.nilp] := by kernel_rfl
@[go_sem] theorem ty_97 : isIf Tryd.prog 17 = false := by kernel_rfl
@[go_sem] theorem ty_98 : (Tryd.prog.underlying 18).isSome = true := by kernel_rfl
@[go_sem] theorem ty_99 : tyI Tryd.prog 18 = some (true, 1) := by kernel_rfl
@[go_sem] theorem ty_100 : fdI Tryd.prog 18 0 = some (0, 1, false) := by kernel_rfl
@[go_sem] theorem ty_101 : bdI Tryd.prog 18 = some ([.nilp], [(0, 1)]) := by kernel_rfl
@[go_sem] theorem ty_102 : zI Tryd.prog 18 = some [.nilp] := by kernel_rfl
@[go_sem] theorem ty_103 : isIf Tryd.prog 18 = false := by kernel_rfl
@[go_sem] theorem ty_104 : (Tryd.prog.underlying 19).isSome = true := by kernel_rfl
@[go_sem] theorem ty_105 : tyI Tryd.prog 19 = some (true, 1) := by kernel_rfl
@[go_sem] theorem ty_106 : fdI Tryd.prog 19 0 = some (0, 1, false) := by kernel_rfl
@[go_sem] theorem ty_107 : bdI Tryd.prog 19 = some ([.nilp], [(0, 1)]) := by kernel_rfl
@[go_sem] theorem ty_108 : zI Tryd.prog 19 = some [.nilp] := by kernel_rfl
@[go_sem] theorem ty_109 : isIf Tryd.prog 19 = false := by kernel_rfl
@[go_sem] theorem ty_110 : (Tryd.prog.underlying 20).isSome = true := by kernel_rfl
@[go_sem] theorem ty_111 : tyI Tryd.prog 20 = some (false, 1) := by kernel_rfl
@[go_sem] theorem ty_112 : zI Tryd.prog 20 = some [.nili] := by kernel_rfl
@[go_sem] theorem ty_113 : isE Tryd.prog 20 = true := by kernel_rfl
@[go_sem] theorem ty_114 : isIf Tryd.prog 20 = true := by kernel_rfl
@[go_sem] theorem ty_115 : (Tryd.prog.underlying 21).isSome = true := by kernel_rfl
@[go_sem] theorem ty_116 : tyI Tryd.prog 21 = some (false, 1) := by kernel_rfl
@[go_sem] theorem ty_117 : intI Tryd.prog 21 = some .i32 := by kernel_rfl
@[go_sem] theorem ty_118 : zI Tryd.prog 21 = some [.d (.int .i32 0)] := by kernel_rfl
@[go_sem] theorem ty_119 : isIf Tryd.prog 21 = false := by kernel_rfl
@[go_sem] theorem ty_120 : (Tryd.prog.underlying 22).isSome = true := by kernel_rfl
@[go_sem] theorem ty_121 : tyI Tryd.prog 22 = some (false, 1) := by kernel_rfl
@[go_sem] theorem ty_122 : slI Tryd.prog 22 = some (38, 12, 192) := by kernel_rfl
@[go_sem] theorem ty_123 : zI Tryd.prog 22 = some [.nils] := by kernel_rfl
@[go_sem] theorem ty_124 : isIf Tryd.prog 22 = false := by kernel_rfl
@[go_sem] theorem ty_125 : isBytes Tryd.prog 22 = false := by kernel_rfl
@[go_sem] theorem ty_126 : isSl Tryd.prog 22 = true := by kernel_rfl
@[go_sem] theorem ty_127 : (Tryd.prog.underlying 23).isSome = true := by kernel_rfl
@[go_sem] theorem ty_128 : tyI Tryd.prog 23 = some (false, 1) := by kernel_rfl
@[go_sem] theorem ty_129 : zI Tryd.prog 23 = some [.nilf] := by kernel_rfl
@[go_sem] theorem ty_130 : isIf Tryd.prog 23 = false := by kernel_rfl
@[go_sem] theorem ty_131 : (Tryd.prog.underlying 24).isSome = true := by kernel_rfl
@[go_sem] theorem ty_132 : tyI Tryd.prog 24 = some (false, 1) := by kernel_rfl
@[go_sem] theorem ty_133 : intI Tryd.prog 24 = some .i64 := by kernel_rfl
@[go_sem] theorem ty_134 : zI Tryd.prog 24 = some [.d (.int .i64 0)] := by kernel_rfl
@[go_sem] theorem ty_135 : isIf Tryd.prog 24 = false := by kernel_rfl
@[go_sem] theorem ty_136 : (Tryd.prog.underlying 25).isSome = true := by kernel_rfl
@[go_sem] theorem ty_137 : tyI Tryd.prog 25 = some (false, 1) := by kernel_rfl
@[go_sem] theorem ty_138 : zI Tryd.prog 25 = some [.nilf] := by kernel_rfl
@[go_sem] theorem ty_139 : isIf Tryd.prog 25 = false := by kernel_rfl
@[go_sem] theorem ty_140 : (Tryd.prog.underlying 26).isSome = true := by kernel_rfl
@[go_sem] theorem ty_141 : tyI Tryd.prog 26 = some (false, 1) := by kernel_rfl
@[go_sem] theorem ty_142 : zI Tryd.prog 26 = some [.nilf] := by kernel_rfl
@[go_sem] theorem ty_143 : isIf Tryd.prog 26 = false := by kernel_rfl
@[go_sem] theorem ty_144 : (Tryd.prog.underlying 27).isSome = true := by kernel_rfl
@[go_sem] theorem ty_145 : tyI Tryd.prog 27 = some (false, 1) := by kernel_rfl
@[go_sem] theorem ty_146 : zI Tryd.prog 27 = some [.nilf] := by kernel_rfl
@[go_sem] theorem ty_147 : isIf Tryd.prog 27 = false := by kernel_rfl
@[go_sem] theorem ty_148 : (Tryd.prog.underlying 28).isSome = true := by kernel_rfl
@[go_sem] theorem ty_149 : tyI Tryd.prog 28 = some (false, 1) := by kernel_rfl
@[go_sem] theorem ty_150 : slI Tryd.prog 28 = some (54, 3, 32) := by kernel_rfl
@[go_sem] theorem ty_151 : zI Tryd.prog 28 = some [.nils] := by kernel_rfl
@[go_sem] theorem ty_152 : isIf Tryd.prog 28 = false := by kernel_rfl
@[go_sem] theorem ty_153 : isBytes Tryd.prog 28 = false := by kernel_rfl
@[go_sem] theorem ty_154 : isSl Tryd.prog 28 = true := by kernel_rfl
@[go_sem] theorem ty_155 : (Tryd.prog.underlying 29).isSome = true := by kernel_rfl
@[go_sem] theorem ty_156 : tyI Tryd.prog 29 = some (false, 1) := by kernel_rfl
@[go_sem] theorem ty_157 : isIf Tryd.prog 29 = false := by kernel_rfl
@[go_sem] theorem ty_158 : (Tryd.prog.underlying 30).isSome = true := by kernel_rfl
@[go_sem] theorem ty_159 : tyI Tryd.prog 30 = some (false, 1) := by kernel_rfl
@[go_sem] theorem ty_160 : zI Tryd.prog 30 = some [.nilf] := by kernel_rfl
@[go_sem] theorem ty_161 : isIf Tryd.prog 30 = false := by kernel_rfl
@[go_sem] theorem ty_162 : (Tryd.prog.underlying 31).isSome = true := by kernel_rfl
@[go_sem] theorem ty_163 : tyI Tryd.prog 31 = some (false, 1) := by kernel_rfl
@[go_sem] theorem ty_164 : zI Tryd.prog 31 = some [.nilf] := by kernel_rfl
@[go_sem] theorem ty_165 : isIf Tryd.prog 31 = false := by kernel_rfl
@[go_sem] theorem ty_166 : (Tryd.prog.underlying 32).isSome = true := by kernel_rfl
@[go_sem] theorem ty_167 : tyI Tryd.prog 32 = some (false, 1) := by kernel_rfl
@[go_sem] theorem ty_168 : zI Tryd.prog 32 = some [.nilf] := by kernel_rfl
@[go_sem] theorem ty_169 : isIf Tryd.prog 32 = false := by kernel_rfl
@[go_sem] theorem ty_170 : (Tryd.prog.underlying 33).isSome = true := by kernel_rfl
@[go_sem] theorem ty_171 : tyI Tryd.prog 33 = some (false, 1) := by kernel_rfl
@[go_sem] theorem ty_172 : slI Tryd.prog 33 = some (9, 1, 16) := by kernel_rfl
@[go_sem] theorem ty_173 : zI Tryd.prog 33 = some [.nils] := by kernel_rfl
@[go_sem] theorem ty_174 : isIf Tryd.prog 33 = false := by kernel_rfl
@[go_sem] theorem ty_175 : isBytes Tryd.prog 33 = false := by kernel_rfl
@[go_sem] theorem ty_176 : isSl Tryd.prog 33 = true := by kernel_rfl
@[go_sem] theorem ty_177 : (Tryd.prog.underlying 34).isSome = true := by kernel_rfl
@[go_sem] theorem ty_178 : tyI Tryd.prog 34 = some (false, 1) := by kernel_rfl
@[go_sem] theorem ty_179 : slI Tryd.prog 34 = some (36, 8, 112) := by kernel_rfl
@[go_sem] theorem ty_180 : zI Tryd.prog 34 = some [.nils] := by kernel_rfl
@[go_sem] theorem ty_181 : isIf Tryd.prog 34 = false := by kernel_rfl
@[go_sem] theorem ty_182 : isBytes Tryd.prog 34 = false := by kernel_rfl
@[go_sem] theorem ty_183 : isSl Tryd.prog 34 = true := by kernel_rfl
@[go_sem] theorem ty_184 : (Tryd.prog.underlying 35).isSome = true := by kernel_rfl
@[go_sem] theorem ty_185 : tyI Tryd.prog 35 = some (true, 8) := by kernel_rfl
@[go_sem] theorem ty_186 : fdI Tryd.prog 35 0 = some (0, 1, false) := by kernel_rfl
@[go_sem] theorem ty_187 : fdI Tryd.prog 35 1 = some (1, 1, false) := by kernel_rfl
@[go_sem] theorem ty_188 : fdI Tryd.prog 35 2 = some (2, 1, false) := by kernel_rfl
@[go_sem] theorem ty_189 : fdI Tryd.prog 35 3 = some (3, 1, false) := by kernel_rfl
@[go_sem] theorem ty_190 : fdI Tryd.prog 35 4 = some (4, 1, false) := by kernel_rfl
@[go_sem] theorem ty_191 : fdI Tryd.prog 35 5 = some (5, 1, false) := by kernel_rfl
@[go_sem] theorem ty_192 : fdI Tryd.prog 35 6 = some (6, 1, false) := by kernel_rfl
@[go_sem] theorem ty_193 : fdI Tryd.prog 35 7 = some (7, 1, false) := by kernel_rfl
@[go_sem] theorem ty_194 : bdI Tryd.prog 35 = some ([.d (.int .i64 0), .d (.int .i64 0), .d (.int .i64 0), .nils, .nils, .d (.bool false), .d (.int .i64 0), .nils], [(0, 1), (1, 1), (2, 1), (3, 1), (4, 1), (5, 1), (6, 1), (7, 1)]) := by kernel_rfl
@[go_sem] theorem ty_195 : zI Tryd.prog 35 = some [.d (.int .i64 0), .d (.int .i64 0), .d (.int .i64 0), .nils, .nils, .d (.bool false), .d (.int .i64 0), .nils] := by kernel_rfl
@[go_sem] theorem ty_196 : isIf Tryd.prog 35 = false := by kernel_rfl
@[go_sem] theorem ty_197 : (Tryd.prog.underlying 36).isSome = true := by kernel_rfl
@[go_sem] theorem ty_198 : tyI Tryd.prog 36 = some (true, 8) := by kernel_rfl
@[go_sem] theorem ty_199 : fdI Tryd.prog 36 0 = some (0, 1, false) := by kernel_rfl
@[go_sem] theorem ty_200 : fdI Tryd.prog 36 1 = some (1, 1, false) := by kernel_rfl
@[go_sem] theorem ty_201 : fdI Tryd.prog 36 2 = some (2, 1, false) := by kernel_rfl
@[go_sem] theorem ty_202 : fdI Tryd.prog 36 3 = some (3, 1, false) := by kernel_rfl
@[go_sem] theorem ty_203 : fdI Tryd.prog 36 4 = some (4, 1, false) := by kernel_rfl
@[go_sem] theorem ty_204 : fdI Tryd.prog 36 5 = some (5, 1, false) := by kernel_rfl
@[go_sem] theorem ty_205 : fdI Tryd.prog 36 6 = some (6, 1, false) := by kernel_rfl
@[go_sem] theorem ty_206 : fdI Tryd.prog 36 7 = some (7, 1, false) := by kernel_rfl
@[go_sem] theorem ty_207 : bdI Tryd.prog 36 = some ([.d (.int .i64 0), .d (.int .i64 0), .d (.int .i64 0), .nils, .nils, .d (.bool false), .d (.int .i64 0), .nils], [(0, 1), (1, 1), (2, 1), (3, 1), (4, 1), (5, 1), (6, 1), (7, 1)]) := by kernel_rfl
@[go_sem] theorem ty_208 : zI Tryd.prog 36 = some [.d (.int .i64 0), .d (.int .i64 0), .d (.int .i64 0), .nils, .nils, .d (.bool false), .d (.int .i64 0), .nils] := by kernel_rfl
@[go_sem] theorem ty_209 : isIf Tryd.prog 36 = false := by kernel_rfl
@[go_sem] theorem ty_210 : (Tryd.prog.underlying 37).isSome = true := by kernel_rfl
@[go_sem] theorem ty_211 : tyI Tryd.prog 37 = some (true, 12) := by kernel_rfl
@[go_sem] theorem ty_212 : fdI Tryd.prog 37 0 = some (0, 1, false) := by kernel_rfl
@[go_sem] theorem ty_213 : fdI Tryd.prog 37 1 = some (1, 1, false) := by kernel_rfl
@[go_sem] theorem ty_214 : fdI Tryd.prog 37 2 = some (2, 8, true) := by kernel_rfl
@[go_sem] theorem ty_215 : fdI Tryd.prog 37 3 = some (10, 1, false) := by kernel_rfl
@[go_sem] theorem ty_216 : fdI Tryd.prog 37 4 = some (11, 1, false) := by kernel_rfl
@[go_sem] theorem ty_217 : bdI Tryd.prog 37 = some ([.d (.int .i64 0), .nils, .d (.int .i64 0), .d (.int .i64 0), .d (.int .i64 0), .nils, .nils, .d (.bool false), .d (.int .i64 0), .nils, .nils, .nils], [(0, 1), (1, 1), (2, 8), (10, 1), (11, 1)]) := by kernel_rfl
@[go_sem] theorem ty_218 : zI Tryd.prog 37 = some [.d (.int .i64 0), .nils, .d (.int .i64 0), .d (.int .i64 0), .d (.int .i64 0), .nils, .nils, .d (.bool false), .d (.int .i64 0), .nils, .nils, .nils] := by kernel_rfl
@[go_sem] theorem ty_219 : isIf Tryd.prog 37 = false := by kernel_rfl
@[go_sem] theorem ty_220 : (Tryd.prog.underlying 38).isSome = true := by kernel_rfl
@[go_sem] theorem ty_221 : tyI Tryd.prog 38 = some (true, 12) := by kernel_rfl
@[go_sem] theorem ty_222 : fdI Tryd.prog 38 0 = some (0, 1, false) := by kernel_rfl
@[go_sem] theorem ty_223 : fdI Tryd.prog 38 1 = some (1, 1, false) := by kernel_rfl
@[go_sem] theorem ty_224 : fdI Tryd.prog 38 2 = some (2, 8, true) := by kernel_rfl
@[go_sem] theorem ty_225 : fdI Tryd.prog 38 3 = some (10, 1, false) := by kernel_rfl
@[go_sem] theorem ty_226 : fdI Tryd.prog 38 4 = some (11, 1, false) := by kernel_rfl
@[go_sem] theorem ty_227 : bdI Tryd.prog 38 = some ([.d (.int .i64 0), .nils, .d (.int .i64 0), .d (.int .i64 0), .d (.int .i64 0), .nils, .nils, .d (.bool false), .d (.int .i64 0), .nils, .nils, .nils], [(0, 1), (1, 1), (2, 8), (10, 1), (11, 1)]) := by kernel_rfl
@[go_sem] theorem ty_228 : zI Tryd.prog 38 = some [.d (.int .i64 0), .nils, .d (.int .i64 0), .d (.int .i64 0), .d (.int .i64 0), .nils, .nils, .d (.bool false), .d (.int .i64 0), .nils, .nils, .nils] := by kernel_rfl
@[go_sem] theorem ty_229 : isIf Tryd.prog 38 = false := by kernel_rfl
@[go_sem] theorem ty_230 : (Tryd.prog.underlying 39).isSome = true := by kernel_rfl
@[go_sem] theorem ty_231 : tyI Tryd.prog 39 = some (false, 1) := by kernel_rfl
@[go_sem] theorem ty_232 : zI Tryd.prog 39 = some [.nilf] := by kernel_rfl
@[go_sem] theorem ty_233 : isIf Tryd.prog 39 = false := by kernel_rfl
@[go_sem] theorem ty_234 : (Tryd.prog.underlying 40).isSome = true := by kernel_rfl
@[go_sem] theorem ty_235 : tyI Tryd.prog 40 = some (false, 1) := by kernel_rfl
@[go_sem] theorem ty_236 : zI Tryd.prog 40 = some [.nilp] := by kernel_rfl
@[go_sem] theorem ty_237 : isIf Tryd.prog 40 = false := by kernel_rfl
@[go_sem] theorem ty_238 : (Tryd.prog.underlying 41).isSome = true := by kernel_rfl
@[go_sem] theorem ty_239 : tyI Tryd.prog 41 = some (false, 1) := by kernel_rfl
@[go_sem] theorem ty_240 : isIf Tryd.prog 41 = false := by kernel_rfl
@[go_sem] theorem ty_241 : (Tryd.prog.underlying 42).isSome = true := by kernel_rfl
@[go_sem] theorem ty_242 : tyI Tryd.prog 42 = some (true, 1) := by kernel_rfl
@[go_sem] theorem ty_243 : fdI Tryd.prog 42 0 = some (0, 1, false) := by kernel_rfl
@[go_sem] theorem ty_244 : isIf Tryd.prog 42 = false := by kernel_rfl
@[go_sem] theorem ty_245 : (Tryd.prog.underlying 43).isSome = true := by kernel_rfl
@[go_sem] theorem ty_246 : tyI Tryd.prog 43 = some (true, 1) := by kernel_rfl
@[go_sem] theorem ty_247 : fdI Tryd.prog 43 0 = some (0, 1, false) := by kernel_rfl
@[go_sem] theorem ty_248 : isIf Tryd.prog 43 = false := by kernel_rfl
@[go_sem] theorem ty_249 : (Tryd.prog.underlying 44).isSome = true := by kernel_rfl
@[go_sem] theorem ty_250 : tyI Tryd.prog 44 = some (false, 1) := by kernel_rfl
@[go_sem] theorem ty_251 : zI Tryd.prog 44 = some [.nilf] := by kernel_rfl
@[go_sem] theorem ty_252 : isIf Tryd.prog 44 = false := by kernel_rfl
@[go_sem] theorem ty_253 : (Tryd.prog.underlying 45).isSome = true := by kernel_rfl
@[go_sem] theorem ty_254 : tyI Tryd.prog 45 = some (true, 4) := by kernel_rfl
@[go_sem] theorem ty_255 : arI Tryd.prog 45 = some (4, 1, false) := by kernel_rfl
@[go_sem] theorem ty_256 : bdI Tryd.prog 45 = some ([.d (.str []), .d (.str []), .d (.str []), .d (.str [])], [(0, 1), (1, 1), (2, 1), (3, 1)]) := by kernel_rfl
@[go_sem] theorem ty_257 : zI Tryd.prog 45 = some [.d (.str []), .d (.str []), .d (.str []), .d (.str [])] := by kernel_rfl
@[go_sem] theorem ty_258 : isIf Tryd.prog 45 = false := by kernel_rfl
@[go_sem] theorem ty_259 : (Tryd.prog.underlying 46).isSome = true := by kernel_rfl
@[go_sem] theorem ty_260 : tyI Tryd.prog 46 = some (true, 0) := by kernel_rfl
@[go_sem] theorem ty_261 : bdI Tryd.prog 46 = some ([], []) := by kernel_rfl
@[go_sem] theorem ty_262 : zI Tryd.prog 46 = some [] := by kernel_rfl
@[go_sem] theorem ty_263 : eqI Tryd.prog 46 = some [] := by kernel_rfl
@[go_sem] theorem ty_264 : isIf Tryd.prog 46 = false := by kernel_rfl
@[go_sem] theorem ty_265 : (Tryd.prog.underlying 47).isSome = true := by kernel_rfl
@[go_sem] theorem ty_266 : tyI Tryd.prog 47 = some (false, 1) := by kernel_rfl
@[go_sem] theorem ty_267 : zI Tryd.prog 47 = some [.nilf] := by kernel_rfl
@[go_sem] theorem ty_268 : isIf Tryd.prog 47 = false := by kernel_rfl
@[go_sem] theorem ty_269 : (Tryd.prog.underlying 48).isSome = true := by kernel_rfl
@[go_sem] theorem ty_270 : tyI Tryd.prog 48 = some (false, 1) := by kernel_rfl
@[go_sem] theorem ty_271 : zI Tryd.prog 48 = some [.nilf] := by kernel_rfl
@[go_sem] theorem ty_272 : isIf Tryd.prog 48 = false := by kernel_rfl
@[go_sem] theorem ty_273 : (Tryd.prog.underlying 49).isSome = true := by kernel_rfl
@[go_sem] theorem ty_274 : tyI Tryd.prog 49 = some (false, 1) := by kernel_rfl
@[go_sem] theorem ty_275 : zI Tryd.prog 49 = some [.nilp] := by kernel_rfl
@[go_sem] theorem ty_276 : isIf Tryd.prog 49 = false := by kernel_rfl
@[go_sem] theorem ty_277 : (Tryd.prog.underlying 50).isSome = true := by kernel_rfl
@[go_sem] theorem ty_278 : tyI Tryd.prog 50 = some (true, 2) := by kernel_rfl
@[go_sem] theorem ty_279 : fdI Tryd.prog 50 0 = some (0, 1, false) := by kernel_rfl
@[go_sem] theorem ty_280 : fdI Tryd.prog 50 1 = some (1, 1, false) := by kernel_rfl
@[go_sem] theorem ty_281 : bdI Tryd.prog 50 = some ([.d (.str []), .d (.int .i64 0)], [(0, 1), (1, 1)]) := by kernel_rfl
@[go_sem] theorem ty_282 : zI Tryd.prog 50 = some [.d (.str []), .d (.int .i64 0)] := by kernel_rfl
@[go_sem] theorem ty_283 : eqI Tryd.prog 50 = some [3, 1] := by kernel_rfl
@[go_sem] theorem ty_284 : isIf Tryd.prog 50 = false := by kernel_rfl
@[go_sem] theorem ty_285 : (Tryd.prog.underlying 51).isSome = true := by kernel_rfl
@[go_sem] theorem ty_286 : tyI Tryd.prog 51 = some (true, 2) := by kernel_rfl
@[go_sem] theorem ty_287 : fdI Tryd.prog 51 0 = some (0, 1, false) := by kernel_rfl
@[go_sem] theorem ty_288 : fdI Tryd.prog 51 1 = some (1, 1, false) := by kernel_rfl
@[go_sem] theorem ty_289 : bdI Tryd.prog 51 = some ([.d (.str []), .d (.int .i64 0)], [(0, 1), (1, 1)]) := by kernel_rfl
@[go_sem] theorem ty_290 : zI Tryd.prog 51 = some [.d (.str []), .d (.int .i64 0)] := by kernel_rfl
@[go_sem] theorem ty_291 : eqI Tryd.prog 51 = some [3, 1] := by kernel_rfl
@[go_sem] theorem ty_292 : isIf Tryd.prog 51 = false := by kernel_rfl
@[go_sem] theorem ty_293 : (Tryd.prog.underlying 52).isSome = true := by kernel_rfl
@[go_sem] theorem ty_294 : tyI Tryd.prog 52 = some (false, 1) := by kernel_rfl
@[go_sem] theorem ty_295 : zI Tryd.prog 52 = some [.nilf] := by kernel_rfl
@[go_sem] theorem ty_296 : isIf Tryd.prog 52 = false := by kernel_rfl
@[go_sem] theorem ty_297 : (Tryd.prog.underlying 53).isSome = true := by kernel_rfl
@[go_sem] theorem ty_298 : tyI Tryd.prog 53 = some (true, 3) := by kernel_rfl
@[go_sem] theorem ty_299 : fdI Tryd.prog 53 0 = some (0, 1, false) := by kernel_rfl
@[go_sem] theorem ty_300 : fdI Tryd.prog 53 1 = some (1, 1, false) := by kernel_rfl
@[go_sem] theorem ty_301 : fdI Tryd.prog 53 2 = some (2, 1, false) := by kernel_rfl
@[go_sem] theorem ty_302 : bdI Tryd.prog 53 = some ([.d (.int .i64 0), .d (.str []), .d (.int .i64 0)], [(0, 1), (1, 1), (2, 1)]) := by kernel_rfl
@[go_sem] theorem ty_303 : zI Tryd.prog 53 = some [.d (.int .i64 0), .d (.str []), .d (.int .i64 0)] := by kernel_rfl
@[go_sem] theorem ty_304 : eqI Tryd.prog 53 = some [1, 3, 1] := by kernel_rfl
@[go_sem] theorem ty_305 : isIf Tryd.prog 53 = false := by kernel_rfl
@[go_sem] theorem ty_306 : (Tryd.prog.underlying 54).isSome = true := by kernel_rfl
@[go_sem] theorem ty_307 : tyI Tryd.prog 54 = some (true, 3) := by kernel_rfl
@[go_sem] theorem ty_308 : fdI Tryd.prog 54 0 = some (0, 1, false) := by kernel_rfl
@[go_sem] theorem ty_309 : fdI Tryd.prog 54 1 = some (1, 1, false) := by kernel_rfl
@[go_sem] theorem ty_310 : fdI Tryd.prog 54 2 = some (2, 1, false) := by kernel_rfl
@[go_sem] theorem ty_311 : bdI Tryd.prog 54 = some ([.d (.int .i64 0), .d (.str []), .d (.int .i64 0)], [(0, 1), (1, 1), (2, 1)]) := by kernel_rfl
@[go_sem] theorem ty_312 : zI Tryd.prog 54 = some [.d (.int .i64 0), .d (.str []), .d (.int .i64 0)] := by kernel_rfl
@[go_sem] theorem ty_313 : eqI Tryd.prog 54 = some [1, 3, 1] := by kernel_rfl
@[go_sem] theorem ty_314 : isIf Tryd.prog 54 = false := by kernel_rfl
@[go_sem] theorem ty_315 : (Tryd.prog.underlying 55).isSome = true := by kernel_rfl
@[go_sem] theorem ty_316 : tyI Tryd.prog 55 = some (false, 1) := by kernel_rfl
@[go_sem] theorem ty_317 : isIf Tryd.prog 55 = false := by kernel_rfl
@[go_sem] theorem ty_318 : (Tryd.prog.underlying 56).isSome = true := by kernel_rfl
@[go_sem] theorem ty_319 : tyI Tryd.prog 56 = some (false, 1) := by kernel_rfl
@[go_sem] theorem ty_320 : zI Tryd.prog 56 = some [.nilf] := by kernel_rfl
@[go_sem] theorem ty_321 : isIf Tryd.prog 56 = false := by kernel_rfl
@[go_sem] theorem ty_322 : (Tryd.prog.underlying 57).isSome = true := by kernel_rfl
@[go_sem] theorem ty_323 : tyI Tryd.prog 57 = some (false, 1) := by kernel_rfl
@[go_sem] theorem ty_324 : isIf Tryd.prog 57 = false := by kernel_rfl
@[go_sem] theorem ty_325 : (Tryd.prog.underlying 58).isSome = true := by kernel_rfl
@[go_sem] theorem ty_326 : tyI Tryd.prog 58 = some (false, 1) := by kernel_rfl
@[go_sem] theorem ty_327 : zI Tryd.prog 58 = some [.nilf] := by kernel_rfl
@[go_sem] theorem ty_328 : isIf Tryd.prog 58 = false := by kernel_rfl
@[go_sem] theorem ty_329 : (Tryd.prog.underlying 59).isSome = true := by kernel_rfl
@[go_sem] theorem ty_330 : tyI Tryd.prog 59 = some (false, 1) := by kernel_rfl
@[go_sem] theorem ty_331 : isIf Tryd.prog 59 = false := by kernel_rfl
@[go_sem] theorem ty_332 : (Tryd.prog.underlying 60).isSome = true := by kernel_rfl
@[go_sem] theorem ty_333 : tyI Tryd.prog 60 = some (false, 1) := by kernel_rfl
@[go_sem] theorem ty_334 : zI Tryd.prog 60 = some [.nilf] := by kernel_rfl
@[go_sem] theorem ty_335 : isIf Tryd.prog 60 = false := by kernel_rfl
@[go_sem] theorem ty_336 : (Tryd.prog.underlying 61).isSome = true := by kernel_rfl
@[go_sem] theorem ty_337 : tyI Tryd.prog 61 = some (false, 1) := by kernel_rfl
@[go_sem] theorem ty_338 : zI Tryd.prog 61 = some [.nilf] := by kernel_rfl
@[go_sem] theorem ty_339 : isIf Tryd.prog 61 = false := by kernel_rfl
@[go_sem] theorem ty_340 : (Tryd.prog.underlying 62).isSome = true := by kernel_rfl
@[go_sem] theorem ty_341 : tyI Tryd.prog 62 = some (false, 1) := by kernel_rfl
@[go_sem] theorem ty_342 : zI Tryd.prog 62 = some [.nilf] := by kernel_rfl
@[go_sem] theorem ty_343 : isIf Tryd.prog 62 = false := by kernel_rfl
@[go_sem] theorem ty_344 : (Tryd.prog.underlying 63).isSome = true := by kernel_rfl
@[go_sem] theorem ty_345 : tyI Tryd.prog 63 = some (false, 1) := by kernel_rfl
@[go_sem] theorem ty_346 : zI Tryd.prog 63 = some [.nilf] := by kernel_rfl
@[go_sem] theorem ty_347 : isIf Tryd.prog 63 = false := by kernel_rfl
@[go_sem] theorem ty_348 : (Tryd.prog.underlying 64).isSome = true := by kernel_rfl
@[go_sem] theorem ty_349 : tyI Tryd.prog 64 = some (false, 1) := by kernel_rfl
@[go_sem] theorem ty_350 : zI Tryd.prog 64 = some [.nilp] := by kernel_rfl
@[go_sem] theorem ty_351 : isIf Tryd.prog 64 = false := by kernel_rfl
@[go_sem] theorem ty_352 : (Tryd.prog.underlying 65).isSome = true := by kernel_rfl
@[go_sem] theorem ty_353 : tyI Tryd.prog 65 = some (true, 1) := by kernel_rfl
@[go_sem] theorem ty_354 : fdI Tryd.prog 65 0 = some (0, 1, false) := by kernel_rfl
@[go_sem] theorem ty_355 : bdI Tryd.prog 65 = some ([.nils], [(0, 1)]) := by kernel_rfl
@[go_sem] theorem ty_356 : zI Tryd.prog 65 = some [.nils] := by kernel_rfl
@[go_sem] theorem ty_357 : isIf Tryd.prog 65 = false := by kernel_rfl
@[go_sem] theorem ty_358 : (Tryd.prog.underlying 66).isSome = true := by kernel_rfl
@[go_sem] theorem ty_359 : tyI Tryd.prog 66 = some (true, 1) := by kernel_rfl
@[go_sem] theorem ty_360 : fdI Tryd.prog 66 0 = some (0, 1, false) := by kernel_rfl
@[go_sem] theorem ty_361 : bdI Tryd.prog 66 = some ([.nils], [(0, 1)]) := by kernel_rfl
@[go_sem] theorem ty_362 : zI Tryd.prog 66 = some [.nils] := by kernel_rfl
@[go_sem] theorem ty_363 : isIf Tryd.prog 66 = false := by kernel_rfl
@[go_sem] theorem ty_364 : (Tryd.prog.underlying 67).isSome = true := by kernel_rfl
@[go_sem] theorem ty_365 : tyI Tryd.prog 67 = some (false, 1) := by kernel_rfl
@[go_sem] theorem ty_366 : zI Tryd.prog 67 = some [.nilf] := by kernel_rfl
@[go_sem] theorem ty_367 : isIf Tryd.prog 67 = false := by kernel_rfl
@[go_sem] theorem ty_368 : (Tryd.prog.underlying 68).isSome = true := by kernel_rfl
@[go_sem] theorem ty_369 : tyI Tryd.prog 68 = some (false, 1) := by kernel_rfl
@[go_sem] theorem ty_370 : zI Tryd.prog 68 = some [.nilf] := by kernel_rfl
@[go_sem] theorem ty_371 : isIf Tryd.prog 68 = false := by kernel_rfl
@[go_sem] theorem ty_372 : (Tryd.prog.underlying 69).isSome = true := by kernel_rfl
@[go_sem] theorem ty_373 : tyI Tryd.prog 69 = some (false, 1) := by kernel_rfl
@[go_sem] theorem ty_374 : zI Tryd.prog 69 = some [.nilf] := by kernel_rfl
@[go_sem] theorem ty_375 : isIf Tryd.prog 69 = false := by kernel_rfl
@[go_sem] theorem ty_376 : (Tryd.prog.underlying 70).isSome = true := by kernel_rfl
@[go_sem] theorem ty_377 : tyI Tryd.prog 70 = some (false, 1) := by kernel_rfl
@[go_sem] theorem ty_378 : zI Tryd.prog 70 = some [.nilf] := by kernel_rfl
@[go_sem] theorem ty_379 : isIf Tryd.prog 70 = false := by kernel_rfl
@[go_sem] theorem ty_380 : (Tryd.prog.underlying 71).isSome = true := by kernel_rfl
@[go_sem] theorem ty_381 : tyI Tryd.prog 71 = some (false, 1) := by kernel_rfl
@[go_sem] theorem ty_382 : zI Tryd.prog 71 = some [.nilf] := by kernel_rfl
@[go_sem] theorem ty_383 : isIf Tryd.prog 71 = false := by kernel_rfl
@[go_sem] theorem ty_384 : (Tryd.prog.underlying 72).isSome = true := by kernel_rfl
@[go_sem] theorem ty_385 : tyI Tryd.prog 72 = some (false, 1) := by kernel_rfl
@[go_sem] theorem ty_386 : zI Tryd.prog 72 = some [.nilf] := by kernel_rfl
@[go_sem] theorem ty_387 : isIf Tryd.prog 72 = false := by kernel_rfl
@[go_sem] theorem ty_388 : (Tryd.prog.underlying 73).isSome = true := by kernel_rfl
@[go_sem] theorem ty_389 : tyI Tryd.prog 73 = some (false, 1) := by kernel_rfl
@[go_sem] theorem ty_390 : zI Tryd.prog 73 = some [.nilf] := by kernel_rfl
@[go_sem] theorem ty_391 : isIf Tryd.prog 73 = false := by kernel_rfl
@[go_sem] theorem ty_392 : (Tryd.prog.underlying 74).isSome = true := by kernel_rfl
@[go_sem] theorem ty_393 : tyI Tryd.prog 74 = some (false, 1) := by kernel_rfl
@[go_sem] theorem ty_394 : isIf Tryd.prog 74 = false := by kernel_rfl
@[go_sem] theorem ty_395 : (Tryd.prog.underlying 75).isSome = true := by kernel_rfl
@[go_sem] theorem ty_396 : tyI Tryd.prog 75 = some (false, 1) := by kernel_rfl
@[go_sem] theorem ty_397 : zI Tryd.prog 75 = some [.nilf] := by kernel_rfl
@[go_sem] theorem ty_398 : isIf Tryd.prog 75 = false := by kernel_rfl
@[go_sem] theorem ty_399 : (Tryd.prog.underlying 76).isSome = true := by kernel_rfl
@[go_sem] theorem ty_400 : tyI Tryd.prog 76 = some (false, 1) := by kernel_rfl
@[go_sem] theorem ty_401 : slI Tryd.prog 76 = some (114, 2, 32) := by kernel_rfl
@[go_sem] theorem ty_402 : zI Tryd.prog 76 = some [.nils] := by kernel_rfl
@[go_sem] theorem ty_403 : isIf Tryd.prog 76 = false := by kernel_rfl
@[go_sem] theorem ty_404 : isBytes Tryd.prog 76 = false := by kernel_rfl
@[go_sem] theorem ty_405 : isSl Tryd.prog 76 = true := by kernel_rfl
@[go_sem] theorem ty_406 : (Tryd.prog.underlying 77).isSome = true := by kernel_rfl
@[go_sem] theorem ty_407 : tyI Tryd.prog 77 = some (false, 1) := by kernel_rfl
@[go_sem] theorem ty_408 : isIf Tryd.prog 77 = false := by kernel_rfl
@[go_sem] theorem ty_409 : (Tryd.prog.underlying 78).isSome = true := by kernel_rfl
@[go_sem] theorem ty_410 : tyI Tryd.prog 78 = some (false, 1) := by kernel_rfl
@[go_sem] theorem ty_411 : zI Tryd.prog 78 = some [.nilf] := by kernel_rfl
@[go_sem] theorem ty_412 : isIf Tryd.prog 78 = false := by kernel_rfl
@[go_sem] theorem ty_413 : (Tryd.prog.underlying 79).isSome = true := by kernel_rfl
@[go_sem] theorem ty_414 : tyI Tryd.prog 79 = some (false, 1) := by kernel_rfl
@[go_sem] theorem ty_415 : zI Tryd.prog 79 = some [.nilf] := by kernel_rfl
@[go_sem] theorem ty_416 : isIf Tryd.prog 79 = false := by kernel_rfl
@[go_sem] theorem ty_417 : (Tryd.prog.underlying 80).isSome = true := by kernel_rfl
@[go_sem] theorem ty_418 : tyI Tryd.prog 80 = some (false, 1) := by kernel_rfl
@[go_sem] theorem ty_419 : zI Tryd.prog 80 = some [.nilf] := by kernel_rfl
@[go_sem] theorem ty_420 : isIf Tryd.prog 80 = false := by kernel_rfl
@[go_sem] theorem ty_421 : (Tryd.prog.underlying 81).isSome = true := by kernel_rfl
@[go_sem] theorem ty_422 : tyI Tryd.prog 81 = some (false, 1) := by kernel_rfl
@[go_sem] theorem ty_423 : zI Tryd.prog 81 = some [.nilf] := by kernel_rfl
@[go_sem] theorem ty_424 : isIf Tryd.prog 81 = false := by kernel_rfl
@[go_sem] theorem ty_425 : (Tryd.prog.underlying 82).isSome = true := by kernel_rfl
@[go_sem] theorem ty_426 : tyI Tryd.prog 82 = some (false, 1) := by kernel_rfl
@[go_sem] theorem ty_427 : zI Tryd.prog 82 = some [.nilf] := by kernel_rfl
@[go_sem] theorem ty_428 : isIf Tryd.prog 82 = false := by kernel_rfl
@[go_sem] theorem ty_429 : (Tryd.prog.underlying 83).isSome = true := by kernel_rfl
@[go_sem] theorem ty_430 : tyI Tryd.prog 83 = some (false, 1) := by kernel_rfl
@[go_sem] theorem ty_431 : zI Tryd.prog 83 = some [.nilf] := by kernel_rfl
@[go_sem] theorem ty_432 : isIf Tryd.prog 83 = false := by kernel_rfl
@[go_sem] theorem ty_433 : (Tryd.prog.underlying 84).isSome = true := by kernel_rfl
@[go_sem] theorem ty_434 : tyI Tryd.prog 84 = some (false, 1) := by kernel_rfl
@[go_sem] theorem ty_435 : zI Tryd.prog 84 = some [.nilf] := by kernel_rfl
@[go_sem] theorem ty_436 : isIf Tryd.prog 84 = false := by kernel_rfl
@[go_sem] theorem ty_437 : (Tryd.prog.underlying 85).isSome = true := by kernel_rfl
@[go_sem] theorem ty_438 : tyI Tryd.prog 85 = some (false, 1) := by kernel_rfl
@[go_sem] theorem ty_439 : zI Tryd.prog 85 = some [.nilf] := by kernel_rfl
@[go_sem] theorem ty_440 : isIf Tryd.prog 85 = false := by kernel_rfl
@[go_sem] theorem ty_441 : (Tryd.prog.underlying 86).isSome = true := by kernel_rfl
@[go_sem] theorem ty_442 : tyI Tryd.prog 86 = some (false, 1) := by kernel_rfl
@[go_sem] theorem ty_443 : zI Tryd.prog 86 = some [.nilf] := by kernel_rfl
@[go_sem] theorem ty_444 : isIf Tryd.prog 86 = false := by kernel_rfl
@[go_sem] theorem ty_445 : (Tryd.prog.underlying 87).isSome = true := by kernel_rfl
@[go_sem] theorem ty_446 : tyI Tryd.prog 87 = some (false, 1) := by kernel_rfl
@[go_sem] theorem ty_447 : zI Tryd.prog 87 = some [.nilf] := by kernel_rfl
@[go_sem] theorem ty_448 : isIf Tryd.prog 87 = false := by kernel_rfl
@[go_sem] theorem ty_449 : (Tryd.prog.underlying 88).isSome = true := by kernel_rfl
@[go_sem] theorem ty_450 : tyI Tryd.prog 88 = some (false, 1) := by kernel_rfl
@[go_sem] theorem ty_451 : isIf Tryd.prog 88 = false := by kernel_rfl
@[go_sem] theorem ty_452 : (Tryd.prog.underlying 89).isSome = true := by kernel_rfl
@[go_sem] theorem ty_453 : tyI Tryd.prog 89 = some (false, 1) := by kernel_rfl
@[go_sem] theorem ty_454 : zI Tryd.prog 89 = some [.nilf] := by kernel_rfl
@[go_sem] theorem ty_455 : isIf Tryd.prog 89 = false := by kernel_rfl
@[go_sem] theorem ty_456 : (Tryd.prog.underlying 90).isSome = true := by kernel_rfl
@[go_sem] theorem ty_457 : tyI Tryd.prog 90 = some (false, 1) := by kernel_rfl
@[go_sem] theorem ty_458 : zI Tryd.prog 90 = some [.nilf] := by kernel_rfl
@[go_sem] theorem ty_459 : isIf Tryd.prog 90 = false := by kernel_rfl
@[go_sem] theorem ty_460 : (Tryd.prog.underlying 91).isSome = true := by kernel_rfl
@[go_sem] theorem ty_461 : tyI Tryd.prog 91 = some (false, 1) := by kernel_rfl
@[go_sem] theorem ty_462 : slI Tryd.prog 91 = some (5, 1, 1) := by kernel_rfl
@[go_sem] theorem ty_463 : zI Tryd.prog 91 = some [.nils] := by kernel_rfl
@[go_sem] theorem ty_464 : isIf Tryd.prog 91 = false := by kernel_rfl
@[go_sem] theorem ty_465 : isBytes Tryd.prog 91 = true := by kernel_rfl
@[go_sem] theorem ty_466 : isSl Tryd.prog 91 = true := by kernel_rfl
@[go_sem] theorem ty_467 : (Tryd.prog.underlying 92).isSome = true := by kernel_rfl
@[go_sem] theorem ty_468 : tyI Tryd.prog 92 = some (false, 1) := by kernel_rfl
@[go_sem] theorem ty_469 : zI Tryd.prog 92 = some [.nilf] := by kernel_rfl
@[go_sem] theorem ty_470 : isIf Tryd.prog 92 = false := by kernel_rfl
@[go_sem] theorem ty_471 : (Tryd.prog.underlying 93).isSome = true := by kernel_rfl
@[go_sem] theorem ty_472 : tyI Tryd.prog 93 = some (false, 1) := by kernel_rfl
@[go_sem] theorem ty_473 : zI Tryd.prog 93 = some [.nilf] := by kernel_rfl
@[go_sem] theorem ty_474 : isIf Tryd.prog 93 = false := by kernel_rfl
@[go_sem] theorem ty_475 : (Tryd.prog.underlying 94).isSome = true := by kernel_rfl
@[go_sem] theorem ty_476 : tyI Tryd.prog 94 = some (false, 1) := by kernel_rfl
@[go_sem] theorem ty_477 : isIf Tryd.prog 94 = false := by kernel_rfl
@[go_sem] theorem ty_478 : (Tryd.prog.underlying 95).isSome = true := by kernel_rfl
@[go_sem] theorem ty_479 : tyI Tryd.prog 95 = some (false, 1) := by kernel_rfl
@[go_sem] theorem ty_480 : zI Tryd.prog 95 = some [.nilf] := by kernel_rfl
@[go_sem] theorem ty_481 : isIf Tryd.prog 95 = false := by kernel_rfl
@[go_sem] theorem ty_482 : (Tryd.prog.underlying 96).isSome = true := by kernel_rfl
@[go_sem] theorem ty_483 : tyI Tryd.prog 96 = some (false, 1) := by kernel_rfl
@[go_sem] theorem ty_484 : isIf Tryd.prog 96 = false := by kernel_rfl
@[go_sem] theorem ty_485 : (Tryd.prog.underlying 97).isSome = true := by kernel_rfl
@[go_sem] theorem ty_486 : tyI Tryd.prog 97 = some (false, 1) := by kernel_rfl
@[go_sem] theorem ty_487 : zI Tryd.prog 97 = some [.nilf] := by kernel_rfl
@[go_sem] theorem ty_488 : isIf Tryd.prog 97 = false := by kernel_rfl
@[go_sem] theorem ty_489 : (Tryd.prog.underlying 98).isSome = true := by kernel_rfl
@[go_sem] theorem ty_490 : tyI Tryd.prog 98 = some (false, 1) := by kernel_rfl
@[go_sem] theorem ty_491 : zI Tryd.prog 98 = some [.nilf] := by kernel_rfl
@[go_sem] theorem ty_492 : isIf Tryd.prog 98 = false := by kernel_rfl
@[go_sem] theorem ty_493 : (Tryd.prog.underlying 99).isSome = true := by kernel_rfl
@[go_sem] theorem ty_494 : tyI Tryd.prog 99 = some (false, 1) := by kernel_rfl
@[go_sem] theorem ty_495 : zI Tryd.prog 99 = some [.nilf] := by kernel_rfl
@[go_sem] theorem ty_496 : isIf Tryd.prog 99 = false := by kernel_rfl
@[go_sem] theorem ty_497 : (Tryd.prog.underlying 100).isSome = true := by kernel_rfl
@[go_sem] theorem ty_498 : tyI Tryd.prog 100 = some (true, 11) := by kernel_rfl
@[go_sem] theorem ty_499 : arI Tryd.prog 100 = some (11, 1, false) := by kernel_rfl
@[go_sem] theorem ty_500 : bdI Tryd.prog 100 = some ([.d (.str []), .d (.str []), .d (.str []), .d (.str []), .d (.str []), .d (.str []), .d (.str []), .d (.str []), .d (.str []), .d (.str []), .d (.str [])], [(0, 1), (1, 1), (2, 1), (3, 1), (4, 1), (5, 1), (6, 1), (7, 1), (8, 1), (9, 1), (10, 1)]) := by kernel_rfl
@[go_sem] theorem ty_501 : zI Tryd.prog 100 = some [.d (.str []), .d (.str []), .d (.str []), .d (.str []), .d (.str []), .d (.str []), .d (.str []), .d (.str []), .d (.str []), .d (.str []), .d (.str [])] := by kernel_rfl
@[go_sem] theorem ty_502 : isIf Tryd.prog 100 = false := by kernel_rfl
@[go_sem] theorem ty_503 : (Tryd.prog.underlying 101).isSome = true := by kernel_rfl
@[go_sem] theorem ty_504 : tyI Tryd.prog 101 = some (false, 1) := by kernel_rfl
@[go_sem] theorem ty_505 : zI Tryd.prog 101 = some [.nilf] := by kernel_rfl
@[go_sem] theorem ty_506 : isIf Tryd.prog 101 = false := by kernel_rfl
@[go_sem] theorem ty_507 : (Tryd.prog.underlying 102).isSome = true := by kernel_rfl
@[go_sem] theorem ty_508 : tyI Tryd.prog 102 = some (false, 1) := by kernel_rfl
@[go_sem] theorem ty_509 : zI Tryd.prog 102 = some [.nilf] := by kernel_rfl
@[go_sem] theorem ty_510 : isIf Tryd.prog 102 = false := by kernel_rfl
@[go_sem] theorem ty_511 : (Tryd.prog.underlying 103).isSome = true := by kernel_rfl
@[go_sem] theorem ty_512 : tyI Tryd.prog 103 = some (false, 1) := by kernel_rfl
@[go_sem] theorem ty_513 : isIf Tryd.prog 103 = false := by kernel_rfl
@[go_sem] theorem ty_514 : (Tryd.prog.underlying 104).isSome = true := by kernel_rfl
@[go_sem] theorem ty_515 : tyI Tryd.prog 104 = some (false, 1) := by kernel_rfl
@[go_sem] theorem ty_516 : zI Tryd.prog 104 = some [.nilf] := by kernel_rfl
@[go_sem] theorem ty_517 : isIf Tryd.prog 104 = false := by kernel_rfl
@[go_sem] theorem ty_518 : (Tryd.prog.underlying 105).isSome = true := by kernel_rfl
@[go_sem] theorem ty_519 : tyI Tryd.prog 105 = some (false, 1) := by kernel_rfl
@[go_sem] theorem ty_520 : zI Tryd.prog 105 = some [.nilf] := by kernel_rfl
@[go_sem] theorem ty_521 : isIf Tryd.prog 105 = false := by kernel_rfl
@[go_sem] theorem ty_522 : (Tryd.prog.underlying 106).isSome = true := by kernel_rfl
@[go_sem] theorem ty_523 : tyI Tryd.prog 106 = some (false, 1) := by kernel_rfl
@[go_sem] theorem ty_524 : zI Tryd.prog 106 = some [.nilf] := by kernel_rfl
@[go_sem] theorem ty_525 : isIf Tryd.prog 106 = false := by kernel_rfl
@[go_sem] theorem ty_526 : (Tryd.prog.underlying 107).isSome = true := by kernel_rfl
@[go_sem] theorem ty_527 : tyI Tryd.prog 107 = some (false, 1) := by kernel_rfl
@[go_sem] theorem ty_528 : zI Tryd.prog 107 = some [.nilf] := by kernel_rfl
@[go_sem] theorem ty_529 : isIf Tryd.prog 107 = false := by kernel_rfl
@[go_sem] theorem ty_530 : (Tryd.prog.underlying 108).isSome = true := by kernel_rfl
@[go_sem] theorem ty_531 : tyI Tryd.prog 108 = some (false, 1) := by kernel_rfl
@[go_sem] theorem ty_532 : zI Tryd.prog 108 = some [.nilf] := by kernel_rfl
@[go_sem] theorem ty_533 : isIf Tryd.prog 108 = false := by kernel_rfl
@[go_sem] theorem ty_534 : (Tryd.prog.underlying 109).isSome = true := by kernel_rfl
@[go_sem] theorem ty_535 : tyI Tryd.prog 109 = some (false, 1) := by kernel_rfl
@[go_sem] theorem ty_536 : zI Tryd.prog 109 = some [.nilf] := by kernel_rfl
@[go_sem] theorem ty_537 : isIf Tryd.prog 109 = false := by kernel_rfl
@[go_sem] theorem ty_538 : (Tryd.prog.underlying 110).isSome = true := by kernel_rfl
@[go_sem] theorem ty_539 : tyI Tryd.prog 110 = some (false, 1) := by kernel_rfl
@[go_sem] theorem ty_540 : slI Tryd.prog 110 = some (118, 4, 24) := by kernel_rfl
@[go_sem] theorem ty_541 : zI Tryd.prog 110 = some [.nils] := by kernel_rfl
@[go_sem] theorem ty_542 : isIf Tryd.prog 110 = false := by kernel_rfl
@[go_sem] theorem ty_543 : isBytes Tryd.prog 110 = false := by kernel_rfl
@[go_sem] theorem ty_544 : isSl Tryd.prog 110 = true := by kernel_rfl
@[go_sem] theorem ty_545 : (Tryd.prog.underlying 111).isSome = true := by kernel_rfl
@[go_sem] theorem ty_546 : tyI Tryd.prog 111 = some (false, 1) := by kernel_rfl
@[go_sem] theorem ty_547 : isIf Tryd.prog 111 = false := by kernel_rfl
@[go_sem] theorem ty_548 : (Tryd.prog.underlying 112).isSome = true := by kernel_rfl
@[go_sem] theorem ty_549 : tyI Tryd.prog 112 = some (false, 1) := by kernel_rfl
@[go_sem] theorem ty_550 : zI Tryd.prog 112 = some [.nilf] := by kernel_rfl
@[go_sem] theorem ty_551 : isIf Tryd.prog 112 = false := by kernel_rfl
@[go_sem] theorem ty_552 : (Tryd.prog.underlying 113).isSome = true := by kernel_rfl
@[go_sem] theorem ty_553 : tyI Tryd.prog 113 = some (true, 2) := by kernel_rfl
@[go_sem] theorem ty_554 : fdI Tryd.prog 113 0 = some (0, 1, false) := by kernel_rfl
@[go_sem] theorem ty_555 : fdI Tryd.prog 113 1 = some (1, 1, false) := by kernel_rfl
@[go_sem] theorem ty_556 : bdI Tryd.prog 113 = some ([.d (.str []), .d (.str [])], [(0, 1), (1, 1)]) := by kernel_rfl
@[go_sem] theorem ty_557 : zI Tryd.prog 113 = some [.d (.str []), .d (.str [])] := by kernel_rfl
@[go_sem] theorem ty_558 : eqI Tryd.prog 113 = some [3, 3] := by kernel_rfl
@[go_sem] theorem ty_559 : isIf Tryd.prog 113 = false := by kernel_rfl
@[go_sem] theorem ty_560 : (Tryd.prog.underlying 114).isSome = true := by kernel_rfl
@[go_sem] theorem ty_561 : tyI Tryd.prog 114 = some (true, 2) := by kernel_rfl
@[go_sem] theorem ty_562 : fdI Tryd.prog 114 0 = some (0, 1, false) := by kernel_rfl
@[go_sem] theorem ty_563 : fdI Tryd.prog 114 1 = some (1, 1, false) := by kernel_rfl
@[go_sem] theorem ty_564 : bdI Tryd.prog 114 = some ([.d (.str []), .d (.str [])], [(0, 1), (1, 1)]) := by kernel_rfl
@[go_sem] theorem ty_565 : zI Tryd.prog 114 = some [.d (.str []), .d (.str [])] := by kernel_rfl
@[go_sem] theorem ty_566 : eqI Tryd.prog 114 = some [3, 3] := by kernel_rfl
@[go_sem] theorem ty_567 : isIf Tryd.prog 114 = false := by kernel_rfl
@[go_sem] theorem ty_568 : (Tryd.prog.underlying 115).isSome = true := by kernel_rfl
@[go_sem] theorem ty_569 : tyI Tryd.prog 115 = some (false, 1) := by kernel_rfl
@[go_sem] theorem ty_570 : isIf Tryd.prog 115 = false := by kernel_rfl
@[go_sem] theorem ty_571 : (Tryd.prog.underlying 116).isSome = true := by kernel_rfl
@[go_sem] theorem ty_572 : tyI Tryd.prog 116 = some (false, 1) := by kernel_rfl
@[go_sem] theorem ty_573 : zI Tryd.prog 116 = some [.nilf] := by kernel_rfl
@[go_sem] theorem ty_574 : isIf Tryd.prog 116 = false := by kernel_rfl
@[go_sem] theorem ty_575 : (Tryd.prog.underlying 117).isSome = true := by kernel_rfl
@[go_sem] theorem ty_576 : tyI Tryd.prog 117 = some (true, 4) := by kernel_rfl
@[go_sem] theorem ty_577 : fdI Tryd.prog 117 0 = some (0, 1, false) := by kernel_rfl
@[go_sem] theorem ty_578 : fdI Tryd.prog 117 1 = some (1, 1, false) := by kernel_rfl
@[go_sem] theorem ty_579 : fdI Tryd.prog 117 2 = some (2, 1, false) := by kernel_rfl
@[go_sem] theorem ty_580 : fdI Tryd.prog 117 3 = some (3, 1, false) := by kernel_rfl
@[go_sem] theorem ty_581 : bdI Tryd.prog 117 = some ([.d (.str []), .d (.bool false), .d (.bool false), .d (.bool false)], [(0, 1), (1, 1), (2, 1), (3, 1)]) := by kernel_rfl
@[go_sem] theorem ty_582 : zI Tryd.prog 117 = some [.d (.str []), .d (.bool false), .d (.bool false), .d (.bool false)] := by kernel_rfl
@[go_sem] theorem ty_583 : eqI Tryd.prog 117 = some [3, 2, 2, 2] := by kernel_rfl
@[go_sem] theorem ty_584 : isIf Tryd.prog 117 = false := by kernel_rfl
@[go_sem] theorem ty_585 : (Tryd.prog.underlying 118).isSome = true := by kernel_rfl
@[go_sem] theorem ty_586 : tyI Tryd.prog 118 = some (true, 4) := by kernel_rfl
@[go_sem] theorem ty_587 : fdI Tryd.prog 118 0 = some (0, 1, false) := by kernel_rfl
@[go_sem] theorem ty_588 : fdI Tryd.prog 118 1 = some (1, 1, false) := by kernel_rfl
@[go_sem] theorem ty_589 : fdI Tryd.prog 118 2 = some (2, 1, false) := by kernel_rfl
@[go_sem] theorem ty_590 : fdI Tryd.prog 118 3 = some (3, 1, false) := by kernel_rfl
@[go_sem] theorem ty_591 : bdI Tryd.prog 118 = some ([.d (.str []), .d (.bool false), .d (.bool false), .d (.bool false)], [(0, 1), (1, 1), (2, 1), (3, 1)]) := by kernel_rfl
@[go_sem] theorem ty_592 : zI Tryd.prog 118 = some [.d (.str []), .d (.bool false), .d (.bool false), .d (.bool false)] := by kernel_rfl
@[go_sem] theorem ty_593 : eqI Tryd.prog 118 = some [3, 2, 2, 2] := by kernel_rfl
@[go_sem] theorem ty_594 : isIf Tryd.prog 118 = false := by kernel_rfl
@[go_sem] theorem ty_595 : (Tryd.prog.underlying 119).isSome = true := by kernel_rfl
@[go_sem] theorem ty_596 : tyI Tryd.prog 119 = some (false, 1) := by kernel_rfl
@[go_sem] theorem ty_597 : zI Tryd.prog 119 = some [.nili] := by kernel_rfl
@[go_sem] theorem ty_598 : isIf Tryd.prog 119 = true := by kernel_rfl
@[go_sem] theorem ty_599 : (Tryd.prog.underlying 120).isSome = true := by kernel_rfl
@[go_sem] theorem ty_600 : tyI Tryd.prog 120 = some (false, 1) := by kernel_rfl
@[go_sem] theorem ty_601 : zI Tryd.prog 120 = some [.nili] := by kernel_rfl
@[go_sem] theorem ty_602 : isIf Tryd.prog 120 = true := by kernel_rfl
@[go_sem] theorem ty_603 : (Tryd.prog.underlying 121).isSome = true := by kernel_rfl
@[go_sem] theorem ty_604 : tyI Tryd.prog 121 = some (false, 1) := by kernel_rfl
@[go_sem] theorem ty_605 : isIf Tryd.prog 121 = false := by kernel_rfl
@[go_sem] theorem ty_606 : (Tryd.prog.underlying 122).isSome = true := by kernel_rfl
@[go_sem] theorem ty_607 : tyI Tryd.prog 122 = some (false, 1) := by kernel_rfl
@[go_sem] theorem ty_608 : zI Tryd.prog 122 = some [.nilf] := by kernel_rfl
@[go_sem] theorem ty_609 : isIf Tryd.prog 122 = false := by kernel_rfl
@[go_sem] theorem ty_610 : (Tryd.prog.underlying 123).isSome = true := by kernel_rfl
@[go_sem] theorem ty_611 : tyI Tryd.prog 123 = some (false, 1) := by kernel_rfl
@[go_sem] theorem ty_612 : zI Tryd.prog 123 = some [.nilf] := by kernel_rfl
@[go_sem] theorem ty_613 : isIf Tryd.prog 123 = false := by kernel_rfl
@[go_sem] theorem ty_614 : (Tryd.prog.underlying 124).isSome = true := by kernel_rfl
@[go_sem] theorem ty_615 : tyI Tryd.prog 124 = some (false, 1) := by kernel_rfl
@[go_sem] theorem ty_616 : zI Tryd.prog 124 = some [.nilf] := by kernel_rfl
@[go_sem] theorem ty_617 : isIf Tryd.prog 124 = false := by kernel_rfl
@[go_sem] theorem ty_618 : (Tryd.prog.underlying 125).isSome = true := by kernel_rfl
@[go_sem] theorem ty_619 : tyI Tryd.prog 125 = some (false, 1) := by kernel_rfl
@[go_sem] theorem ty_620 : zI Tryd.prog 125 = some [.nilf] := by kernel_rfl
@[go_sem] theorem ty_621 : isIf Tryd.prog 125 = false := by kernel_rfl
@[go_sem] theorem ty_622 : (Tryd.prog.underlying 126).isSome = true := by kernel_rfl
@[go_sem] theorem ty_623 : tyI Tryd.prog 126 = some (false, 1) := by kernel_rfl
@[go_sem] theorem ty_624 : zI Tryd.prog 126 = some [.nilf] := by kernel_rfl
@[go_sem] theorem ty_625 : isIf Tryd.prog 126 = false := by kernel_rfl
@[go_sem] theorem ty_626 : (Tryd.prog.underlying 127).isSome = true := by kernel_rfl
@[go_sem] theorem ty_627 : tyI Tryd.prog 127 = some (false, 1) := by kernel_rfl
@[go_sem] theorem ty_628 : zI Tryd.prog 127 = some [.nilf] := by kernel_rfl
@[go_sem] theorem ty_629 : isIf Tryd.prog 127 = false := by kernel_rfl
@[go_sem] theorem ty_630 : (Tryd.prog.underlying 128).isSome = true := by kernel_rfl
@[go_sem] theorem ty_631 : tyI Tryd.prog 128 = some (true, 2) := by kernel_rfl
@[go_sem] theorem ty_632 : arI Tryd.prog 128 = some (2, 1, false) := by kernel_rfl
@[go_sem] theorem ty_633 : bdI Tryd.prog 128 = some ([.nils, .nils], [(0, 1), (1, 1)]) := by kernel_rfl
@[go_sem] theorem ty_634 : zI Tryd.prog 128 = some [.nils, .nils] := by kernel_rfl
@[go_sem] theorem ty_635 : isIf Tryd.prog 128 = false := by kernel_rfl
@[go_sem] theorem ty_636 : (Tryd.prog.underlying 129).isSome = true := by kernel_rfl
@[go_sem] theorem ty_637 : tyI Tryd.prog 129 = some (false, 1) := by kernel_rfl
@[go_sem] theorem ty_638 : isIf Tryd.prog 129 = false := by kernel_rfl
@[go_sem] theorem ty_639 : (Tryd.prog.underlying 130).isSome = true := by kernel_rfl
@[go_sem] theorem ty_640 : tyI Tryd.prog 130 = some (true, 5) := by kernel_rfl
@[go_sem] theorem ty_641 : arI Tryd.prog 130 = some (5, 1, false) := by kernel_rfl
@[go_sem] theorem ty_642 : bdI Tryd.prog 130 = some ([.d (.str []), .d (.str []), .d (.str []), .d (.str []), .d (.str [])], [(0, 1), (1, 1), (2, 1), (3, 1), (4, 1)]) := by kernel_rfl
@[go_sem] theorem ty_643 : zI Tryd.prog 130 = some [.d (.str []), .d (.str []), .d (.str []), .d (.str []), .d (.str [])] := by kernel_rfl
@[go_sem] theorem ty_644 : isIf Tryd.prog 130 = false := by kernel_rfl
@[go_sem] theorem ty_645 : (Tryd.prog.underlying 131).isSome = true := by kernel_rfl
@[go_sem] theorem ty_646 : tyI Tryd.prog 131 = some (false, 1) := by kernel_rfl
@[go_sem] theorem ty_647 : zI Tryd.prog 131 = some [.nilp] := by kernel_rfl
@[go_sem] theorem ty_648 : isIf Tryd.prog 131 = false := by kernel_rfl
@[go_sem] theorem ty_649 : (Tryd.prog.underlying 132).isSome = true := by kernel_rfl
@[go_sem] theorem ty_650 : tyI Tryd.prog 132 = some (true, 2) := by kernel_rfl
@[go_sem] theorem ty_651 : fdI Tryd.prog 132 0 = some (0, 1, false) := by kernel_rfl
@[go_sem] theorem ty_652 : fdI Tryd.prog 132 1 = some (1, 1, false) := by kernel_rfl
@[go_sem] theorem ty_653 : bdI Tryd.prog 132 = some ([.d (.str []), .d (.int .i64 0)], [(0, 1), (1, 1)]) := by kernel_rfl
@[go_sem] theorem ty_654 : zI Tryd.prog 132 = some [.d (.str []), .d (.int .i64 0)] := by kernel_rfl
@[go_sem] theorem ty_655 : eqI Tryd.prog 132 = some [3, 1] := by kernel_rfl
@[go_sem] theorem ty_656 : isIf Tryd.prog 132 = false := by kernel_rfl
@[go_sem] theorem ty_657 : (Tryd.prog.underlying 133).isSome = true := by kernel_rfl
@[go_sem] theorem ty_658 : tyI Tryd.prog 133 = some (true, 2) := by kernel_rfl
@[go_sem] theorem ty_659 : fdI Tryd.prog 133 0 = some (0, 1, false) := by kernel_rfl
@[go_sem] theorem ty_660 : fdI Tryd.prog 133 1 = some (1, 1, false) := by kernel_rfl
@[go_sem] theorem ty_661 : bdI Tryd.prog 133 = some ([.d (.str []), .d (.int .i64 0)], [(0, 1), (1, 1)]) := by kernel_rfl
@[go_sem] theorem ty_662 : zI Tryd.prog 133 = some [.d (.str []), .d (.int .i64 0)] := by kernel_rfl
@[go_sem] theorem ty_663 : eqI Tryd.prog 133 = some [3, 1] := by kernel_rfl
@[go_sem] theorem ty_664 : isIf Tryd.prog 133 = false := by kernel_rfl
@[go_sem] theorem ty_665 : (Tryd.prog.underlying 134).isSome = true := by kernel_rfl
@[go_sem] theorem ty_666 : tyI Tryd.prog 134 = some (false, 1) := by kernel_rfl
@[go_sem] theorem ty_667 : zI Tryd.prog 134 = some [.nilf] := by kernel_rfl
@[go_sem] theorem ty_668 : isIf Tryd.prog 134 = false := by kernel_rfl
@[go_sem] theorem ty_669 : (Tryd.prog.underlying 135).isSome = true := by kernel_rfl
@[go_sem] theorem ty_670 : tyI Tryd.prog 135 = some (false, 1) := by kernel_rfl
@[go_sem] theorem ty_671 : zI Tryd.prog 135 = some [.nilf] := by kernel_rfl
@[go_sem] theorem ty_672 : isIf Tryd.prog 135 = false := by kernel_rfl
@[go_sem] theorem ty_673 : (Tryd.prog.underlying 136).isSome = true := by kernel_rfl
@[go_sem] theorem ty_674 : tyI Tryd.prog 136 = some (false, 1) := by kernel_rfl
@[go_sem] theorem ty_675 : zI Tryd.prog 136 = some [.nilf] := by kernel_rfl
@[go_sem] theorem ty_676 : isIf Tryd.prog 136 = false := by kernel_rfl
@[go_sem] theorem ty_677 : (Tryd.prog.underlying 137).isSome = true := by kernel_rfl
@[go_sem] theorem ty_678 : tyI Tryd.prog 137 = some (false, 1) := by kernel_rfl
@[go_sem] theorem ty_679 : zI Tryd.prog 137 = some [.nilf] := by kernel_rfl
@[go_sem] theorem ty_680 : isIf Tryd.prog 137 = false := by kernel_rfl
@[go_sem] theorem ty_681 : (Tryd.prog.underlying 138).isSome = true := by kernel_rfl
@[go_sem] theorem ty_682 : tyI Tryd.prog 138 = some (false, 1) := by kernel_rfl
@[go_sem] theorem ty_683 : zI Tryd.prog 138 = some [.nilf] := by kernel_rfl
@[go_sem] theorem ty_684 : isIf Tryd.prog 138 = false := by kernel_rfl
@[go_sem] theorem ty_685 : (Tryd.prog.underlying 139).isSome = true := by kernel_rfl
@[go_sem] theorem ty_686 : tyI Tryd.prog 139 = some (false, 1) := by kernel_rfl
@[go_sem] theorem ty_687 : zI Tryd.prog 139 = some [.nilf] := by kernel_rfl
@[go_sem] theorem ty_688 : isIf Tryd.prog 139 = false := by kernel_rfl
@[go_sem] theorem ty_689 : (Tryd.prog.underlying 140).isSome = true := by kernel_rfl
@[go_sem] theorem ty_690 : tyI Tryd.prog 140 = some (false, 1) := by kernel_rfl
@[go_sem] theorem ty_691 : zI Tryd.prog 140 = some [.nilf] := by kernel_rfl
@[go_sem] theorem ty_692 : isIf Tryd.prog 140 = false := by kernel_rfl
@[go_sem] theorem ty_693 : (Tryd.prog.underlying 141).isSome = true := by kernel_rfl
@[go_sem] theorem ty_694 : tyI Tryd.prog 141 = some (false, 1) := by kernel_rfl
@[go_sem] theorem ty_695 : intI Tryd.prog 141 = some .u64 := by kernel_rfl
@[go_sem] theorem ty_696 : zI Tryd.prog 141 = some [.d (.int .u64 0)] := by kernel_rfl
@[go_sem] theorem ty_697 : isIf Tryd.prog 141 = false := by kernel_rfl
@[go_sem] theorem ty_698 : (Tryd.prog.underlying 142).isSome = true := by kernel_rfl
@[go_sem] theorem ty_699 : tyI Tryd.prog 142 = some (false, 1) := by kernel_rfl
@[go_sem] theorem ty_700 : zI Tryd.prog 142 = some [.nilf] := by kernel_rfl
@[go_sem] theorem ty_701 : isIf Tryd.prog 142 = false := by kernel_rfl
@[go_sem] theorem ty_702 : (Tryd.prog.underlying 143).isSome = true := by kernel_rfl
@[go_sem] theorem ty_703 : tyI Tryd.prog 143 = some (false, 1) := by kernel_rfl
@[go_sem] theorem ty_704 : zI Tryd.prog 143 = some [.nilf] := by kernel_rfl
@[go_sem] theorem ty_705 : isIf Tryd.prog 143 = false := by kernel_rfl
@[go_sem] theorem ty_706 : (Tryd.prog.underlying 144).isSome = true := by kernel_rfl
@[go_sem] theorem ty_707 : tyI Tryd.prog 144 = some (false, 1) := by kernel_rfl
@[go_sem] theorem ty_708 : zI Tryd.prog 144 = some [.nilf] := by kernel_rfl
@[go_sem] theorem ty_709 : isIf Tryd.prog 144 = false := by kernel_rfl
@[go_sem] theorem ty_710 : (Tryd.prog.underlying 145).isSome = true := by kernel_rfl
@[go_sem] theorem ty_711 : tyI Tryd.prog 145 = some (false, 1) := by kernel_rfl
@[go_sem] theorem ty_712 : intI Tryd.prog 145 = some .u32 := by kernel_rfl
@[go_sem] theorem ty_713 : zI Tryd.prog 145 = some [.d (.int .u32 0)] := by kernel_rfl
@[go_sem] theorem ty_714 : isIf Tryd.prog 145 = false := by kernel_rfl
@[go_sem] theorem ty_715 : (Tryd.prog.underlying 146).isSome = true := by kernel_rfl
@[go_sem] theorem ty_716 : tyI Tryd.prog 146 = some (false, 1) := by kernel_rfl
@[go_sem] theorem ty_717 : isIf Tryd.prog 146 = false := by kernel_rfl
@[go_sem] theorem ty_718 : (Tryd.prog.underlying 147).isSome = true := by kernel_rfl
@[go_sem] theorem ty_719 : tyI Tryd.prog 147 = some (false, 1) := by kernel_rfl
@[go_sem] theorem ty_720 : zI Tryd.prog 147 = some [.nilf] := by kernel_rfl
@[go_sem] theorem ty_721 : isIf Tryd.prog 147 = false := by kernel_rfl
@[go_sem] theorem ty_722 : (Tryd.prog.underlying 148).isSome = true := by kernel_rfl
@[go_sem] theorem ty_723 : tyI Tryd.prog 148 = some (false, 1) := by kernel_rfl
@[go_sem] theorem ty_724 : intI Tryd.prog 148 = some .i64 := by kernel_rfl
@[go_sem] theorem ty_725 : zI Tryd.prog 148 = some [.d (.int .i64 0)] := by kernel_rfl
@[go_sem] theorem ty_726 : isIf Tryd.prog 148 = false := by kernel_rfl
@[go_sem] theorem ty_727 : (Tryd.prog.underlying 149).isSome = true := by kernel_rfl
@[go_sem] theorem ty_728 : tyI Tryd.prog 149 = some (false, 1) := by kernel_rfl
@[go_sem] theorem ty_729 : isIf Tryd.prog 149 = false := by kernel_rfl
@[go_sem] theorem ty_730 : (Tryd.prog.underlying 150).isSome = true := by kernel_rfl
@[go_sem] theorem ty_731 : tyI Tryd.prog 150 = some (false, 1) := by kernel_rfl
@[go_sem] theorem ty_732 : zI Tryd.prog 150 = some [.nilf] := by kernel_rfl
@[go_sem] theorem ty_733 : isIf Tryd.prog 150 = false := by kernel_rfl
@[go_sem] theorem ty_734 : (Tryd.prog.underlying 151).isSome = true := by kernel_rfl
@[go_sem] theorem ty_735 : tyI Tryd.prog 151 = some (false, 1) := by kernel_rfl
@[go_sem] theorem ty_736 : zI Tryd.prog 151 = some [.nilp] := by kernel_rfl
@[go_sem] theorem ty_737 : isIf Tryd.prog 151 = false := by kernel_rfl
@[go_sem] theorem ty_738 : (Tryd.prog.underlying 152).isSome = true := by kernel_rfl
@[go_sem] theorem ty_739 : tyI Tryd.prog 152 = some (false, 1) := by kernel_rfl
@[go_sem] theorem ty_740 : zI Tryd.prog 152 = some [.nilf] := by kernel_rfl
@[go_sem] theorem ty_741 : isIf Tryd.prog 152 = false := by kernel_rfl
@[go_sem] theorem ty_742 : (Tryd.prog.underlying 153).isSome = true := by kernel_rfl
@[go_sem] theorem ty_743 : tyI Tryd.prog 153 = some (false, 1) := by kernel_rfl
@[go_sem] theorem ty_744 : zI Tryd.prog 153 = some [.nilf] := by kernel_rfl
@[go_sem] theorem ty_745 : isIf Tryd.prog 153 = false := by kernel_rfl
@[go_sem] theorem ty_746 : (Tryd.prog.underlying 154).isSome = true := by kernel_rfl
@[go_sem] theorem ty_747 : tyI Tryd.prog 154 = some (false, 1) := by kernel_rfl
@[go_sem] theorem ty_748 : intI Tryd.prog 154 = some .u64 := by kernel_rfl
@[go_sem] theorem ty_749 : zI Tryd.prog 154 = some [.d (.int .u64 0)] := by kernel_rfl
@[go_sem] theorem ty_750 : isIf Tryd.prog 154 = false := by kernel_rfl
@[go_sem] theorem ty_751 : (Tryd.prog.underlying 155).isSome = true := by kernel_rfl
@[go_sem] theorem ty_752 : tyI Tryd.prog 155 = some (false, 1) := by kernel_rfl
@[go_sem] theorem ty_753 : isIf Tryd.prog 155 = false := by kernel_rfl
@[go_sem] theorem ty_754 : (Tryd.prog.underlying 156).isSome = true := by kernel_rfl
@[go_sem] theorem ty_755 : tyI Tryd.prog 156 = some (false, 1) := by kernel_rfl
@[go_sem] theorem ty_756 : zI Tryd.prog 156 = some [.nilf] := by kernel_rfl
@[go_sem] theorem ty_757 : isIf Tryd.prog 156 = false := by kernel_rfl
@[go_sem] theorem ty_758 : (Tryd.prog.underlying 157).isSome = true := by kernel_rfl
@[go_sem] theorem ty_759 : tyI Tryd.prog 157 = some (false, 1) := by kernel_rfl
@[go_sem] theorem ty_760 : zI Tryd.prog 157 = some [.nilf] := by kernel_rfl
@[go_sem] theorem ty_761 : isIf Tryd.prog 157 = false := by kernel_rfl
@[go_sem] theorem ty_762 : (Tryd.prog.underlying 158).isSome = true := by kernel_rfl
@[go_sem] theorem ty_763 : tyI Tryd.prog 158 = some (true, 3) := by kernel_rfl
@[go_sem] theorem ty_764 : fdI Tryd.prog 158 0 = some (0, 1, false) := by kernel_rfl
@[go_sem] theorem ty_765 : fdI Tryd.prog 158 1 = some (1, 1, false) := by kernel_rfl
@[go_sem] theorem ty_766 : fdI Tryd.prog 158 2 = some (2, 1, false) := by kernel_rfl
@[go_sem] theorem ty_767 : bdI Tryd.prog 158 = some ([.d (.str []), .d (.str []), .nili], [(0, 1), (1, 1), (2, 1)]) := by kernel_rfl
@[go_sem] theorem ty_768 : zI Tryd.prog 158 = some [.d (.str []), .d (.str []), .nili] := by kernel_rfl
@[go_sem] theorem ty_769 : isIf Tryd.prog 158 = false := by kernel_rfl
@[go_sem] theorem ty_770 : (Tryd.prog.underlying 159).isSome = true := by kernel_rfl
@[go_sem] theorem ty_771 : tyI Tryd.prog 159 = some (true, 3) := by kernel_rfl
@[go_sem] theorem ty_772 : fdI Tryd.prog 159 0 = some (0, 1, false) := by kernel_rfl
@[go_sem] theorem ty_773 : fdI Tryd.prog 159 1 = some (1, 1, false) := by kernel_rfl
@[go_sem] theorem ty_774 : fdI Tryd.prog 159 2 = some (2, 1, false) := by kernel_rfl
@[go_sem] theorem ty_775 : bdI Tryd.prog 159 = some ([.d (.str []), .d (.str []), .nili], [(0, 1), (1, 1), (2, 1)]) := by kernel_rfl
@[go_sem] theorem ty_776 : zI Tryd.prog 159 = some [.d (.str []), .d (.str []), .nili] := by kernel_rfl
@[go_sem] theorem ty_777 : isIf Tryd.prog 159 = false := by kernel_rfl
@[go_sem] theorem ty_778 : (Tryd.prog.underlying 160).isSome = true := by kernel_rfl
@[go_sem] theorem ty_779 : tyI Tryd.prog 160 = some (false, 1) := by kernel_rfl
@[go_sem] theorem ty_780 : zI Tryd.prog 160 = some [.nilf] := by kernel_rfl
@[go_sem] theorem ty_781 : isIf Tryd.prog 160 = false := by kernel_rfl
@[go_sem] theorem ty_782 : (Tryd.prog.underlying 161).isSome = true := by kernel_rfl
@[go_sem] theorem ty_783 : tyI Tryd.prog 161 = some (false, 1) := by kernel_rfl
@[go_sem] theorem ty_784 : zI Tryd.prog 161 = some [.nilf] := by kernel_rfl
@[go_sem] theorem ty_785 : isIf Tryd.prog 161 = false := by kernel_rfl
@[go_sem] theorem ty_786 : (Tryd.prog.underlying 162).isSome = true := by kernel_rfl
@[go_sem] theorem ty_787 : tyI Tryd.prog 162 = some (false, 1) := by kernel_rfl
@[go_sem] theorem ty_788 : zI Tryd.prog 162 = some [.nilp] := by kernel_rfl
@[go_sem] theorem ty_789 : isIf Tryd.prog 162 = false := by kernel_rfl
@[go_sem] theorem ty_790 : (Tryd.prog.underlying 163).isSome = true := by kernel_rfl
@[go_sem] theorem ty_791 : tyI Tryd.prog 163 = some (false, 1) := by kernel_rfl
@[go_sem] theorem ty_792 : zI Tryd.prog 163 = some [.nilp] := by kernel_rfl
@[go_sem] theorem ty_793 : isIf Tryd.prog 163 = false := by kernel_rfl
@[go_sem] theorem ty_794 : (Tryd.prog.underlying 164).isSome = true := by kernel_rfl
@[go_sem] theorem ty_795 : tyI Tryd.prog 164 = some (true, 1) := by kernel_rfl
@[go_sem] theorem ty_796 : fdI Tryd.prog 164 0 = some (0, 1, false) := by kernel_rfl
@[go_sem] theorem ty_797 : bdI Tryd.prog 164 = some ([.d (.str [])], [(0, 1)]) := by kernel_rfl
@[go_sem] theorem ty_798 : zI Tryd.prog 164 = some [.d (.str [])] := by kernel_rfl
@[go_sem] theorem ty_799 : eqI Tryd.prog 164 = some [3] := by kernel_rfl
@[go_sem] theorem ty_800 : isIf Tryd.prog 164 = false := by kernel_rfl
@[go_sem] theorem ty_801 : (Tryd.prog.underlying 165).isSome = true := by kernel_rfl
@[go_sem] theorem ty_802 : tyI Tryd.prog 165 = some (true, 1) := by kernel_rfl
@[go_sem] theorem ty_803 : fdI Tryd.prog 165 0 = some (0, 1, false) := by kernel_rfl
@[go_sem] theorem ty_804 : bdI Tryd.prog 165 = some ([.d (.str [])], [(0, 1)]) := by kernel_rfl
@[go_sem] theorem ty_805 : zI Tryd.prog 165 = some [.d (.str [])] := by kernel_rfl
@[go_sem] theorem ty_806 : eqI Tryd.prog 165 = some [3] := by kernel_rfl
@[go_sem] theorem ty_807 : isIf Tryd.prog 165 = false := by kernel_rfl
@[go_sem] theorem ty_808 : (Tryd.prog.underlying 166).isSome = true := by kernel_rfl
@[go_sem] theorem ty_809 : tyI Tryd.prog 166 = some (false, 1) := by kernel_rfl
@[go_sem] theorem ty_810 : zI Tryd.prog 166 = some [.nilf] := by kernel_rfl
@[go_sem] theorem ty_811 : isIf Tryd.prog 166 = false := by kernel_rfl
@[go_sem] theorem ty_812 : (Tryd.prog.underlying 167).isSome = true := by kernel_rfl
@[go_sem] theorem ty_813 : tyI Tryd.prog 167 = some (false, 1) := by kernel_rfl
@[go_sem] theorem ty_814 : zI Tryd.prog 167 = some [.nilf] := by kernel_rfl
@[go_sem] theorem ty_815 : isIf Tryd.prog 167 = false := by kernel_rfl
@[go_sem] theorem ty_816 : (Tryd.prog.underlying 168).isSome = true := by kernel_rfl
@[go_sem] theorem ty_817 : tyI Tryd.prog 168 = some (false, 1) := by kernel_rfl
@[go_sem] theorem ty_818 : zI Tryd.prog 168 = some [.nilf] := by kernel_rfl
@[go_sem] theorem ty_819 : isIf Tryd.prog 168 = false := by kernel_rfl
@[go_sem] theorem ty_820 : (Tryd.prog.underlying 169).isSome = true := by kernel_rfl
@[go_sem] theorem ty_821 : tyI Tryd.prog 169 = some (true, 24) := by kernel_rfl
@[go_sem] theorem ty_822 : arI Tryd.prog 169 = some (24, 1, false) := by kernel_rfl
@[go_sem] theorem ty_823 : bdI Tryd.prog 169 = some ([.d (.int .u8 0), .d (.int .u8 0), .d (.int .u8 0), .d (.int .u8 0), .d (.int .u8 0), .d (.int .u8 0), .d (.int .u8 0), .d (.int .u8 0), .d (.int .u8 0), .d (.int .u8 0), .d (.int .u8 0), .d (.int .u8 0), .d (.int .u8 0), .d (.int .u8 0), .d (.int .u8 0), .d (.int .u8 0), .d (.int .u8 0), .d (.int .u8 0), .d (.int .u8 0), .d (.int .u8 0), .d (.int .u8 0), .d (.int .u8 0), .d (.int .u8 0), .d (.int .u8 0)], [(0, 1), (1, 1), (2, 1), (3, 1), (4, 1), (5, 1), (6, 1), (7, 1), (8, 1), (9, 1), (10, 1), (11, 1), (12, 1), (13, 1), (14, 1), (15, 1), (16, 1), (17, 1), (18, 1), (19, 1), (20, 1), (21, 1), (22, 1), (23, 1)]) := by kernel_rfl
@[go_sem] theorem ty_824 : zI Tryd.prog 169 = some [.d (.int .u8 0), .d (.int .u8 0), .d (.int .u8 0), .d (.int .u8 0), .d (.int .u8 0), .d (.int .u8 0), .d (.int .u8 0), .d (.int .u8 0), .d (.int .u8 0), .d (.int .u8 0), .d (.int .u8 0), .d (.int .u8 0), .d (.int .u8 0), .d (.int .u8 0), .d (.int .u8 0), .d (.int .u8 0), .d (.int .u8 0), .d (.int .u8 0), .d (.int .u8 0), .d (.int .u8 0), .d (.int .u8 0), .d (.int .u8 0), .d (.int .u8 0), .d (.int .u8 0)] := by kernel_rfl
@[go_sem] theorem ty_825 : isIf Tryd.prog 169 = false := by kernel_rfl
@[go_sem] theorem ty_826 : (Tryd.prog.underlying 170).isSome = true := by kernel_rfl
@[go_sem] theorem ty_827 : tyI Tryd.prog 170 = some (false, 1) := by kernel_rfl
@[go_sem] theorem ty_828 : zI Tryd.prog 170 = some [.nilf] := by kernel_rfl
@[go_sem] theorem ty_829 : isIf Tryd.prog 170 = false := by kernel_rfl
@[go_sem] theorem ty_830 : (Tryd.prog.underlying 171).isSome = true := by kernel_rfl
@[go_sem] theorem ty_831 : tyI Tryd.prog 171 = some (false, 1) := by kernel_rfl
@[go_sem] theorem ty_832 : zI Tryd.prog 171 = some [.nilf] := by kernel_rfl
@[go_sem] theorem ty_833 : isIf Tryd.prog 171 = false := by kernel_rfl
@[go_sem] theorem ty_834 : (Tryd.prog.underlying 172).isSome = true := by kernel_rfl
@[go_sem] theorem ty_835 : tyI Tryd.prog 172 = some (false, 1) := by kernel_rfl
@[go_sem] theorem ty_836 : isIf Tryd.prog 172 = false := by kernel_rfl
@[go_sem] theorem ty_837 : (Tryd.prog.underlying 173).isSome = true := by kernel_rfl
@[go_sem] theorem ty_838 : tyI Tryd.prog 173 = some (false, 1) := by kernel_rfl
@[go_sem] theorem ty_839 : zI Tryd.prog 173 = some [.nilf] := by kernel_rfl
@[go_sem] theorem ty_840 : isIf Tryd.prog 173 = false := by kernel_rfl
@[go_sem] theorem ty_841 : (Tryd.prog.underlying 174).isSome = true := by kernel_rfl
@[go_sem] theorem ty_842 : tyI Tryd.prog 174 = some (false, 1) := by kernel_rfl
@[go_sem] theorem ty_843 : zI Tryd.prog 174 = some [.nilf] := by kernel_rfl
@[go_sem] theorem ty_844 : isIf Tryd.prog 174 = false := by kernel_rfl
@[go_sem] theorem ty_845 : (Tryd.prog.underlying 175).isSome = true := by kernel_rfl
@[go_sem] theorem ty_846 : tyI Tryd.prog 175 = some (true, 20) := by kernel_rfl
@[go_sem] theorem ty_847 : arI Tryd.prog 175 = some (20, 1, false) := by kernel_rfl
@[go_sem] theorem ty_848 : bdI Tryd.prog 175 = some ([.d (.int .u64 0), .d (.int .u64 0), .d (.int .u64 0), .d (.int .u64 0), .d (.int .u64 0), .d (.int .u64 0), .d (.int .u64 0), .d (.int .u64 0), .d (.int .u64 0), .d (.int .u64 0), .d (.int .u64 0), .d (.int .u64 0), .d (.int .u64 0), .d (.int .u64 0), .d (.int .u64 0), .d (.int .u64 0), .d (.int .u64 0), .d (.int .u64 0), .d (.int .u64 0), .d (.int .u64 0)], [(0, 1), (1, 1), (2, 1), (3, 1), (4, 1), (5, 1), (6, 1), (7, 1), (8, 1), (9, 1), (10, 1), (11, 1), (12, 1), (13, 1), (14, 1), (15, 1), (16, 1), (17, 1), (18, 1), (19, 1)]) := by kernel_rfl
@[go_sem] theorem ty_849 : zI Tryd.prog 175 = some [.d (.int .u64 0), .d (.int .u64 0), .d (.int .u64 0), .d (.int .u64 0), .d (.int .u64 0), .d (.int .u64 0), .d (.int .u64 0), .d (.int .u64 0), .d (.int .u64 0), .d (.int .u64 0), .d (.int .u64 0), .d (.int .u64 0), .d (.int .u64 0), .d (.int .u64 0), .d (.int .u64 0), .d (.int .u64 0), .d (.int .u64 0), .d (.int .u64 0), .d (.int .u64 0), .d (.int .u64 0)] := by kernel_rfl
@[go_sem] theorem ty_850 : isIf Tryd.prog 175 = false := by kernel_rfl
@[go_sem] theorem ty_851 : (Tryd.prog.underlying 176).isSome = true := by kernel_rfl
@[go_sem] theorem ty_852 : tyI Tryd.prog 176 = some (true, 65) := by kernel_rfl
@[go_sem] theorem ty_853 : arI Tryd.prog 176 = some (65, 1, false) := by kernel_rfl
@[go_sem] theorem ty_854 : isIf Tryd.prog 176 = false := by kernel_rfl
@[go_sem] theorem ty_855 : (Tryd.prog.underlying 177).isSome = true := by kernel_rfl
@[go_sem] theorem ty_856 : tyI Tryd.prog 177 = some (false, 1) := by kernel_rfl
@[go_sem] theorem ty_857 : zI Tryd.prog 177 = some [.nilf] := by kernel_rfl
@[go_sem] theorem ty_858 : isIf Tryd.prog 177 = false := by kernel_rfl
@[go_sem] theorem ty_859 : (Tryd.prog.underlying 178).isSome = true := by kernel_rfl
@[go_sem] theorem ty_860 : tyI Tryd.prog 178 = some (false, 1) := by kernel_rfl
@[go_sem] theorem ty_861 : zI Tryd.prog 178 = some [.nilf] := by kernel_rfl
@[go_sem] theorem ty_862 : isIf Tryd.prog 178 = false := by kernel_rfl
@[go_sem] theorem ty_863 : (Tryd.prog.underlying 179).isSome = true := by kernel_rfl
@[go_sem] theorem ty_864 : tyI Tryd.prog 179 = some (false, 1) := by kernel_rfl
@[go_sem] theorem ty_865 : isIf Tryd.prog 179 = false := by kernel_rfl
@[go_sem] theorem ty_866 : (Tryd.prog.underlying 180).isSome = true := by kernel_rfl
@[go_sem] theorem ty_867 : tyI Tryd.prog 180 = some (false, 1) := by kernel_rfl
@[go_sem] theorem ty_868 : zI Tryd.prog 180 = some [.nilf] := by kernel_rfl
@[go_sem] theorem ty_869 : isIf Tryd.prog 180 = false := by kernel_rfl
@[go_sem] theorem ty_870 : (Tryd.prog.underlying 181).isSome = true := by kernel_rfl
@[go_sem] theorem ty_871 : tyI Tryd.prog 181 = some (false, 1) := by kernel_rfl
@[go_sem] theorem ty_872 : zI Tryd.prog 181 = some [.nilf] := by kernel_rfl
@[go_sem] theorem ty_873 : isIf Tryd.prog 181 = false := by kernel_rfl
@[go_sem] theorem ty_874 : (Tryd.prog.underlying 182).isSome = true := by kernel_rfl
@[go_sem] theorem ty_875 : tyI Tryd.prog 182 = some (true, 32) := by kernel_rfl
@[go_sem] theorem ty_876 : arI Tryd.prog 182 = some (32, 1, false) := by kernel_rfl
@[go_sem] theorem ty_877 : bdI Tryd.prog 182 = some ([.d (.int .u8 0), .d (.int .u8 0), .d (.int .u8 0), .d (.int .u8 0), .d (.int .u8 0), .d (.int .u8 0), .d (.int .u8 0), .d (.int .u8 0), .d (.int .u8 0), .d (.int .u8 0), .d (.int .u8 0), .d (.int .u8 0), .d (.int .u8 0), .d (.int .u8 0), .d (.int .u8 0), .d (.int .u8 0), .d (.int .u8 0), .d (.int .u8 0), .d (.int .u8 0), .d (.int .u8 0), .d (.int .u8 0), .d (.int .u8 0), .d (.int .u8 0), .d (.int .u8 0), .d (.int .u8 0), .d (.int .u8 0), .d (.int .u8 0), .d (.int .u8 0), .d (.int .u8 0), .d (.int .u8 0), .d (.int .u8 0), .d (.int .u8 0)], [(0, 1), (1, 1), (2, 1), (3, 1), (4, 1), (5, 1), (6, 1), (7, 1), (8, 1), (9, 1), (10, 1), (11, 1), (12, 1), (13, 1), (14, 1), (15, 1), (16, 1), (17, 1), (18, 1), (19, 1), (20, 1), (21, 1), (22, 1), (23, 1), (24, 1), (25, 1), (26, 1), (27, 1), (28, 1), (29, 1), (30, 1), (31, 1)]) := by kernel_rfl
@[go_sem] theorem ty_878 : zI Tryd.prog 182 = some [.d (.int .u8 0), .d (.int .u8 0), .d (.int .u8 0), .d (.int .u8 0), .d (.int .u8 0), .d (.int .u8 0), .d (.int .u8 0), .d (.int .u8 0), .d (.int .u8 0), .d (.int .u8 0), .d (.int .u8 0), .d (.int .u8 0), .d (.int .u8 0), .d (.int .u8 0), .d (.int .u8 0), .d (.int .u8 0), .d (.int .u8 0), .d (.int .u8 0), .d (.int .u8 0), .d (.int .u8 0), .d (.int .u8 0), .d (.int .u8 0), .d (.int .u8 0), .d (.int .u8 0), .d (.int .u8 0), .d (.int .u8 0), .d (.int .u8 0), .d (.int .u8 0), .d (.int .u8 0), .d (.int .u8 0), .d (.int .u8 0), .d (.int .u8 0)] := by kernel_rfl
@[go_sem] theorem ty_879 : isIf Tryd.prog 182 = false := by kernel_rfl
@[go_sem] theorem ty_880 : (Tryd.prog.underlying 183).isSome = true := by kernel_rfl
@[go_sem] theorem ty_881 : tyI Tryd.prog 183 = some (true, 64) := by kernel_rfl
@[go_sem] theorem ty_882 : arI Tryd.prog 183 = some (64, 1, false) := by kernel_rfl
@[go_sem] theorem ty_883 : bdI Tryd.prog 183 = some ([.d (.int .u8 0), .d (.int .u8 0), .d (.int .u8 0), .d (.int .u8 0), .d (.int .u8 0), .d (.int .u8 0), .d (.int .u8 0), .d (.int .u8 0), .d (.int .u8 0), .d (.int .u8 0), .d (.int .u8 0), .d (.int .u8 0), .d (.int .u8 0), .d (.int .u8 0), .d (.int .u8 0), .d (.int .u8 0), .d (.int .u8 0), .d (.int .u8 0), .d (.int .u8 0), .d (.int .u8 0), .d (.int .u8 0), .d (.int .u8 0), .d (.int .u8 0), .d (.int .u8 0), .d (.int .u8 0), .d (.int .u8 0), .d (.int .u8 0), .d (.int .u8 0), .d (.int .u8 0), .d (.int .u8 0), .d (.int .u8 0), .d (.int .u8 0), .d (.int .u8 0), .d (.int .u8 0), .d (.int .u8 0), .d (.int .u8 0), .d (.int .u8 0), .d (.int .u8 0), .d (.int .u8 0), .d (.int .u8 0), .d (.int .u8 0), .d (.int .u8 0), .d (.int .u8 0), .d (.int .u8 0), .d (.int .u8 0), .d (.int .u8 0), .d (.int .u8 0), .d (.int .u8 0), .d (.int .u8 0), .d (.int .u8 0), .d (.int .u8 0), .d (.int .u8 0), .d (.int .u8 0), .d (.int .u8 0), .d (.int .u8 0), .d (.int .u8 0), .d (.int .u8 0), .d (.int .u8 0), .d (.int .u8 0), .d (.int .u8 0), .d (.int .u8 0), .d (.int .u8 0), .d (.int .u8 0), .d (.int .u8 0)], [(0, 1), (1, 1), (2, 1), (3, 1), (4, 1), (5, 1), (6, 1), (7, 1), (8, 1), (9, 1), (10, 1), (11, 1), (12, 1), (13, 1), (14, 1), (15, 1), (16, 1), (17, 1), (18, 1), (19, 1), (20, 1), (21, 1), (22, 1), (23, 1), (24, 1), (25, 1), (26, 1), (27, 1), (28, 1), (29, 1), (30, 1), (31, 1), (32, 1), (33, 1), (34, 1), (35, 1), (36, 1), (37, 1), (38, 1), (39, 1), (40, 1), (41, 1), (42, 1), (43, 1), (44, 1), (45, 1), (46, 1), (47, 1), (48, 1), (49, 1), (50, 1), (51, 1), (52, 1), (53, 1), (54, 1), (55, 1), (56, 1), (57, 1), (58, 1), (59, 1), (60, 1), (61, 1), (62, 1), (63, 1)]) := by kernel_rfl
@[go_sem] theorem ty_884 : zI Tryd.prog 183 = some [.d (.int .u8 0), .d (.int .u8 0), .d (.int .u8 0), .d (.int .u8 0), .d (.int .u8 0), .d (.int .u8 0), .d (.int .u8 0), .d (.int .u8 0), .d (.int .u8 0), .d (.int .u8 0), .d (.int .u8 0), .d (.int .u8 0), .d (.int .u8 0), .d (.int .u8 0), .d (.int .u8 0), .d (.int .u8 0), .d (.int .u8 0), .d (.int .u8 0), .d (.int .u8 0), .d (.int .u8 0), .d (.int .u8 0), .d (.int .u8 0), .d (.int .u8 0), .d (.int .u8 0), .d (.int .u8 0), .d (.int .u8 0), .d (.int .u8 0), .d (.int .u8 0), .d (.int .u8 0), .d (.int .u8 0), .d (.int .u8 0), .d (.int .u8 0), .d (.int .u8 0), .d (.int .u8 0), .d (.int .u8 0), .d (.int .u8 0), .d (.int .u8 0), .d (.int .u8 0), .d (.int .u8 0), .d (.int .u8 0), .d (.int .u8 0), .d (.int .u8 0), .d (.int .u8 0), .d (.int .u8 0), .d (.int .u8 0), .d (.int .u8 0), .d (.int .u8 0), .d (.int .u8 0), .d (.int .u8 0), .d (.int .u8 0), .d (.int .u8 0), .d (.int .u8 0), .d (.int .u8 0), .d (.int .u8 0), .d (.int .u8 0), .d (.int .u8 0), .d (.int .u8 0), .d (.int .u8 0), .d (.int .u8 0), .d (.int .u8 0), .d (.int .u8 0), .d (.int .u8 0), .d (.int .u8 0), .d (.int .u8 0)] := by kernel_rfl
@[go_sem] theorem ty_885 : isIf Tryd.prog 183 = false := by kernel_rfl
@[go_sem] theorem ty_886 : (Tryd.prog.underlying 184).isSome = true := by kernel_rfl
@[go_sem] theorem ty_887 : tyI Tryd.prog 184 = some (true, 256) := by kernel_rfl
@[go_sem] theorem ty_888 : arI Tryd.prog 184 = some (256, 1, false) := by kernel_rfl
@[go_sem] theorem ty_889 : isIf Tryd.prog 184 = false := by kernel_rfl
@[go_sem] theorem ty_890 : (Tryd.prog.underlying 185).isSome = true := by kernel_rfl
@[go_sem] theorem ty_891 : tyI Tryd.prog 185 = some (true, 2) := by kernel_rfl
@[go_sem] theorem ty_892 : fdI Tryd.prog 185 0 = some (0, 1, false) := by kernel_rfl
@[go_sem] theorem ty_893 : fdI Tryd.prog 185 1 = some (1, 1, false) := by kernel_rfl
@[go_sem] theorem ty_894 : bdI Tryd.prog 185 = some ([.d (.int .u8 0), .d (.int .u8 0)], [(0, 1), (1, 1)]) := by kernel_rfl
@[go_sem] theorem ty_895 : zI Tryd.prog 185 = some [.d (.int .u8 0), .d (.int .u8 0)] := by kernel_rfl
@[go_sem] theorem ty_896 : eqI Tryd.prog 185 = some [1, 1] := by kernel_rfl
@[go_sem] theorem ty_897 : isIf Tryd.prog 185 = false := by kernel_rfl
@[go_sem] theorem ty_898 : (Tryd.prog.underlying 186).isSome = true := by kernel_rfl
@[go_sem] theorem ty_899 : tyI Tryd.prog 186 = some (true, 2) := by kernel_rfl
@[go_sem] theorem ty_900 : fdI Tryd.prog 186 0 = some (0, 1, false) := by kernel_rfl
@[go_sem] theorem ty_901 : fdI Tryd.prog 186 1 = some (1, 1, false) := by kernel_rfl
@[go_sem] theorem ty_902 : bdI Tryd.prog 186 = some ([.d (.int .u8 0), .d (.int .u8 0)], [(0, 1), (1, 1)]) := by kernel_rfl
@[go_sem] theorem ty_903 : zI Tryd.prog 186 = some [.d (.int .u8 0), .d (.int .u8 0)] := by kernel_rfl
@[go_sem] theorem ty_904 : eqI Tryd.prog 186 = some [1, 1] := by kernel_rfl
@[go_sem] theorem ty_905 : isIf Tryd.prog 186 = false := by kernel_rfl
@[go_sem] theorem ty_906 : (Tryd.prog.underlying 187).isSome = true := by kernel_rfl
@[go_sem] theorem ty_907 : tyI Tryd.prog 187 = some (true, 32) := by kernel_rfl
@[go_sem] theorem ty_908 : arI Tryd.prog 187 = some (16, 2, true) := by kernel_rfl
@[go_sem] theorem ty_909 : bdI Tryd.prog 187 = some ([.d (.int .u8 0), .d (.int .u8 0), .d (.int .u8 0), .d (.int .u8 0), .d (.int .u8 0), .d (.int .u8 0), .d (.int .u8 0), .d (.int .u8 0), .d (.int .u8 0), .d (.int .u8 0), .d (.int .u8 0), .d (.int .u8 0), .d (.int .u8 0), .d (.int .u8 0), .d (.int .u8 0), .d (.int .u8 0), .d (.int .u8 0), .d (.int .u8 0), .d (.int .u8 0), .d (.int .u8 0), .d (.int .u8 0), .d (.int .u8 0), .d (.int .u8 0), .d (.int .u8 0), .d (.int .u8 0), .d (.int .u8 0), .d (.int .u8 0), .d (.int .u8 0), .d (.int .u8 0), .d (.int .u8 0), .d (.int .u8 0), .d (.int .u8 0)], [(0, 2), (2, 2), (4, 2), (6, 2), (8, 2), (10, 2), (12, 2), (14, 2), (16, 2), (18, 2), (20, 2), (22, 2), (24, 2), (26, 2), (28, 2), (30, 2)]) := by kernel_rfl
@[go_sem] theorem ty_910 : zI Tryd.prog 187 = some [.d (.int .u8 0), .d (.int .u8 0), .d (.int .u8 0), .d (.int .u8 0), .d (.int .u8 0), .d (.int .u8 0), .d (.int .u8 0), .d (.int .u8 0), .d (.int .u8 0), .d (.int .u8 0), .d (.int .u8 0), .d (.int .u8 0), .d (.int .u8 0), .d (.int .u8 0), .d (.int .u8 0), .d (.int .u8 0), .d (.int .u8 0), .d (.int .u8 0), .d (.int .u8 0), .d (.int .u8 0), .d (.int .u8 0), .d (.int .u8 0), .d (.int .u8 0), .d (.int .u8 0), .d (.int .u8 0), .d (.int .u8 0), .d (.int .u8 0), .d (.int .u8 0), .d (.int .u8 0), .d (.int .u8 0), .d (.int .u8 0), .d (.int .u8 0)] := by kernel_rfl
@[go_sem] theorem ty_911 : isIf Tryd.prog 187 = false := by kernel_rfl
@[go_sem] theorem ty_912 : (Tryd.prog.underlying 188).isSome = true := by kernel_rfl
@[go_sem] theorem ty_913 : tyI Tryd.prog 188 = some (true, 4) := by kernel_rfl
@[go_sem] theorem ty_914 : fdI Tryd.prog 188 0 = some (0, 1, false) := by kernel_rfl
@[go_sem] theorem ty_915 : fdI Tryd.prog 188 1 = some (1, 1, false) := by kernel_rfl
@[go_sem] theorem ty_916 : fdI Tryd.prog 188 2 = some (2, 1, false) := by kernel_rfl
@[go_sem] theorem ty_917 : fdI Tryd.prog 188 3 = some (3, 1, false) := by kernel_rfl
@[go_sem] theorem ty_918 : bdI Tryd.prog 188 = some ([.nilp, .nilp, .nilp, .d (.str [])], [(0, 1), (1, 1), (2, 1), (3, 1)]) := by kernel_rfl
@[go_sem] theorem ty_919 : zI Tryd.prog 188 = some [.nilp, .nilp, .nilp, .d (.str [])] := by kernel_rfl
@[go_sem] theorem ty_920 : isIf Tryd.prog 188 = false := by kernel_rfl
@[go_sem] theorem ty_921 : (Tryd.prog.underlying 189).isSome = true := by kernel_rfl
@[go_sem] theorem ty_922 : tyI Tryd.prog 189 = some (true, 4) := by kernel_rfl
@[go_sem] theorem ty_923 : fdI Tryd.prog 189 0 = some (0, 1, false) := by kernel_rfl
@[go_sem] theorem ty_924 : fdI Tryd.prog 189 1 = some (1, 1, false) := by kernel_rfl
@[go_sem] theorem ty_925 : fdI Tryd.prog 189 2 = some (2, 1, false) := by kernel_rfl
@[go_sem] theorem ty_926 : fdI Tryd.prog 189 3 = some (3, 1, false) := by kernel_rfl
@[go_sem] theorem ty_927 : bdI Tryd.prog 189 = some ([.nilp, .nilp, .nilp, .d (.str [])], [(0, 1), (1, 1), (2, 1), (3, 1)]) := by kernel_rfl
@[go_sem] theorem ty_928 : zI Tryd.prog 189 = some [.nilp, .nilp, .nilp, .d (.str [])] := by kernel_rfl
@[go_sem] theorem ty_929 : isIf Tryd.prog 189 = false := by kernel_rfl
@[go_sem] theorem ty_930 : (Tryd.prog.underlying 190).isSome = true := by kernel_rfl
@[go_sem] theorem ty_931 : tyI Tryd.prog 190 = some (true, 0) := by kernel_rfl
@[go_sem] theorem ty_932 : arI Tryd.prog 190 = some (0, 1, false) := by kernel_rfl
@[go_sem] theorem ty_933 : bdI Tryd.prog 190 = some ([], []) := by kernel_rfl
@[go_sem] theorem ty_934 : zI Tryd.prog 190 = some [] := by kernel_rfl
@[go_sem] theorem ty_935 : isIf Tryd.prog 190 = false := by kernel_rfl
@[go_sem] theorem ty_936 : (Tryd.prog.underlying 191).isSome = true := by kernel_rfl
@[go_sem] theorem ty_937 : tyI Tryd.prog 191 = some (true, 0) := by kernel_rfl
@[go_sem] theorem ty_938 : bdI Tryd.prog 191 = some ([], [(0, 0)]) := by kernel_rfl
@[go_sem] theorem ty_939 : zI Tryd.prog 191 = some [] := by kernel_rfl
@[go_sem] theorem ty_940 : isIf Tryd.prog 191 = false := by kernel_rfl
@[go_sem] theorem ty_941 : (Tryd.prog.underlying 192).isSome = true := by kernel_rfl
@[go_sem] theorem ty_942 : tyI Tryd.prog 192 = some (true, 0) := by kernel_rfl
@[go_sem] theorem ty_943 : bdI Tryd.prog 192 = some ([], [(0, 0)]) := by kernel_rfl
@[go_sem] theorem ty_944 : zI Tryd.prog 192 = some [] := by kernel_rfl
@[go_sem] theorem ty_945 : isIf Tryd.prog 192 = false := by kernel_rfl
@[go_sem] theorem ty_946 : (Tryd.prog.underlying 193).isSome = true := by kernel_rfl
@[go_sem] theorem ty_947 : tyI Tryd.prog 193 = some (false, 1) := by kernel_rfl
@[go_sem] theorem ty_948 : zI Tryd.prog 193 = some [.nilf] := by kernel_rfl
@[go_sem] theorem ty_949 : isIf Tryd.prog 193 = false := by kernel_rfl
@[go_sem] theorem ty_950 : (Tryd.prog.underlying 194).isSome = true := by kernel_rfl
@[go_sem] theorem ty_951 : tyI Tryd.prog 194 = some (false, 1) := by kernel_rfl
@[go_sem] theorem ty_952 : intI Tryd.prog 194 = some .u8 := by kernel_rfl
@[go_sem] theorem ty_953 : zI Tryd.prog 194 = some [.d (.int .u8 0)] := by kernel_rfl
@[go_sem] theorem ty_954 : isIf Tryd.prog 194 = false := by kernel_rfl
@[go_sem] theorem ty_955 : (Tryd.prog.underlying 195).isSome = true := by kernel_rfl
@[go_sem] theorem ty_956 : tyI Tryd.prog 195 = some (false, 1) := by kernel_rfl
@[go_sem] theorem ty_957 : intI Tryd.prog 195 = some .u8 := by kernel_rfl
@[go_sem] theorem ty_958 : zI Tryd.prog 195 = some [.d (.int .u8 0)] := by kernel_rfl
@[go_sem] theorem ty_959 : isIf Tryd.prog 195 = false := by kernel_rfl
@[go_sem] theorem ty_960 : (Tryd.prog.underlying 196).isSome = true := by kernel_rfl
@[go_sem] theorem ty_961 : tyI Tryd.prog 196 = some (false, 1) := by kernel_rfl
@[go_sem] theorem ty_962 : zI Tryd.prog 196 = some [.nilf] := by kernel_rfl
@[go_sem] theorem ty_963 : isIf Tryd.prog 196 = false := by kernel_rfl
@[go_sem] theorem ty_964 : (Tryd.prog.underlying 197).isSome = true := by kernel_rfl
@[go_sem] theorem ty_965 : tyI Tryd.prog 197 = some (false, 1) := by kernel_rfl
@[go_sem] theorem ty_966 : intI Tryd.prog 197 = some .i32 := by kernel_rfl
@[go_sem] theorem ty_967 : zI Tryd.prog 197 = some [.d (.int .i32 0)] := by kernel_rfl
@[go_sem] theorem ty_968 : isIf Tryd.prog 197 = false := by kernel_rfl
@[go_sem] theorem ty_969 : (Tryd.prog.underlying 198).isSome = true := by kernel_rfl
@[go_sem] theorem ty_970 : tyI Tryd.prog 198 = some (false, 1) := by kernel_rfl
@[go_sem] theorem ty_971 : intI Tryd.prog 198 = some .i32 := by kernel_rfl
@[go_sem] theorem ty_972 : zI Tryd.prog 198 = some [.d (.int .i32 0)] := by kernel_rfl
@[go_sem] theorem ty_973 : isIf Tryd.prog 198 = false := by kernel_rfl
@[go_sem] theorem ty_974 : (Tryd.prog.underlying 199).isSome = true := by kernel_rfl
@[go_sem] theorem ty_975 : tyI Tryd.prog 199 = some (true, 11) := by kernel_rfl
@[go_sem] theorem ty_976 : fdI Tryd.prog 199 0 = some (0, 1, false) := by kernel_rfl
@[go_sem] theorem ty_977 : fdI Tryd.prog 199 1 = some (1, 1, false) := by kernel_rfl
@[go_sem] theorem ty_978 : fdI Tryd.prog 199 2 = some (2, 1, false) := by kernel_rfl
@[go_sem] theorem ty_979 : fdI Tryd.prog 199 3 = some (3, 1, false) := by kernel_rfl
@[go_sem] theorem ty_980 : fdI Tryd.prog 199 4 = some (4, 1, false) := by kernel_rfl
@[go_sem] theorem ty_981 : fdI Tryd.prog 199 5 = some (5, 1, false) := by kernel_rfl
@[go_sem] theorem ty_982 : fdI Tryd.prog 199 6 = some (6, 1, false) := by kernel_rfl
@[go_sem] theorem ty_983 : fdI Tryd.prog 199 7 = some (7, 1, false) := by kernel_rfl
@[go_sem] theorem ty_984 : fdI Tryd.prog 199 8 = some (8, 1, false) := by kernel_rfl
@[go_sem] theorem ty_985 : fdI Tryd.prog 199 9 = some (9, 1, false) := by kernel_rfl
@[go_sem] theorem ty_986 : fdI Tryd.prog 199 10 = some (10, 1, false) := by kernel_rfl
@[go_sem] theorem ty_987 : bdI Tryd.prog 199 = some ([.d (.int .u64 0), .d (.int .u64 0), .d (.int .u32 0), .d (.int .u8 0), .d (.int .u8 0), .d (.int .u8 0), .d (.int .u8 0), .nilf, .nilp, .d (.int .i32 0), .d (.int .i32 0)], [(0, 1), (1, 1), (2, 1), (3, 1), (4, 1), (5, 1), (6, 1), (7, 1), (8, 1), (9, 1), (10, 1)]) := by kernel_rfl
@[go_sem] theorem ty_988 : zI Tryd.prog 199 = some [.d (.int .u64 0), .d (.int .u64 0), .d (.int .u32 0), .d (.int .u8 0), .d (.int .u8 0), .d (.int .u8 0), .d (.int .u8 0), .nilf, .nilp, .d (.int .i32 0), .d (.int .i32 0)] := by kernel_rfl
@[go_sem] theorem ty_989 : isIf Tryd.prog 199 = false := by kernel_rfl
@[go_sem] theorem ty_990 : (Tryd.prog.underlying 200).isSome = true := by kernel_rfl
@[go_sem] theorem ty_991 : tyI Tryd.prog 200 = some (true, 11) := by kernel_rfl
@[go_sem] theorem ty_992 : fdI Tryd.prog 200 0 = some (0, 1, false) := by kernel_rfl
@[go_sem] theorem ty_993 : fdI Tryd.prog 200 1 = some (1, 1, false) := by kernel_rfl
@[go_sem] theorem ty_994 : fdI Tryd.prog 200 2 = some (2, 1, false) := by kernel_rfl
@[go_sem] theorem ty_995 : fdI Tryd.prog 200 3 = some (3, 1, false) := by kernel_rfl
@[go_sem] theorem ty_996 : fdI Tryd.prog 200 4 = some (4, 1, false) := by kernel_rfl
@[go_sem] theorem ty_997 : fdI Tryd.prog 200 5 = some (5, 1, false) := by kernel_rfl
@[go_sem] theorem ty_998 : fdI Tryd.prog 200 6 = some (6, 1, false) := by kernel_rfl
@[go_sem] theorem ty_999 : fdI Tryd.prog 200 7 = some (7, 1, false) := by kernel_rfl
@[go_sem] theorem ty_1000 : fdI Tryd.prog 200 8 = some (8, 1, false) := by kernel_rfl
@[go_sem] theorem ty_1001 : fdI Tryd.prog 200 9 = some (9, 1, false) := by kernel_rfl
@[go_sem] theorem ty_1002 : fdI Tryd.prog 200 10 = some (10, 1, false) := by kernel_rfl
@[go_sem] theorem ty_1003 : bdI Tryd.prog 200 = some ([.d (.int .u64 0), .d (.int .u64 0), .d (.int .u32 0), .d (.int .u8 0), .d (.int .u8 0), .d (.int .u8 0), .d (.int .u8 0), .nilf, .nilp, .d (.int .i32 0), .d (.int .i32 0)], [(0, 1), (1, 1), (2, 1), (3, 1), (4, 1), (5, 1), (6, 1), (7, 1), (8, 1), (9, 1), (10, 1)]) := by kernel_rfl
@[go_sem] theorem ty_1004 : zI Tryd.prog 200 = some [.d (.int .u64 0), .d (.int .u64 0), .d (.int .u32 0), .d (.int .u8 0), .d (.int .u8 0), .d (.int .u8 0), .d (.int .u8 0), .nilf, .nilp, .d (.int .i32 0), .d (.int .i32 0)] := by kernel_rfl
@[go_sem] theorem ty_1005 : isIf Tryd.prog 200 = false := by kernel_rfl
@[go_sem] theorem ty_1006 : (Tryd.prog.underlying 201).isSome = true := by kernel_rfl
@[go_sem] theorem ty_1007 : tyI Tryd.prog 201 = some (false, 1) := by kernel_rfl
@[go_sem] theorem ty_1008 : zI Tryd.prog 201 = some [.nilp] := by kernel_rfl
@[go_sem] theorem ty_1009 : isIf Tryd.prog 201 = false := by kernel_rfl
end Go.Proofs.YtlfocommkkkgdaaDoor
