/- The types of this program, as the logic sees them: printed by a program. -/
import Derived.Test.YtnoboapafndnlaaDoorAvI
import Derived.Test.YtnoboapafndnlaaDoorProg
namespace Go.Proofs.YtnoboapafndnlaaDoor
@[go_sem] theorem ty_0 : (Tryd.prog.underlying 0).isSome = true := by kernel_rfl
@[go_sem] theorem ty_1 : tyI Tryd.prog 0 = some (false, 1) := by kernel_rfl
@[go_sem] theorem ty_2 : isIf Tryd.prog 0 = false := by kernel_rfl
@[go_sem] theorem ty_3 : (Tryd.prog.underlying 1).isSome = true := by kernel_rfl
@[go_sem] theorem ty_4 : tyI Tryd.prog 1 = some (false, 1) := by kernel_rfl
@[go_sem] theorem ty_5 : zI Tryd.prog 1 = some [.nilf] := by kernel_rfl
@[go_sem] theorem ty_6 : isIf Tryd.prog 1 = false := by kernel_rfl
@[go_sem] theorem ty_7 : (Tryd.prog.underlying 2).isSome = true := by kernel_rfl
@[go_sem] theorem ty_8 : tyI Tryd.prog 2 = some (false, 1) := by kernel_rfl
@[go_sem] theorem ty_9 : intI Tryd.prog 2 = some .i64 := by kernel_rfl
@[go_sem] theorem ty_10 : zI Tryd.prog 2 = some [.d (.int .i64 0)] := by kernel_rfl
@[go_sem] theorem ty_11 : isIf Tryd.prog 2 = false := by kernel_rfl
@[go_sem] theorem ty_12 : (Tryd.prog.underlying 3).isSome = true := by kernel_rfl
@[go_sem] theorem ty_13 : tyI Tryd.prog 3 = some (false, 1) := by kernel_rfl
@[go_sem] theorem ty_14 : intI Tryd.prog 3 = some .i64 := by kernel_rfl
@[go_sem] theorem ty_15 : zI Tryd.prog 3 = some [.d (.int .i64 0)] := by kernel_rfl
@[go_sem] theorem ty_16 : isIf Tryd.prog 3 = false := by kernel_rfl
@[go_sem] theorem ty_17 : (Tryd.prog.underlying 4).isSome = true := by kernel_rfl
@[go_sem] theorem ty_18 : tyI Tryd.prog 4 = some (false, 1) := by kernel_rfl
@[go_sem] theorem ty_19 : zI Tryd.prog 4 = some [.d (.bool false)] := by kernel_rfl
@[go_sem] theorem ty_20 : isB Tryd.prog 4 = true := by kernel_rfl
@[go_sem] theorem ty_21 : isIf Tryd.prog 4 = false := by kernel_rfl
@[go_sem] theorem ty_22 : (Tryd.prog.underlying 5).isSome = true := by kernel_rfl
@[go_sem] theorem ty_23 : tyI Tryd.prog 5 = some (false, 1) := by kernel_rfl
@[go_sem] theorem ty_24 : intI Tryd.prog 5 = some .u8 := by kernel_rfl
@[go_sem] theorem ty_25 : zI Tryd.prog 5 = some [.d (.int .u8 0)] := by kernel_rfl
@[go_sem] theorem ty_26 : isIf Tryd.prog 5 = false := by kernel_rfl
@[go_sem] theorem ty_27 : (Tryd.prog.underlying 6).isSome = true := by kernel_rfl
@[go_sem] theorem ty_28 : tyI Tryd.prog 6 = some (false, 1) := by kernel_rfl
@[go_sem] theorem ty_29 : intI Tryd.prog 6 = some .u8 := by kernel_rfl
@[go_sem] theorem ty_30 : zI Tryd.prog 6 = some [.d (.int .u8 0)] := by kernel_rfl
@[go_sem] theorem ty_31 : isIf Tryd.prog 6 = false := by kernel_rfl
@[go_sem] theorem ty_32 : (Tryd.prog.underlying 7).isSome = true := by kernel_rfl
@[go_sem] theorem ty_33 : tyI Tryd.prog 7 = some (true, 4) := by kernel_rfl
@[go_sem] theorem ty_34 : fdI Tryd.prog 7 0 = some (0, 1, false) := by kernel_rfl
@[go_sem] theorem ty_35 : fdI Tryd.prog 7 1 = some (1, 1, false) := by kernel_rfl
@[go_sem] theorem ty_36 : fdI Tryd.prog 7 2 = some (2, 1, false) := by kernel_rfl
@[go_sem] theorem ty_37 : fdI Tryd.prog 7 3 = some (3, 1, false) := by kernel_rfl
@[go_sem] theorem ty_38 : bdI Tryd.prog 7 = some ([.d (.int .i64 0), .d (.int .i64 0), .d (.bool false), .d (.int .u8 0)], [(0, 1), (1, 1), (2, 1), (3, 1)]) := by kernel_rfl
@[go_sem] theorem ty_39 : zI Tryd.prog 7 = some [.d (.int .i64 0), .d (.int .i64 0), .d (.bool false), .d (.int .u8 0)] := by kernel_rfl
@[go_sem] theorem ty_40 : eqI Tryd.prog 7 = some [1, 1, 2, 1] := by kernel_rfl
@[go_sem] theorem ty_41 : isIf Tryd.prog 7 = false := by kernel_rfl
@[go_sem] theorem ty_42 : (Tryd.prog.underlying 8).isSome = true := by kernel_rfl
@[go_sem] theorem ty_43 : tyI Tryd.prog 8 = some (true, 4) := by kernel_rfl
@[go_sem] theorem ty_44 : fdI Tryd.prog 8 0 = some (0, 1, false) := by kernel_rfl
@[go_sem] theorem ty_45 : fdI Tryd.prog 8 1 = some (1, 1, false) := by kernel_rfl
@[go_sem] theorem ty_46 : fdI Tryd.prog 8 2 = some (2, 1, false) := by kernel_rfl
@[go_sem] theorem ty_47 : fdI Tryd.prog 8 3 = some (3, 1, false) := by kernel_rfl
@[go_sem] theorem ty_48 : bdI Tryd.prog 8 = some ([.d (.int .i64 0), .d (.int .i64 0), .d (.bool false), .d (.int .u8 0)], [(0, 1), (1, 1), (2, 1), (3, 1)]) := by kernel_rfl
@[go_sem] theorem ty_49 : zI Tryd.prog 8 = some [.d (.int .i64 0), .d (.int .i64 0), .d (.bool false), .d (.int .u8 0)] := by kernel_rfl
@[go_sem] theorem ty_50 : eqI Tryd.prog 8 = some [1, 1, 2, 1] := by kernel_rfl
@[go_sem] theorem ty_51 : isIf Tryd.prog 8 = false := by kernel_rfl
@[go_sem] theorem ty_52 : (Tryd.prog.underlying 9).isSome = true := by kernel_rfl
@[go_sem] theorem ty_53 : tyI Tryd.prog 9 = some (false, 1) := by kernel_rfl
@[go_sem] theorem ty_54 : zI Tryd.prog 9 = some [.d (.str [])] := by kernel_rfl
@[go_sem] theorem ty_55 : isStr Tryd.prog 9 = true := by kernel_rfl
@[go_sem] theorem ty_56 : isIf Tryd.prog 9 = false := by kernel_rfl
@[go_sem] theorem ty_57 : (Tryd.prog.underlying 10).isSome = true := by kernel_rfl
@[go_sem] theorem ty_58 : tyI Tryd.prog 10 = some (false, 1) := by kernel_rfl
@[go_sem] theorem ty_59 : zI Tryd.prog 10 = some [.d (.str [])] := by kernel_rfl
@[go_sem] theorem ty_60 : isStr Tryd.prog 10 = true := by kernel_rfl
@[go_sem] theorem ty_61 : isIf Tryd.prog 10 = false := by kernel_rfl
@[go_sem] theorem ty_62 : (Tryd.prog.underlying 11).isSome = true := by kernel_rfl
@[go_sem] theorem ty_63 : tyI Tryd.prog 11 = some (false, 1) := by kernel_rfl
@[go_sem] theorem ty_64 : zI Tryd.prog 11 = some [.d (.str [])] := by kernel_rfl
@[go_sem] theorem ty_65 : isStr Tryd.prog 11 = true := by kernel_rfl
@[go_sem] theorem ty_66 : isIf Tryd.prog 11 = false := by kernel_rfl
@[go_sem] theorem ty_67 : (Tryd.prog.underlying 12).isSome = true := by kernel_rfl
@[go_sem] theorem ty_68 : tyI Tryd.prog 12 = some (false, 1) := by kernel_rfl
@[go_sem] theorem ty_69 : intI Tryd.prog 12 = some .u64 := by kernel_rfl
@[go_sem] theorem ty_70 : zI Tryd.prog 12 = some [.d (.int .u64 0)] := by kernel_rfl
@[go_sem] theorem ty_71 : isIf Tryd.prog 12 = false := by kernel_rfl
@[go_sem] theorem ty_72 : (Tryd.prog.underlying 13).isSome = true := by kernel_rfl
@[go_sem] theorem ty_73 : tyI Tryd.prog 13 = some (true, 2) := by kernel_rfl
@[go_sem] theorem ty_74 : fdI Tryd.prog 13 0 = some (0, 1, false) := by kernel_rfl
@[go_sem] theorem ty_75 : fdI Tryd.prog 13 1 = some (1, 1, false) := by kernel_rfl
@[go_sem] theorem ty_76 : bdI Tryd.prog 13 = some ([.d (.str []), .d (.int .u64 0)], [(0, 1), (1, 1)]) := by kernel_rfl
@[go_sem] theorem ty_77 : zI Tryd.prog 13 = some [.d (.str []), .d (.int .u64 0)] := by kernel_rfl
@[go_sem] theorem ty_78 : isIf Tryd.prog 13 = false := by kernel_rfl
@[go_sem] theorem ty_79 : (Tryd.prog.underlying 14).isSome = true := by kernel_rfl
@[go_sem] theorem ty_80 : tyI Tryd.prog 14 = some (true, 2) := by kernel_rfl
@[go_sem] theorem ty_81 : fdI Tryd.prog 14 0 = some (0, 1, false) := by kernel_rfl
@[go_sem] theorem ty_82 : fdI Tryd.prog 14 1 = some (1, 1, false) := by kernel_rfl
@[go_sem] theorem ty_83 : bdI Tryd.prog 14 = some ([.d (.str []), .d (.int .u64 0)], [(0, 1), (1, 1)]) := by kernel_rfl
@[go_sem] theorem ty_84 : zI Tryd.prog 14 = some [.d (.str []), .d (.int .u64 0)] := by kernel_rfl
@[go_sem] theorem ty_85 : isIf Tryd.prog 14 = false := by kernel_rfl
@[go_sem] theorem ty_86 : (Tryd.prog.underlying 15).isSome = true := by kernel_rfl
@[go_sem] theorem ty_87 : tyI Tryd.prog 15 = some (false, 1) := by kernel_rfl
@[go_sem] theorem ty_88 : zI Tryd.prog 15 = some [.nilp] := by kernel_rfl
@[go_sem] theorem ty_89 : isIf Tryd.prog 15 = false := by kernel_rfl
@[go_sem] theorem ty_90 : (Tryd.prog.underlying 16).isSome = true := by kernel_rfl
@[go_sem] theorem ty_91 : tyI Tryd.prog 16 = some (false, 1) := by kernel_rfl
@[go_sem] theorem ty_92 : zI Tryd.prog 16 = some [.nilp] := by kernel_rfl
@[go_sem] theorem ty_93 : isIf Tryd.prog 16 = false := by kernel_rfl
@[go_sem] theorem ty_94 : (Tryd.prog.underlying 17).isSome = true := by kernel_rfl
@[go_sem] theorem ty_95 : tyI Tryd.prog 17 = some (false, 1) := by kernel_rfl
@[go_sem] theorem ty_96 : zI Tryd.prog 17 = some [.nilp] := by kernel_rfl
@[go_sem] theorem ty_97 : isIf Tryd.prog 17 = false := by kernel_rfl
@[go_sem] theorem ty_98 : (Tryd.prog.underlying 18).isSome = true := by kernel_rfl
@[go_sem] theorem ty_99 : tyI Tryd.prog 18 = some (true, 1) := by kernel_rfl
@[go_sem] theorem ty_100 : fdI Tryd.prog 18 0 = some (0, 1, false) := by kernel_rfl
@[go_sem] theorem ty_101 : bdI Tryd.prog 18 = some ([.nilp], [(0, 1)]) := by kernel_rfl
@[go_sem] theorem ty_102 : zI Tryd.prog 18 = some [.nilp] := by kernel_rfl
@[go_sem] theorem ty_103 : isIf Tryd.prog 18 = false := by kernel_rfl
@[go_sem] theorem ty_104 : (Tryd.prog.underlying 19).isSome = true := by kernel_rfl
@[go_sem] theorem ty_105 : tyI Tryd.prog 19 = some (true, 1) := by kernel_rfl
@[go_sem] theorem ty_106 : fdI Tryd.prog 19 0 = some (0, 1, false) := by kernel_rfl
@[go_sem] theorem ty_107 : bdI Tryd.prog 19 = some ([.nilp], [(0, 1)]) := by kernel_rfl
@[go_sem] theorem ty_108 : zI Tryd.prog 19 = some [.nilp] := by kernel_rfl
@[go_sem] theorem ty_109 : isIf Tryd.prog 19 = false := by kernel_rfl
@[go_sem] theorem ty_110 : (Tryd.prog.underlying 20).isSome = true := by kernel_rfl
@[go_sem] theorem ty_111 : tyI Tryd.prog 20 = some (false, 1) := by kernel_rfl
@[go_sem] theorem ty_112 : zI Tryd.prog 20 = some [.nili] := by kernel_rfl
@[go_sem] theorem ty_113 : isIf Tryd.prog 20 = true := by kernel_rfl
@[go_sem] theorem ty_114 : (Tryd.prog.underlying 21).isSome = true := by kernel_rfl
@[go_sem] theorem ty_115 : tyI Tryd.prog 21 = some (false, 1) := by kernel_rfl
@[go_sem] theorem ty_116 : intI Tryd.prog 21 = some .i32 := by kernel_rfl
@[go_sem] theorem ty_117 : zI Tryd.prog 21 = some [.d (.int .i32 0)] := by kernel_rfl
@[go_sem] theorem ty_118 : isIf Tryd.prog 21 = false := by kernel_rfl
@[go_sem] theorem ty_119 : (Tryd.prog.underlying 22).isSome = true := by kernel_rfl
@[go_sem] theorem ty_120 : tyI Tryd.prog 22 = some (false, 1) := by kernel_rfl
@[go_sem] theorem ty_121 : slI Tryd.prog 22 = some (98, 12, 192) := by kernel_rfl
@[go_sem] theorem ty_122 : zI Tryd.prog 22 = some [.nils] := by kernel_rfl
@[go_sem] theorem ty_123 : isIf Tryd.prog 22 = false := by kernel_rfl
@[go_sem] theorem ty_124 : isBytes Tryd.prog 22 = false := by kernel_rfl
@[go_sem] theorem ty_125 : (Tryd.prog.underlying 23).isSome = true := by kernel_rfl
@[go_sem] theorem ty_126 : tyI Tryd.prog 23 = some (false, 1) := by kernel_rfl
@[go_sem] theorem ty_127 : zI Tryd.prog 23 = some [.nilf] := by kernel_rfl
@[go_sem] theorem ty_128 : isIf Tryd.prog 23 = false := by kernel_rfl
@[go_sem] theorem ty_129 : (Tryd.prog.underlying 24).isSome = true := by kernel_rfl
@[go_sem] theorem ty_130 : tyI Tryd.prog 24 = some (false, 1) := by kernel_rfl
@[go_sem] theorem ty_131 : intI Tryd.prog 24 = some .i64 := by kernel_rfl
@[go_sem] theorem ty_132 : zI Tryd.prog 24 = some [.d (.int .i64 0)] := by kernel_rfl
@[go_sem] theorem ty_133 : isIf Tryd.prog 24 = false := by kernel_rfl
@[go_sem] theorem ty_134 : (Tryd.prog.underlying 25).isSome = true := by kernel_rfl
@[go_sem] theorem ty_135 : tyI Tryd.prog 25 = some (false, 1) := by kernel_rfl
@[go_sem] theorem ty_136 : zI Tryd.prog 25 = some [.nilf] := by kernel_rfl
@[go_sem] theorem ty_137 : isIf Tryd.prog 25 = false := by kernel_rfl
@[go_sem] theorem ty_138 : (Tryd.prog.underlying 26).isSome = true := by kernel_rfl
@[go_sem] theorem ty_139 : tyI Tryd.prog 26 = some (false, 1) := by kernel_rfl
@[go_sem] theorem ty_140 : zI Tryd.prog 26 = some [.nilf] := by kernel_rfl
@[go_sem] theorem ty_141 : isIf Tryd.prog 26 = false := by kernel_rfl
@[go_sem] theorem ty_142 : (Tryd.prog.underlying 27).isSome = true := by kernel_rfl
@[go_sem] theorem ty_143 : tyI Tryd.prog 27 = some (false, 1) := by kernel_rfl
@[go_sem] theorem ty_144 : zI Tryd.prog 27 = some [.nilf] := by kernel_rfl
@[go_sem] theorem ty_145 : isIf Tryd.prog 27 = false := by kernel_rfl
@[go_sem] theorem ty_146 : (Tryd.prog.underlying 28).isSome = true := by kernel_rfl
@[go_sem] theorem ty_147 : tyI Tryd.prog 28 = some (false, 1) := by kernel_rfl
@[go_sem] theorem ty_148 : slI Tryd.prog 28 = some (108, 3, 32) := by kernel_rfl
@[go_sem] theorem ty_149 : zI Tryd.prog 28 = some [.nils] := by kernel_rfl
@[go_sem] theorem ty_150 : isIf Tryd.prog 28 = false := by kernel_rfl
@[go_sem] theorem ty_151 : isBytes Tryd.prog 28 = false := by kernel_rfl
@[go_sem] theorem ty_152 : (Tryd.prog.underlying 29).isSome = true := by kernel_rfl
@[go_sem] theorem ty_153 : tyI Tryd.prog 29 = some (false, 1) := by kernel_rfl
@[go_sem] theorem ty_154 : isIf Tryd.prog 29 = false := by kernel_rfl
@[go_sem] theorem ty_155 : (Tryd.prog.underlying 30).isSome = true := by kernel_rfl
@[go_sem] theorem ty_156 : tyI Tryd.prog 30 = some (false, 1) := by kernel_rfl
@[go_sem] theorem ty_157 : zI Tryd.prog 30 = some [.nilf] := by kernel_rfl
@[go_sem] theorem ty_158 : isIf Tryd.prog 30 = false := by kernel_rfl
@[go_sem] theorem ty_159 : (Tryd.prog.underlying 31).isSome = true := by kernel_rfl
@[go_sem] theorem ty_160 : tyI Tryd.prog 31 = some (false, 1) := by kernel_rfl
@[go_sem] theorem ty_161 : zI Tryd.prog 31 = some [.nilf] := by kernel_rfl
@[go_sem] theorem ty_162 : isIf Tryd.prog 31 = false := by kernel_rfl
@[go_sem] theorem ty_163 : (Tryd.prog.underlying 32).isSome = true := by kernel_rfl
@[go_sem] theorem ty_164 : tyI Tryd.prog 32 = some (false, 1) := by kernel_rfl
@[go_sem] theorem ty_165 : zI Tryd.prog 32 = some [.nilf] := by kernel_rfl
@[go_sem] theorem ty_166 : isIf Tryd.prog 32 = false := by kernel_rfl
@[go_sem] theorem ty_167 : (Tryd.prog.underlying 33).isSome = true := by kernel_rfl
@[go_sem] theorem ty_168 : tyI Tryd.prog 33 = some (false, 1) := by kernel_rfl
@[go_sem] theorem ty_169 : isIf Tryd.prog 33 = false := by kernel_rfl
@[go_sem] theorem ty_170 : (Tryd.prog.underlying 34).isSome = true := by kernel_rfl
@[go_sem] theorem ty_171 : tyI Tryd.prog 34 = some (false, 1) := by kernel_rfl
@[go_sem] theorem ty_172 : zI Tryd.prog 34 = some [.nilf] := by kernel_rfl
@[go_sem] theorem ty_173 : isIf Tryd.prog 34 = false := by kernel_rfl
@[go_sem] theorem ty_174 : (Tryd.prog.underlying 35).isSome = true := by kernel_rfl
@[go_sem] theorem ty_175 : tyI Tryd.prog 35 = some (false, 1) := by kernel_rfl
@[go_sem] theorem ty_176 : zI Tryd.prog 35 = some [.nilf] := by kernel_rfl
@[go_sem] theorem ty_177 : isIf Tryd.prog 35 = false := by kernel_rfl
@[go_sem] theorem ty_178 : (Tryd.prog.underlying 36).isSome = true := by kernel_rfl
@[go_sem] theorem ty_179 : tyI Tryd.prog 36 = some (false, 1) := by kernel_rfl
@[go_sem] theorem ty_180 : slI Tryd.prog 36 = some (123, 3, 48) := by kernel_rfl
@[go_sem] theorem ty_181 : zI Tryd.prog 36 = some [.nils] := by kernel_rfl
@[go_sem] theorem ty_182 : isIf Tryd.prog 36 = false := by kernel_rfl
@[go_sem] theorem ty_183 : isBytes Tryd.prog 36 = false := by kernel_rfl
@[go_sem] theorem ty_184 : (Tryd.prog.underlying 37).isSome = true := by kernel_rfl
@[go_sem] theorem ty_185 : tyI Tryd.prog 37 = some (false, 1) := by kernel_rfl
@[go_sem] theorem ty_186 : slI Tryd.prog 37 = some (88, 6, 72) := by kernel_rfl
@[go_sem] theorem ty_187 : zI Tryd.prog 37 = some [.nils] := by kernel_rfl
@[go_sem] theorem ty_188 : isIf Tryd.prog 37 = false := by kernel_rfl
@[go_sem] theorem ty_189 : isBytes Tryd.prog 37 = false := by kernel_rfl
@[go_sem] theorem ty_190 : (Tryd.prog.underlying 38).isSome = true := by kernel_rfl
@[go_sem] theorem ty_191 : tyI Tryd.prog 38 = some (true, 2) := by kernel_rfl
@[go_sem] theorem ty_192 : fdI Tryd.prog 38 0 = some (0, 1, false) := by kernel_rfl
@[go_sem] theorem ty_193 : fdI Tryd.prog 38 1 = some (1, 1, false) := by kernel_rfl
@[go_sem] theorem ty_194 : bdI Tryd.prog 38 = some ([.nils, .nils], [(0, 1), (1, 1)]) := by kernel_rfl
@[go_sem] theorem ty_195 : zI Tryd.prog 38 = some [.nils, .nils] := by kernel_rfl
@[go_sem] theorem ty_196 : isIf Tryd.prog 38 = false := by kernel_rfl
@[go_sem] theorem ty_197 : (Tryd.prog.underlying 39).isSome = true := by kernel_rfl
@[go_sem] theorem ty_198 : tyI Tryd.prog 39 = some (true, 2) := by kernel_rfl
@[go_sem] theorem ty_199 : fdI Tryd.prog 39 0 = some (0, 1, false) := by kernel_rfl
@[go_sem] theorem ty_200 : fdI Tryd.prog 39 1 = some (1, 1, false) := by kernel_rfl
@[go_sem] theorem ty_201 : bdI Tryd.prog 39 = some ([.nils, .nils], [(0, 1), (1, 1)]) := by kernel_rfl
@[go_sem] theorem ty_202 : zI Tryd.prog 39 = some [.nils, .nils] := by kernel_rfl
@[go_sem] theorem ty_203 : isIf Tryd.prog 39 = false := by kernel_rfl
@[go_sem] theorem ty_204 : (Tryd.prog.underlying 40).isSome = true := by kernel_rfl
@[go_sem] theorem ty_205 : tyI Tryd.prog 40 = some (false, 1) := by kernel_rfl
@[go_sem] theorem ty_206 : isIf Tryd.prog 40 = false := by kernel_rfl
@[go_sem] theorem ty_207 : (Tryd.prog.underlying 41).isSome = true := by kernel_rfl
@[go_sem] theorem ty_208 : tyI Tryd.prog 41 = some (false, 1) := by kernel_rfl
@[go_sem] theorem ty_209 : zI Tryd.prog 41 = some [.nilf] := by kernel_rfl
@[go_sem] theorem ty_210 : isIf Tryd.prog 41 = false := by kernel_rfl
@[go_sem] theorem ty_211 : (Tryd.prog.underlying 42).isSome = true := by kernel_rfl
@[go_sem] theorem ty_212 : tyI Tryd.prog 42 = some (false, 1) := by kernel_rfl
@[go_sem] theorem ty_213 : zI Tryd.prog 42 = some [.nilf] := by kernel_rfl
@[go_sem] theorem ty_214 : isIf Tryd.prog 42 = false := by kernel_rfl
@[go_sem] theorem ty_215 : (Tryd.prog.underlying 43).isSome = true := by kernel_rfl
@[go_sem] theorem ty_216 : tyI Tryd.prog 43 = some (false, 1) := by kernel_rfl
@[go_sem] theorem ty_217 : zI Tryd.prog 43 = some [.nilf] := by kernel_rfl
@[go_sem] theorem ty_218 : isIf Tryd.prog 43 = false := by kernel_rfl
@[go_sem] theorem ty_219 : (Tryd.prog.underlying 44).isSome = true := by kernel_rfl
@[go_sem] theorem ty_220 : tyI Tryd.prog 44 = some (false, 1) := by kernel_rfl
@[go_sem] theorem ty_221 : zI Tryd.prog 44 = some [.nilf] := by kernel_rfl
@[go_sem] theorem ty_222 : isIf Tryd.prog 44 = false := by kernel_rfl
@[go_sem] theorem ty_223 : (Tryd.prog.underlying 45).isSome = true := by kernel_rfl
@[go_sem] theorem ty_224 : tyI Tryd.prog 45 = some (false, 1) := by kernel_rfl
@[go_sem] theorem ty_225 : zI Tryd.prog 45 = some [.nilf] := by kernel_rfl
@[go_sem] theorem ty_226 : isIf Tryd.prog 45 = false := by kernel_rfl
@[go_sem] theorem ty_227 : (Tryd.prog.underlying 46).isSome = true := by kernel_rfl
@[go_sem] theorem ty_228 : tyI Tryd.prog 46 = some (false, 1) := by kernel_rfl
@[go_sem] theorem ty_229 : slI Tryd.prog 46 = some (5, 1, 1) := by kernel_rfl
@[go_sem] theorem ty_230 : zI Tryd.prog 46 = some [.nils] := by kernel_rfl
@[go_sem] theorem ty_231 : isIf Tryd.prog 46 = false := by kernel_rfl
@[go_sem] theorem ty_232 : isBytes Tryd.prog 46 = true := by kernel_rfl
@[go_sem] theorem ty_233 : (Tryd.prog.underlying 47).isSome = true := by kernel_rfl
@[go_sem] theorem ty_234 : tyI Tryd.prog 47 = some (true, 2) := by kernel_rfl
@[go_sem] theorem ty_235 : fdI Tryd.prog 47 0 = some (0, 1, false) := by kernel_rfl
@[go_sem] theorem ty_236 : fdI Tryd.prog 47 1 = some (1, 1, false) := by kernel_rfl
@[go_sem] theorem ty_237 : bdI Tryd.prog 47 = some ([.nils, .d (.int .i64 0)], [(0, 1), (1, 1)]) := by kernel_rfl
@[go_sem] theorem ty_238 : zI Tryd.prog 47 = some [.nils, .d (.int .i64 0)] := by kernel_rfl
@[go_sem] theorem ty_239 : isIf Tryd.prog 47 = false := by kernel_rfl
@[go_sem] theorem ty_240 : (Tryd.prog.underlying 48).isSome = true := by kernel_rfl
@[go_sem] theorem ty_241 : tyI Tryd.prog 48 = some (true, 2) := by kernel_rfl
@[go_sem] theorem ty_242 : fdI Tryd.prog 48 0 = some (0, 1, false) := by kernel_rfl
@[go_sem] theorem ty_243 : fdI Tryd.prog 48 1 = some (1, 1, false) := by kernel_rfl
@[go_sem] theorem ty_244 : bdI Tryd.prog 48 = some ([.nils, .d (.int .i64 0)], [(0, 1), (1, 1)]) := by kernel_rfl
@[go_sem] theorem ty_245 : zI Tryd.prog 48 = some [.nils, .d (.int .i64 0)] := by kernel_rfl
@[go_sem] theorem ty_246 : isIf Tryd.prog 48 = false := by kernel_rfl
@[go_sem] theorem ty_247 : (Tryd.prog.underlying 49).isSome = true := by kernel_rfl
@[go_sem] theorem ty_248 : tyI Tryd.prog 49 = some (true, 2) := by kernel_rfl
@[go_sem] theorem ty_249 : fdI Tryd.prog 49 0 = some (0, 1, false) := by kernel_rfl
@[go_sem] theorem ty_250 : fdI Tryd.prog 49 1 = some (1, 1, false) := by kernel_rfl
@[go_sem] theorem ty_251 : bdI Tryd.prog 49 = some ([.d (.int .i64 0), .nils], [(0, 1), (1, 1)]) := by kernel_rfl
@[go_sem] theorem ty_252 : zI Tryd.prog 49 = some [.d (.int .i64 0), .nils] := by kernel_rfl
@[go_sem] theorem ty_253 : isIf Tryd.prog 49 = false := by kernel_rfl
@[go_sem] theorem ty_254 : (Tryd.prog.underlying 50).isSome = true := by kernel_rfl
@[go_sem] theorem ty_255 : tyI Tryd.prog 50 = some (true, 2) := by kernel_rfl
@[go_sem] theorem ty_256 : fdI Tryd.prog 50 0 = some (0, 1, false) := by kernel_rfl
@[go_sem] theorem ty_257 : fdI Tryd.prog 50 1 = some (1, 1, false) := by kernel_rfl
@[go_sem] theorem ty_258 : bdI Tryd.prog 50 = some ([.d (.int .i64 0), .nils], [(0, 1), (1, 1)]) := by kernel_rfl
@[go_sem] theorem ty_259 : zI Tryd.prog 50 = some [.d (.int .i64 0), .nils] := by kernel_rfl
@[go_sem] theorem ty_260 : isIf Tryd.prog 50 = false := by kernel_rfl
@[go_sem] theorem ty_261 : (Tryd.prog.underlying 51).isSome = true := by kernel_rfl
@[go_sem] theorem ty_262 : tyI Tryd.prog 51 = some (false, 1) := by kernel_rfl
@[go_sem] theorem ty_263 : zI Tryd.prog 51 = some [.nilf] := by kernel_rfl
@[go_sem] theorem ty_264 : isIf Tryd.prog 51 = false := by kernel_rfl
@[go_sem] theorem ty_265 : (Tryd.prog.underlying 52).isSome = true := by kernel_rfl
@[go_sem] theorem ty_266 : tyI Tryd.prog 52 = some (false, 1) := by kernel_rfl
@[go_sem] theorem ty_267 : isIf Tryd.prog 52 = false := by kernel_rfl
@[go_sem] theorem ty_268 : (Tryd.prog.underlying 53).isSome = true := by kernel_rfl
@[go_sem] theorem ty_269 : tyI Tryd.prog 53 = some (false, 1) := by kernel_rfl
@[go_sem] theorem ty_270 : zI Tryd.prog 53 = some [.nilf] := by kernel_rfl
@[go_sem] theorem ty_271 : isIf Tryd.prog 53 = false := by kernel_rfl
@[go_sem] theorem ty_272 : (Tryd.prog.underlying 54).isSome = true := by kernel_rfl
@[go_sem] theorem ty_273 : tyI Tryd.prog 54 = some (false, 1) := by kernel_rfl
@[go_sem] theorem ty_274 : zI Tryd.prog 54 = some [.nilf] := by kernel_rfl
@[go_sem] theorem ty_275 : isIf Tryd.prog 54 = false := by kernel_rfl
@[go_sem] theorem ty_276 : (Tryd.prog.underlying 55).isSome = true := by kernel_rfl
@[go_sem] theorem ty_277 : tyI Tryd.prog 55 = some (false, 1) := by kernel_rfl
@[go_sem] theorem ty_278 : zI Tryd.prog 55 = some [.nilf] := by kernel_rfl
@[go_sem] theorem ty_279 : isIf Tryd.prog 55 = false := by kernel_rfl
@[go_sem] theorem ty_280 : (Tryd.prog.underlying 56).isSome = true := by kernel_rfl
@[go_sem] theorem ty_281 : tyI Tryd.prog 56 = some (false, 1) := by kernel_rfl
@[go_sem] theorem ty_282 : zI Tryd.prog 56 = some [.nilf] := by kernel_rfl
@[go_sem] theorem ty_283 : isIf Tryd.prog 56 = false := by kernel_rfl
@[go_sem] theorem ty_284 : (Tryd.prog.underlying 57).isSome = true := by kernel_rfl
@[go_sem] theorem ty_285 : tyI Tryd.prog 57 = some (false, 1) := by kernel_rfl
@[go_sem] theorem ty_286 : slI Tryd.prog 57 = some (50, 2, 32) := by kernel_rfl
@[go_sem] theorem ty_287 : zI Tryd.prog 57 = some [.nils] := by kernel_rfl
@[go_sem] theorem ty_288 : isIf Tryd.prog 57 = false := by kernel_rfl
@[go_sem] theorem ty_289 : isBytes Tryd.prog 57 = false := by kernel_rfl
@[go_sem] theorem ty_290 : (Tryd.prog.underlying 58).isSome = true := by kernel_rfl
@[go_sem] theorem ty_291 : tyI Tryd.prog 58 = some (false, 1) := by kernel_rfl
@[go_sem] theorem ty_292 : isIf Tryd.prog 58 = false := by kernel_rfl
@[go_sem] theorem ty_293 : (Tryd.prog.underlying 59).isSome = true := by kernel_rfl
@[go_sem] theorem ty_294 : tyI Tryd.prog 59 = some (false, 1) := by kernel_rfl
@[go_sem] theorem ty_295 : zI Tryd.prog 59 = some [.nilf] := by kernel_rfl
@[go_sem] theorem ty_296 : isIf Tryd.prog 59 = false := by kernel_rfl
@[go_sem] theorem ty_297 : (Tryd.prog.underlying 60).isSome = true := by kernel_rfl
@[go_sem] theorem ty_298 : tyI Tryd.prog 60 = some (false, 1) := by kernel_rfl
@[go_sem] theorem ty_299 : zI Tryd.prog 60 = some [.nilf] := by kernel_rfl
@[go_sem] theorem ty_300 : isIf Tryd.prog 60 = false := by kernel_rfl
@[go_sem] theorem ty_301 : (Tryd.prog.underlying 61).isSome = true := by kernel_rfl
@[go_sem] theorem ty_302 : tyI Tryd.prog 61 = some (false, 1) := by kernel_rfl
@[go_sem] theorem ty_303 : zI Tryd.prog 61 = some [.nilf] := by kernel_rfl
@[go_sem] theorem ty_304 : isIf Tryd.prog 61 = false := by kernel_rfl
@[go_sem] theorem ty_305 : (Tryd.prog.underlying 62).isSome = true := by kernel_rfl
@[go_sem] theorem ty_306 : tyI Tryd.prog 62 = some (false, 1) := by kernel_rfl
@[go_sem] theorem ty_307 : slI Tryd.prog 62 = some (146, 2, 32) := by kernel_rfl
@[go_sem] theorem ty_308 : zI Tryd.prog 62 = some [.nils] := by kernel_rfl
@[go_sem] theorem ty_309 : isIf Tryd.prog 62 = false := by kernel_rfl
@[go_sem] theorem ty_310 : isBytes Tryd.prog 62 = false := by kernel_rfl
@[go_sem] theorem ty_311 : (Tryd.prog.underlying 63).isSome = true := by kernel_rfl
@[go_sem] theorem ty_312 : tyI Tryd.prog 63 = some (true, 2) := by kernel_rfl
@[go_sem] theorem ty_313 : fdI Tryd.prog 63 0 = some (0, 1, false) := by kernel_rfl
@[go_sem] theorem ty_314 : fdI Tryd.prog 63 1 = some (1, 1, false) := by kernel_rfl
@[go_sem] theorem ty_315 : bdI Tryd.prog 63 = some ([.nils, .d (.str [])], [(0, 1), (1, 1)]) := by kernel_rfl
@[go_sem] theorem ty_316 : zI Tryd.prog 63 = some [.nils, .d (.str [])] := by kernel_rfl
@[go_sem] theorem ty_317 : isIf Tryd.prog 63 = false := by kernel_rfl
@[go_sem] theorem ty_318 : (Tryd.prog.underlying 64).isSome = true := by kernel_rfl
@[go_sem] theorem ty_319 : tyI Tryd.prog 64 = some (true, 2) := by kernel_rfl
@[go_sem] theorem ty_320 : fdI Tryd.prog 64 0 = some (0, 1, false) := by kernel_rfl
@[go_sem] theorem ty_321 : fdI Tryd.prog 64 1 = some (1, 1, false) := by kernel_rfl
@[go_sem] theorem ty_322 : bdI Tryd.prog 64 = some ([.nils, .d (.str [])], [(0, 1), (1, 1)]) := by kernel_rfl
@[go_sem] theorem ty_323 : zI Tryd.prog 64 = some [.nils, .d (.str [])] := by kernel_rfl
@[go_sem] theorem ty_324 : isIf Tryd.prog 64 = false := by kernel_rfl
@[go_sem] theorem ty_325 : (Tryd.prog.underlying 65).isSome = true := by kernel_rfl
@[go_sem] theorem ty_326 : tyI Tryd.prog 65 = some (false, 1) := by kernel_rfl
@[go_sem] theorem ty_327 : slI Tryd.prog 65 = some (9, 1, 16) := by kernel_rfl
@[go_sem] theorem ty_328 : zI Tryd.prog 65 = some [.nils] := by kernel_rfl
@[go_sem] theorem ty_329 : isIf Tryd.prog 65 = false := by kernel_rfl
@[go_sem] theorem ty_330 : isBytes Tryd.prog 65 = false := by kernel_rfl
@[go_sem] theorem ty_331 : (Tryd.prog.underlying 66).isSome = true := by kernel_rfl
@[go_sem] theorem ty_332 : tyI Tryd.prog 66 = some (false, 1) := by kernel_rfl
@[go_sem] theorem ty_333 : isIf Tryd.prog 66 = false := by kernel_rfl
@[go_sem] theorem ty_334 : (Tryd.prog.underlying 67).isSome = true := by kernel_rfl
@[go_sem] theorem ty_335 : tyI Tryd.prog 67 = some (false, 1) := by kernel_rfl
@[go_sem] theorem ty_336 : zI Tryd.prog 67 = some [.nilf] := by kernel_rfl
@[go_sem] theorem ty_337 : isIf Tryd.prog 67 = false := by kernel_rfl
@[go_sem] theorem ty_338 : (Tryd.prog.underlying 68).isSome = true := by kernel_rfl
@[go_sem] theorem ty_339 : tyI Tryd.prog 68 = some (false, 1) := by kernel_rfl
@[go_sem] theorem ty_340 : zI Tryd.prog 68 = some [.nilf] := by kernel_rfl
@[go_sem] theorem ty_341 : isIf Tryd.prog 68 = false := by kernel_rfl
@[go_sem] theorem ty_342 : (Tryd.prog.underlying 69).isSome = true := by kernel_rfl
@[go_sem] theorem ty_343 : tyI Tryd.prog 69 = some (false, 1) := by kernel_rfl
@[go_sem] theorem ty_344 : zI Tryd.prog 69 = some [.nilf] := by kernel_rfl
@[go_sem] theorem ty_345 : isIf Tryd.prog 69 = false := by kernel_rfl
@[go_sem] theorem ty_346 : (Tryd.prog.underlying 70).isSome = true := by kernel_rfl
@[go_sem] theorem ty_347 : tyI Tryd.prog 70 = some (false, 1) := by kernel_rfl
@[go_sem] theorem ty_348 : zI Tryd.prog 70 = some [.nilf] := by kernel_rfl
@[go_sem] theorem ty_349 : isIf Tryd.prog 70 = false := by kernel_rfl
@[go_sem] theorem ty_350 : (Tryd.prog.underlying 71).isSome = true := by kernel_rfl
@[go_sem] theorem ty_351 : tyI Tryd.prog 71 = some (true, 2) := by kernel_rfl
@[go_sem] theorem ty_352 : fdI Tryd.prog 71 0 = some (0, 1, false) := by kernel_rfl
@[go_sem] theorem ty_353 : fdI Tryd.prog 71 1 = some (1, 1, false) := by kernel_rfl
@[go_sem] theorem ty_354 : bdI Tryd.prog 71 = some ([.d (.str []), .d (.str [])], [(0, 1), (1, 1)]) := by kernel_rfl
@[go_sem] theorem ty_355 : zI Tryd.prog 71 = some [.d (.str []), .d (.str [])] := by kernel_rfl
@[go_sem] theorem ty_356 : eqI Tryd.prog 71 = some [3, 3] := by kernel_rfl
@[go_sem] theorem ty_357 : isIf Tryd.prog 71 = false := by kernel_rfl
@[go_sem] theorem ty_358 : (Tryd.prog.underlying 72).isSome = true := by kernel_rfl
@[go_sem] theorem ty_359 : tyI Tryd.prog 72 = some (true, 2) := by kernel_rfl
@[go_sem] theorem ty_360 : fdI Tryd.prog 72 0 = some (0, 1, false) := by kernel_rfl
@[go_sem] theorem ty_361 : fdI Tryd.prog 72 1 = some (1, 1, false) := by kernel_rfl
@[go_sem] theorem ty_362 : bdI Tryd.prog 72 = some ([.d (.str []), .d (.str [])], [(0, 1), (1, 1)]) := by kernel_rfl
@[go_sem] theorem ty_363 : zI Tryd.prog 72 = some [.d (.str []), .d (.str [])] := by kernel_rfl
@[go_sem] theorem ty_364 : eqI Tryd.prog 72 = some [3, 3] := by kernel_rfl
@[go_sem] theorem ty_365 : isIf Tryd.prog 72 = false := by kernel_rfl
@[go_sem] theorem ty_366 : (Tryd.prog.underlying 73).isSome = true := by kernel_rfl
@[go_sem] theorem ty_367 : tyI Tryd.prog 73 = some (true, 5) := by kernel_rfl
@[go_sem] theorem ty_368 : fdI Tryd.prog 73 0 = some (0, 2, true) := by kernel_rfl
@[go_sem] theorem ty_369 : fdI Tryd.prog 73 1 = some (2, 2, true) := by kernel_rfl
@[go_sem] theorem ty_370 : fdI Tryd.prog 73 2 = some (4, 1, false) := by kernel_rfl
@[go_sem] theorem ty_371 : bdI Tryd.prog 73 = some ([.d (.str []), .d (.str []), .d (.str []), .d (.str []), .d (.str [])], [(0, 2), (2, 2), (4, 1)]) := by kernel_rfl
@[go_sem] theorem ty_372 : zI Tryd.prog 73 = some [.d (.str []), .d (.str []), .d (.str []), .d (.str []), .d (.str [])] := by kernel_rfl
@[go_sem] theorem ty_373 : eqI Tryd.prog 73 = some [3, 3, 3, 3, 3] := by kernel_rfl
@[go_sem] theorem ty_374 : isIf Tryd.prog 73 = false := by kernel_rfl
@[go_sem] theorem ty_375 : (Tryd.prog.underlying 74).isSome = true := by kernel_rfl
@[go_sem] theorem ty_376 : tyI Tryd.prog 74 = some (true, 5) := by kernel_rfl
@[go_sem] theorem ty_377 : fdI Tryd.prog 74 0 = some (0, 2, true) := by kernel_rfl
@[go_sem] theorem ty_378 : fdI Tryd.prog 74 1 = some (2, 2, true) := by kernel_rfl
@[go_sem] theorem ty_379 : fdI Tryd.prog 74 2 = some (4, 1, false) := by kernel_rfl
@[go_sem] theorem ty_380 : bdI Tryd.prog 74 = some ([.d (.str []), .d (.str []), .d (.str []), .d (.str []), .d (.str [])], [(0, 2), (2, 2), (4, 1)]) := by kernel_rfl
@[go_sem] theorem ty_381 : zI Tryd.prog 74 = some [.d (.str []), .d (.str []), .d (.str []), .d (.str []), .d (.str [])] := by kernel_rfl
@[go_sem] theorem ty_382 : eqI Tryd.prog 74 = some [3, 3, 3, 3, 3] := by kernel_rfl
@[go_sem] theorem ty_383 : isIf Tryd.prog 74 = false := by kernel_rfl
@[go_sem] theorem ty_384 : (Tryd.prog.underlying 75).isSome = true := by kernel_rfl
@[go_sem] theorem ty_385 : tyI Tryd.prog 75 = some (false, 1) := by kernel_rfl
@[go_sem] theorem ty_386 : isIf Tryd.prog 75 = false := by kernel_rfl
@[go_sem] theorem ty_387 : (Tryd.prog.underlying 76).isSome = true := by kernel_rfl
@[go_sem] theorem ty_388 : tyI Tryd.prog 76 = some (false, 1) := by kernel_rfl
@[go_sem] theorem ty_389 : zI Tryd.prog 76 = some [.nilf] := by kernel_rfl
@[go_sem] theorem ty_390 : isIf Tryd.prog 76 = false := by kernel_rfl
@[go_sem] theorem ty_391 : (Tryd.prog.underlying 77).isSome = true := by kernel_rfl
@[go_sem] theorem ty_392 : tyI Tryd.prog 77 = some (false, 1) := by kernel_rfl
@[go_sem] theorem ty_393 : zI Tryd.prog 77 = some [.nilf] := by kernel_rfl
@[go_sem] theorem ty_394 : isIf Tryd.prog 77 = false := by kernel_rfl
@[go_sem] theorem ty_395 : (Tryd.prog.underlying 78).isSome = true := by kernel_rfl
@[go_sem] theorem ty_396 : tyI Tryd.prog 78 = some (false, 1) := by kernel_rfl
@[go_sem] theorem ty_397 : zI Tryd.prog 78 = some [.nilf] := by kernel_rfl
@[go_sem] theorem ty_398 : isIf Tryd.prog 78 = false := by kernel_rfl
@[go_sem] theorem ty_399 : (Tryd.prog.underlying 79).isSome = true := by kernel_rfl
@[go_sem] theorem ty_400 : tyI Tryd.prog 79 = some (false, 1) := by kernel_rfl
@[go_sem] theorem ty_401 : isIf Tryd.prog 79 = false := by kernel_rfl
@[go_sem] theorem ty_402 : (Tryd.prog.underlying 80).isSome = true := by kernel_rfl
@[go_sem] theorem ty_403 : tyI Tryd.prog 80 = some (false, 1) := by kernel_rfl
@[go_sem] theorem ty_404 : zI Tryd.prog 80 = some [.nilf] := by kernel_rfl
@[go_sem] theorem ty_405 : isIf Tryd.prog 80 = false := by kernel_rfl
@[go_sem] theorem ty_406 : (Tryd.prog.underlying 81).isSome = true := by kernel_rfl
@[go_sem] theorem ty_407 : tyI Tryd.prog 81 = some (false, 1) := by kernel_rfl
@[go_sem] theorem ty_408 : zI Tryd.prog 81 = some [.nilf] := by kernel_rfl
@[go_sem] theorem ty_409 : isIf Tryd.prog 81 = false := by kernel_rfl
@[go_sem] theorem ty_410 : (Tryd.prog.underlying 82).isSome = true := by kernel_rfl
@[go_sem] theorem ty_411 : tyI Tryd.prog 82 = some (false, 1) := by kernel_rfl
@[go_sem] theorem ty_412 : isIf Tryd.prog 82 = false := by kernel_rfl
@[go_sem] theorem ty_413 : (Tryd.prog.underlying 83).isSome = true := by kernel_rfl
@[go_sem] theorem ty_414 : tyI Tryd.prog 83 = some (false, 1) := by kernel_rfl
@[go_sem] theorem ty_415 : zI Tryd.prog 83 = some [.nilf] := by kernel_rfl
@[go_sem] theorem ty_416 : isIf Tryd.prog 83 = false := by kernel_rfl
@[go_sem] theorem ty_417 : (Tryd.prog.underlying 84).isSome = true := by kernel_rfl
@[go_sem] theorem ty_418 : tyI Tryd.prog 84 = some (false, 1) := by kernel_rfl
@[go_sem] theorem ty_419 : zI Tryd.prog 84 = some [.nilf] := by kernel_rfl
@[go_sem] theorem ty_420 : isIf Tryd.prog 84 = false := by kernel_rfl
@[go_sem] theorem ty_421 : (Tryd.prog.underlying 85).isSome = true := by kernel_rfl
@[go_sem] theorem ty_422 : tyI Tryd.prog 85 = some (false, 1) := by kernel_rfl
@[go_sem] theorem ty_423 : zI Tryd.prog 85 = some [.nilf] := by kernel_rfl
@[go_sem] theorem ty_424 : isIf Tryd.prog 85 = false := by kernel_rfl
@[go_sem] theorem ty_425 : (Tryd.prog.underlying 86).isSome = true := by kernel_rfl
@[go_sem] theorem ty_426 : tyI Tryd.prog 86 = some (false, 1) := by kernel_rfl
@[go_sem] theorem ty_427 : zI Tryd.prog 86 = some [.nilf] := by kernel_rfl
@[go_sem] theorem ty_428 : isIf Tryd.prog 86 = false := by kernel_rfl
@[go_sem] theorem ty_429 : (Tryd.prog.underlying 87).isSome = true := by kernel_rfl
@[go_sem] theorem ty_430 : tyI Tryd.prog 87 = some (true, 6) := by kernel_rfl
@[go_sem] theorem ty_431 : fdI Tryd.prog 87 0 = some (0, 1, false) := by kernel_rfl
@[go_sem] theorem ty_432 : fdI Tryd.prog 87 1 = some (1, 1, false) := by kernel_rfl
@[go_sem] theorem ty_433 : fdI Tryd.prog 87 2 = some (2, 1, false) := by kernel_rfl
@[go_sem] theorem ty_434 : fdI Tryd.prog 87 3 = some (3, 1, false) := by kernel_rfl
@[go_sem] theorem ty_435 : fdI Tryd.prog 87 4 = some (4, 1, false) := by kernel_rfl
@[go_sem] theorem ty_436 : fdI Tryd.prog 87 5 = some (5, 1, false) := by kernel_rfl
@[go_sem] theorem ty_437 : bdI Tryd.prog 87 = some ([.d (.int .i64 0), .d (.str []), .d (.int .i64 0), .d (.int .i64 0), .d (.str []), .d (.str [])], [(0, 1), (1, 1), (2, 1), (3, 1), (4, 1), (5, 1)]) := by kernel_rfl
@[go_sem] theorem ty_438 : zI Tryd.prog 87 = some [.d (.int .i64 0), .d (.str []), .d (.int .i64 0), .d (.int .i64 0), .d (.str []), .d (.str [])] := by kernel_rfl
@[go_sem] theorem ty_439 : eqI Tryd.prog 87 = some [1, 3, 1, 1, 3, 3] := by kernel_rfl
@[go_sem] theorem ty_440 : isIf Tryd.prog 87 = false := by kernel_rfl
@[go_sem] theorem ty_441 : (Tryd.prog.underlying 88).isSome = true := by kernel_rfl
@[go_sem] theorem ty_442 : tyI Tryd.prog 88 = some (true, 6) := by kernel_rfl
@[go_sem] theorem ty_443 : fdI Tryd.prog 88 0 = some (0, 1, false) := by kernel_rfl
@[go_sem] theorem ty_444 : fdI Tryd.prog 88 1 = some (1, 1, false) := by kernel_rfl
@[go_sem] theorem ty_445 : fdI Tryd.prog 88 2 = some (2, 1, false) := by kernel_rfl
@[go_sem] theorem ty_446 : fdI Tryd.prog 88 3 = some (3, 1, false) := by kernel_rfl
@[go_sem] theorem ty_447 : fdI Tryd.prog 88 4 = some (4, 1, false) := by kernel_rfl
@[go_sem] theorem ty_448 : fdI Tryd.prog 88 5 = some (5, 1, false) := by kernel_rfl
@[go_sem] theorem ty_449 : bdI Tryd.prog 88 = some ([.d (.int .i64 0), .d (.str []), .d (.int .i64 0), .d (.int .i64 0), .d (.str []), .d (.str [])], [(0, 1), (1, 1), (2, 1), (3, 1), (4, 1), (5, 1)]) := by kernel_rfl
@[go_sem] theorem ty_450 : zI Tryd.prog 88 = some [.d (.int .i64 0), .d (.str []), .d (.int .i64 0), .d (.int .i64 0), .d (.str []), .d (.str [])] := by kernel_rfl
@[go_sem] theorem ty_451 : eqI Tryd.prog 88 = some [1, 3, 1, 1, 3, 3] := by kernel_rfl
@[go_sem] theorem ty_452 : isIf Tryd.prog 88 = false := by kernel_rfl
@[go_sem] theorem ty_453 : (Tryd.prog.underlying 89).isSome = true := by kernel_rfl
@[go_sem] theorem ty_454 : tyI Tryd.prog 89 = some (false, 1) := by kernel_rfl
@[go_sem] theorem ty_455 : zI Tryd.prog 89 = some [.nilf] := by kernel_rfl
@[go_sem] theorem ty_456 : isIf Tryd.prog 89 = false := by kernel_rfl
@[go_sem] theorem ty_457 : (Tryd.prog.underlying 90).isSome = true := by kernel_rfl
@[go_sem] theorem ty_458 : tyI Tryd.prog 90 = some (false, 1) := by kernel_rfl
@[go_sem] theorem ty_459 : zI Tryd.prog 90 = some [.nilf] := by kernel_rfl
@[go_sem] theorem ty_460 : isIf Tryd.prog 90 = false := by kernel_rfl
@[go_sem] theorem ty_461 : (Tryd.prog.underlying 91).isSome = true := by kernel_rfl
@[go_sem] theorem ty_462 : tyI Tryd.prog 91 = some (false, 1) := by kernel_rfl
@[go_sem] theorem ty_463 : zI Tryd.prog 91 = some [.nilf] := by kernel_rfl
@[go_sem] theorem ty_464 : isIf Tryd.prog 91 = false := by kernel_rfl
@[go_sem] theorem ty_465 : (Tryd.prog.underlying 92).isSome = true := by kernel_rfl
@[go_sem] theorem ty_466 : tyI Tryd.prog 92 = some (false, 1) := by kernel_rfl
@[go_sem] theorem ty_467 : zI Tryd.prog 92 = some [.nilf] := by kernel_rfl
@[go_sem] theorem ty_468 : isIf Tryd.prog 92 = false := by kernel_rfl
@[go_sem] theorem ty_469 : (Tryd.prog.underlying 93).isSome = true := by kernel_rfl
@[go_sem] theorem ty_470 : tyI Tryd.prog 93 = some (false, 1) := by kernel_rfl
@[go_sem] theorem ty_471 : zI Tryd.prog 93 = some [.nilf] := by kernel_rfl
@[go_sem] theorem ty_472 : isIf Tryd.prog 93 = false := by kernel_rfl
@[go_sem] theorem ty_473 : (Tryd.prog.underlying 94).isSome = true := by kernel_rfl
@[go_sem] theorem ty_474 : tyI Tryd.prog 94 = some (false, 1) := by kernel_rfl
@[go_sem] theorem ty_475 : slI Tryd.prog 94 = some (96, 8, 112) := by kernel_rfl
@[go_sem] theorem ty_476 : zI Tryd.prog 94 = some [.nils] := by kernel_rfl
@[go_sem] theorem ty_477 : isIf Tryd.prog 94 = false := by kernel_rfl
@[go_sem] theorem ty_478 : isBytes Tryd.prog 94 = false := by kernel_rfl
@[go_sem] theorem ty_479 : (Tryd.prog.underlying 95).isSome = true := by kernel_rfl
@[go_sem] theorem ty_480 : tyI Tryd.prog 95 = some (true, 8) := by kernel_rfl
@[go_sem] theorem ty_481 : fdI Tryd.prog 95 0 = some (0, 1, false) := by kernel_rfl
@[go_sem] theorem ty_482 : fdI Tryd.prog 95 1 = some (1, 1, false) := by kernel_rfl
@[go_sem] theorem ty_483 : fdI Tryd.prog 95 2 = some (2, 1, false) := by kernel_rfl
@[go_sem] theorem ty_484 : fdI Tryd.prog 95 3 = some (3, 1, false) := by kernel_rfl
@[go_sem] theorem ty_485 : fdI Tryd.prog 95 4 = some (4, 1, false) := by kernel_rfl
@[go_sem] theorem ty_486 : fdI Tryd.prog 95 5 = some (5, 1, false) := by kernel_rfl
@[go_sem] theorem ty_487 : fdI Tryd.prog 95 6 = some (6, 1, false) := by kernel_rfl
@[go_sem] theorem ty_488 : fdI Tryd.prog 95 7 = some (7, 1, false) := by kernel_rfl
@[go_sem] theorem ty_489 : bdI Tryd.prog 95 = some ([.d (.int .i64 0), .d (.int .i64 0), .d (.int .i64 0), .nils, .nils, .d (.bool false), .d (.int .i64 0), .nils], [(0, 1), (1, 1), (2, 1), (3, 1), (4, 1), (5, 1), (6, 1), (7, 1)]) := by kernel_rfl
@[go_sem] theorem ty_490 : zI Tryd.prog 95 = some [.d (.int .i64 0), .d (.int .i64 0), .d (.int .i64 0), .nils, .nils, .d (.bool false), .d (.int .i64 0), .nils] := by kernel_rfl
@[go_sem] theorem ty_491 : isIf Tryd.prog 95 = false := by kernel_rfl
@[go_sem] theorem ty_492 : (Tryd.prog.underlying 96).isSome = true := by kernel_rfl
@[go_sem] theorem ty_493 : tyI Tryd.prog 96 = some (true, 8) := by kernel_rfl
@[go_sem] theorem ty_494 : fdI Tryd.prog 96 0 = some (0, 1, false) := by kernel_rfl
@[go_sem] theorem ty_495 : fdI Tryd.prog 96 1 = some (1, 1, false) := by kernel_rfl
@[go_sem] theorem ty_496 : fdI Tryd.prog 96 2 = some (2, 1, false) := by kernel_rfl
@[go_sem] theorem ty_497 : fdI Tryd.prog 96 3 = some (3, 1, false) := by kernel_rfl
@[go_sem] theorem ty_498 : fdI Tryd.prog 96 4 = some (4, 1, false) := by kernel_rfl
@[go_sem] theorem ty_499 : fdI Tryd.prog 96 5 = some (5, 1, false) := by kernel_rfl
@[go_sem] theorem ty_500 : fdI Tryd.prog 96 6 = some (6, 1, false) := by kernel_rfl
@[go_sem] theorem ty_501 : fdI Tryd.prog 96 7 = some (7, 1, false) := by kernel_rfl
@[go_sem] theorem ty_502 : bdI Tryd.prog 96 = some ([.d (.int .i64 0), .d (.int .i64 0), .d (.int .i64 0), .nils, .nils, .d (.bool false), .d (.int .i64 0), .nils], [(0, 1), (1, 1), (2, 1), (3, 1), (4, 1), (5, 1), (6, 1), (7, 1)]) := by kernel_rfl
@[go_sem] theorem ty_503 : zI Tryd.prog 96 = some [.d (.int .i64 0), .d (.int .i64 0), .d (.int .i64 0), .nils, .nils, .d (.bool false), .d (.int .i64 0), .nils] := by kernel_rfl
@[go_sem] theorem ty_504 : isIf Tryd.prog 96 = false := by kernel_rfl
@[go_sem] theorem ty_505 : (Tryd.prog.underlying 97).isSome = true := by kernel_rfl
@[go_sem] theorem ty_506 : tyI Tryd.prog 97 = some (true, 12) := by kernel_rfl
@[go_sem] theorem ty_507 : fdI Tryd.prog 97 0 = some (0, 1, false) := by kernel_rfl
@[go_sem] theorem ty_508 : fdI Tryd.prog 97 1 = some (1, 1, false) := by kernel_rfl
@[go_sem] theorem ty_509 : fdI Tryd.prog 97 2 = some (2, 8, true) := by kernel_rfl
@[go_sem] theorem ty_510 : fdI Tryd.prog 97 3 = some (10, 1, false) := by kernel_rfl
@[go_sem] theorem ty_511 : fdI Tryd.prog 97 4 = some (11, 1, false) := by kernel_rfl
@[go_sem] theorem ty_512 : bdI Tryd.prog 97 = some ([.d (.int .i64 0), .nils, .d (.int .i64 0), .d (.int .i64 0), .d (.int .i64 0), .nils, .nils, .d (.bool false), .d (.int .i64 0), .nils, .nils, .nils], [(0, 1), (1, 1), (2, 8), (10, 1), (11, 1)]) := by kernel_rfl
@[go_sem] theorem ty_513 : zI Tryd.prog 97 = some [.d (.int .i64 0), .nils, .d (.int .i64 0), .d (.int .i64 0), .d (.int .i64 0), .nils, .nils, .d (.bool false), .d (.int .i64 0), .nils, .nils, .nils] := by kernel_rfl
@[go_sem] theorem ty_514 : isIf Tryd.prog 97 = false := by kernel_rfl
@[go_sem] theorem ty_515 : (Tryd.prog.underlying 98).isSome = true := by kernel_rfl
@[go_sem] theorem ty_516 : tyI Tryd.prog 98 = some (true, 12) := by kernel_rfl
@[go_sem] theorem ty_517 : fdI Tryd.prog 98 0 = some (0, 1, false) := by kernel_rfl
@[go_sem] theorem ty_518 : fdI Tryd.prog 98 1 = some (1, 1, false) := by kernel_rfl
@[go_sem] theorem ty_519 : fdI Tryd.prog 98 2 = some (2, 8, true) := by kernel_rfl
@[go_sem] theorem ty_520 : fdI Tryd.prog 98 3 = some (10, 1, false) := by kernel_rfl
@[go_sem] theorem ty_521 : fdI Tryd.prog 98 4 = some (11, 1, false) := by kernel_rfl
@[go_sem] theorem ty_522 : bdI Tryd.prog 98 = some ([.d (.int .i64 0), .nils, .d (.int .i64 0), .d (.int .i64 0), .d (.int .i64 0), .nils, .nils, .d (.bool false), .d (.int .i64 0), .nils, .nils, .nils], [(0, 1), (1, 1), (2, 8), (10, 1), (11, 1)]) := by kernel_rfl
@[go_sem] theorem ty_523 : zI Tryd.prog 98 = some [.d (.int .i64 0), .nils, .d (.int .i64 0), .d (.int .i64 0), .d (.int .i64 0), .nils, .nils, .d (.bool false), .d (.int .i64 0), .nils, .nils, .nils] := by kernel_rfl
@[go_sem] theorem ty_524 : isIf Tryd.prog 98 = false := by kernel_rfl
@[go_sem] theorem ty_525 : (Tryd.prog.underlying 99).isSome = true := by kernel_rfl
@[go_sem] theorem ty_526 : tyI Tryd.prog 99 = some (false, 1) := by kernel_rfl
@[go_sem] theorem ty_527 : zI Tryd.prog 99 = some [.nilf] := by kernel_rfl
@[go_sem] theorem ty_528 : isIf Tryd.prog 99 = false := by kernel_rfl
@[go_sem] theorem ty_529 : (Tryd.prog.underlying 100).isSome = true := by kernel_rfl
@[go_sem] theorem ty_530 : tyI Tryd.prog 100 = some (false, 1) := by kernel_rfl
@[go_sem] theorem ty_531 : zI Tryd.prog 100 = some [.nilf] := by kernel_rfl
@[go_sem] theorem ty_532 : isIf Tryd.prog 100 = false := by kernel_rfl
@[go_sem] theorem ty_533 : (Tryd.prog.underlying 101).isSome = true := by kernel_rfl
@[go_sem] theorem ty_534 : tyI Tryd.prog 101 = some (false, 1) := by kernel_rfl
@[go_sem] theorem ty_535 : zI Tryd.prog 101 = some [.nilp] := by kernel_rfl
@[go_sem] theorem ty_536 : isIf Tryd.prog 101 = false := by kernel_rfl
@[go_sem] theorem ty_537 : (Tryd.prog.underlying 102).isSome = true := by kernel_rfl
@[go_sem] theorem ty_538 : tyI Tryd.prog 102 = some (true, 1) := by kernel_rfl
@[go_sem] theorem ty_539 : fdI Tryd.prog 102 0 = some (0, 1, false) := by kernel_rfl
@[go_sem] theorem ty_540 : bdI Tryd.prog 102 = some ([.nils], [(0, 1)]) := by kernel_rfl
@[go_sem] theorem ty_541 : zI Tryd.prog 102 = some [.nils] := by kernel_rfl
@[go_sem] theorem ty_542 : isIf Tryd.prog 102 = false := by kernel_rfl
@[go_sem] theorem ty_543 : (Tryd.prog.underlying 103).isSome = true := by kernel_rfl
@[go_sem] theorem ty_544 : tyI Tryd.prog 103 = some (true, 1) := by kernel_rfl
@[go_sem] theorem ty_545 : fdI Tryd.prog 103 0 = some (0, 1, false) := by kernel_rfl
@[go_sem] theorem ty_546 : bdI Tryd.prog 103 = some ([.nils], [(0, 1)]) := by kernel_rfl
@[go_sem] theorem ty_547 : zI Tryd.prog 103 = some [.nils] := by kernel_rfl
@[go_sem] theorem ty_548 : isIf Tryd.prog 103 = false := by kernel_rfl
@[go_sem] theorem ty_549 : (Tryd.prog.underlying 104).isSome = true := by kernel_rfl
@[go_sem] theorem ty_550 : tyI Tryd.prog 104 = some (false, 1) := by kernel_rfl
@[go_sem] theorem ty_551 : zI Tryd.prog 104 = some [.nilf] := by kernel_rfl
@[go_sem] theorem ty_552 : isIf Tryd.prog 104 = false := by kernel_rfl
@[go_sem] theorem ty_553 : (Tryd.prog.underlying 105).isSome = true := by kernel_rfl
@[go_sem] theorem ty_554 : tyI Tryd.prog 105 = some (false, 1) := by kernel_rfl
@[go_sem] theorem ty_555 : zI Tryd.prog 105 = some [.nilf] := by kernel_rfl
@[go_sem] theorem ty_556 : isIf Tryd.prog 105 = false := by kernel_rfl
@[go_sem] theorem ty_557 : (Tryd.prog.underlying 106).isSome = true := by kernel_rfl
@[go_sem] theorem ty_558 : tyI Tryd.prog 106 = some (false, 1) := by kernel_rfl
@[go_sem] theorem ty_559 : zI Tryd.prog 106 = some [.nilf] := by kernel_rfl
@[go_sem] theorem ty_560 : isIf Tryd.prog 106 = false := by kernel_rfl
@[go_sem] theorem ty_561 : (Tryd.prog.underlying 107).isSome = true := by kernel_rfl
@[go_sem] theorem ty_562 : tyI Tryd.prog 107 = some (true, 3) := by kernel_rfl
@[go_sem] theorem ty_563 : fdI Tryd.prog 107 0 = some (0, 1, false) := by kernel_rfl
@[go_sem] theorem ty_564 : fdI Tryd.prog 107 1 = some (1, 1, false) := by kernel_rfl
@[go_sem] theorem ty_565 : fdI Tryd.prog 107 2 = some (2, 1, false) := by kernel_rfl
@[go_sem] theorem ty_566 : bdI Tryd.prog 107 = some ([.d (.int .i64 0), .d (.str []), .d (.int .i64 0)], [(0, 1), (1, 1), (2, 1)]) := by kernel_rfl
@[go_sem] theorem ty_567 : zI Tryd.prog 107 = some [.d (.int .i64 0), .d (.str []), .d (.int .i64 0)] := by kernel_rfl
@[go_sem] theorem ty_568 : eqI Tryd.prog 107 = some [1, 3, 1] := by kernel_rfl
@[go_sem] theorem ty_569 : isIf Tryd.prog 107 = false := by kernel_rfl
@[go_sem] theorem ty_570 : (Tryd.prog.underlying 108).isSome = true := by kernel_rfl
@[go_sem] theorem ty_571 : tyI Tryd.prog 108 = some (true, 3) := by kernel_rfl
@[go_sem] theorem ty_572 : fdI Tryd.prog 108 0 = some (0, 1, false) := by kernel_rfl
@[go_sem] theorem ty_573 : fdI Tryd.prog 108 1 = some (1, 1, false) := by kernel_rfl
@[go_sem] theorem ty_574 : fdI Tryd.prog 108 2 = some (2, 1, false) := by kernel_rfl
@[go_sem] theorem ty_575 : bdI Tryd.prog 108 = some ([.d (.int .i64 0), .d (.str []), .d (.int .i64 0)], [(0, 1), (1, 1), (2, 1)]) := by kernel_rfl
@[go_sem] theorem ty_576 : zI Tryd.prog 108 = some [.d (.int .i64 0), .d (.str []), .d (.int .i64 0)] := by kernel_rfl
@[go_sem] theorem ty_577 : eqI Tryd.prog 108 = some [1, 3, 1] := by kernel_rfl
@[go_sem] theorem ty_578 : isIf Tryd.prog 108 = false := by kernel_rfl
@[go_sem] theorem ty_579 : (Tryd.prog.underlying 109).isSome = true := by kernel_rfl
@[go_sem] theorem ty_580 : tyI Tryd.prog 109 = some (false, 1) := by kernel_rfl
@[go_sem] theorem ty_581 : zI Tryd.prog 109 = some [.nilf] := by kernel_rfl
@[go_sem] theorem ty_582 : isIf Tryd.prog 109 = false := by kernel_rfl
@[go_sem] theorem ty_583 : (Tryd.prog.underlying 110).isSome = true := by kernel_rfl
@[go_sem] theorem ty_584 : tyI Tryd.prog 110 = some (true, 2) := by kernel_rfl
@[go_sem] theorem ty_585 : fdI Tryd.prog 110 0 = some (0, 1, false) := by kernel_rfl
@[go_sem] theorem ty_586 : fdI Tryd.prog 110 1 = some (1, 1, false) := by kernel_rfl
@[go_sem] theorem ty_587 : bdI Tryd.prog 110 = some ([.d (.int .i64 0), .d (.int .i64 0)], [(0, 1), (1, 1)]) := by kernel_rfl
@[go_sem] theorem ty_588 : zI Tryd.prog 110 = some [.d (.int .i64 0), .d (.int .i64 0)] := by kernel_rfl
@[go_sem] theorem ty_589 : eqI Tryd.prog 110 = some [1, 1] := by kernel_rfl
@[go_sem] theorem ty_590 : isIf Tryd.prog 110 = false := by kernel_rfl
@[go_sem] theorem ty_591 : (Tryd.prog.underlying 111).isSome = true := by kernel_rfl
@[go_sem] theorem ty_592 : tyI Tryd.prog 111 = some (true, 2) := by kernel_rfl
@[go_sem] theorem ty_593 : fdI Tryd.prog 111 0 = some (0, 1, false) := by kernel_rfl
@[go_sem] theorem ty_594 : fdI Tryd.prog 111 1 = some (1, 1, false) := by kernel_rfl
@[go_sem] theorem ty_595 : bdI Tryd.prog 111 = some ([.d (.int .i64 0), .d (.int .i64 0)], [(0, 1), (1, 1)]) := by kernel_rfl
@[go_sem] theorem ty_596 : zI Tryd.prog 111 = some [.d (.int .i64 0), .d (.int .i64 0)] := by kernel_rfl
@[go_sem] theorem ty_597 : eqI Tryd.prog 111 = some [1, 1] := by kernel_rfl
@[go_sem] theorem ty_598 : isIf Tryd.prog 111 = false := by kernel_rfl
@[go_sem] theorem ty_599 : (Tryd.prog.underlying 112).isSome = true := by kernel_rfl
@[go_sem] theorem ty_600 : tyI Tryd.prog 112 = some (false, 1) := by kernel_rfl
@[go_sem] theorem ty_601 : zI Tryd.prog 112 = some [.nilp] := by kernel_rfl
@[go_sem] theorem ty_602 : isIf Tryd.prog 112 = false := by kernel_rfl
@[go_sem] theorem ty_603 : (Tryd.prog.underlying 113).isSome = true := by kernel_rfl
@[go_sem] theorem ty_604 : tyI Tryd.prog 113 = some (true, 2) := by kernel_rfl
@[go_sem] theorem ty_605 : fdI Tryd.prog 113 0 = some (0, 1, false) := by kernel_rfl
@[go_sem] theorem ty_606 : fdI Tryd.prog 113 1 = some (1, 1, false) := by kernel_rfl
@[go_sem] theorem ty_607 : bdI Tryd.prog 113 = some ([.nils, .d (.int .i64 0)], [(0, 1), (1, 1)]) := by kernel_rfl
@[go_sem] theorem ty_608 : zI Tryd.prog 113 = some [.nils, .d (.int .i64 0)] := by kernel_rfl
@[go_sem] theorem ty_609 : isIf Tryd.prog 113 = false := by kernel_rfl
@[go_sem] theorem ty_610 : (Tryd.prog.underlying 114).isSome = true := by kernel_rfl
@[go_sem] theorem ty_611 : tyI Tryd.prog 114 = some (true, 2) := by kernel_rfl
@[go_sem] theorem ty_612 : fdI Tryd.prog 114 0 = some (0, 1, false) := by kernel_rfl
@[go_sem] theorem ty_613 : fdI Tryd.prog 114 1 = some (1, 1, false) := by kernel_rfl
@[go_sem] theorem ty_614 : bdI Tryd.prog 114 = some ([.nils, .d (.int .i64 0)], [(0, 1), (1, 1)]) := by kernel_rfl
@[go_sem] theorem ty_615 : zI Tryd.prog 114 = some [.nils, .d (.int .i64 0)] := by kernel_rfl
@[go_sem] theorem ty_616 : isIf Tryd.prog 114 = false := by kernel_rfl
@[go_sem] theorem ty_617 : (Tryd.prog.underlying 115).isSome = true := by kernel_rfl
@[go_sem] theorem ty_618 : tyI Tryd.prog 115 = some (false, 1) := by kernel_rfl
@[go_sem] theorem ty_619 : zI Tryd.prog 115 = some [.nilf] := by kernel_rfl
@[go_sem] theorem ty_620 : isIf Tryd.prog 115 = false := by kernel_rfl
@[go_sem] theorem ty_621 : (Tryd.prog.underlying 116).isSome = true := by kernel_rfl
@[go_sem] theorem ty_622 : tyI Tryd.prog 116 = some (false, 1) := by kernel_rfl
@[go_sem] theorem ty_623 : zI Tryd.prog 116 = some [.nilp] := by kernel_rfl
@[go_sem] theorem ty_624 : isIf Tryd.prog 116 = false := by kernel_rfl
@[go_sem] theorem ty_625 : (Tryd.prog.underlying 117).isSome = true := by kernel_rfl
@[go_sem] theorem ty_626 : tyI Tryd.prog 117 = some (true, 3) := by kernel_rfl
@[go_sem] theorem ty_627 : fdI Tryd.prog 117 0 = some (0, 1, false) := by kernel_rfl
@[go_sem] theorem ty_628 : fdI Tryd.prog 117 1 = some (1, 1, false) := by kernel_rfl
@[go_sem] theorem ty_629 : fdI Tryd.prog 117 2 = some (2, 1, false) := by kernel_rfl
@[go_sem] theorem ty_630 : bdI Tryd.prog 117 = some ([.nils, .d (.int .i64 0), .d (.int .i64 0)], [(0, 1), (1, 1), (2, 1)]) := by kernel_rfl
@[go_sem] theorem ty_631 : zI Tryd.prog 117 = some [.nils, .d (.int .i64 0), .d (.int .i64 0)] := by kernel_rfl
@[go_sem] theorem ty_632 : isIf Tryd.prog 117 = false := by kernel_rfl
@[go_sem] theorem ty_633 : (Tryd.prog.underlying 118).isSome = true := by kernel_rfl
@[go_sem] theorem ty_634 : tyI Tryd.prog 118 = some (true, 3) := by kernel_rfl
@[go_sem] theorem ty_635 : fdI Tryd.prog 118 0 = some (0, 1, false) := by kernel_rfl
@[go_sem] theorem ty_636 : fdI Tryd.prog 118 1 = some (1, 1, false) := by kernel_rfl
@[go_sem] theorem ty_637 : fdI Tryd.prog 118 2 = some (2, 1, false) := by kernel_rfl
@[go_sem] theorem ty_638 : bdI Tryd.prog 118 = some ([.nils, .d (.int .i64 0), .d (.int .i64 0)], [(0, 1), (1, 1), (2, 1)]) := by kernel_rfl
@[go_sem] theorem ty_639 : zI Tryd.prog 118 = some [.nils, .d (.int .i64 0), .d (.int .i64 0)] := by kernel_rfl
@[go_sem] theorem ty_640 : isIf Tryd.prog 118 = false := by kernel_rfl
@[go_sem] theorem ty_641 : (Tryd.prog.underlying 119).isSome = true := by kernel_rfl
@[go_sem] theorem ty_642 : tyI Tryd.prog 119 = some (false, 1) := by kernel_rfl
@[go_sem] theorem ty_643 : isIf Tryd.prog 119 = false := by kernel_rfl
@[go_sem] theorem ty_644 : (Tryd.prog.underlying 120).isSome = true := by kernel_rfl
@[go_sem] theorem ty_645 : tyI Tryd.prog 120 = some (false, 1) := by kernel_rfl
@[go_sem] theorem ty_646 : zI Tryd.prog 120 = some [.nilf] := by kernel_rfl
@[go_sem] theorem ty_647 : isIf Tryd.prog 120 = false := by kernel_rfl
@[go_sem] theorem ty_648 : (Tryd.prog.underlying 121).isSome = true := by kernel_rfl
@[go_sem] theorem ty_649 : tyI Tryd.prog 121 = some (false, 1) := by kernel_rfl
@[go_sem] theorem ty_650 : slI Tryd.prog 121 = some (128, 3, 32) := by kernel_rfl
@[go_sem] theorem ty_651 : zI Tryd.prog 121 = some [.nils] := by kernel_rfl
@[go_sem] theorem ty_652 : isIf Tryd.prog 121 = false := by kernel_rfl
@[go_sem] theorem ty_653 : isBytes Tryd.prog 121 = false := by kernel_rfl
@[go_sem] theorem ty_654 : (Tryd.prog.underlying 122).isSome = true := by kernel_rfl
@[go_sem] theorem ty_655 : tyI Tryd.prog 122 = some (true, 3) := by kernel_rfl
@[go_sem] theorem ty_656 : fdI Tryd.prog 122 0 = some (0, 1, false) := by kernel_rfl
@[go_sem] theorem ty_657 : fdI Tryd.prog 122 1 = some (1, 1, false) := by kernel_rfl
@[go_sem] theorem ty_658 : fdI Tryd.prog 122 2 = some (2, 1, false) := by kernel_rfl
@[go_sem] theorem ty_659 : bdI Tryd.prog 122 = some ([.d (.str []), .d (.int .i64 0), .nils], [(0, 1), (1, 1), (2, 1)]) := by kernel_rfl
@[go_sem] theorem ty_660 : zI Tryd.prog 122 = some [.d (.str []), .d (.int .i64 0), .nils] := by kernel_rfl
@[go_sem] theorem ty_661 : isIf Tryd.prog 122 = false := by kernel_rfl
@[go_sem] theorem ty_662 : (Tryd.prog.underlying 123).isSome = true := by kernel_rfl
@[go_sem] theorem ty_663 : tyI Tryd.prog 123 = some (true, 3) := by kernel_rfl
@[go_sem] theorem ty_664 : fdI Tryd.prog 123 0 = some (0, 1, false) := by kernel_rfl
@[go_sem] theorem ty_665 : fdI Tryd.prog 123 1 = some (1, 1, false) := by kernel_rfl
@[go_sem] theorem ty_666 : fdI Tryd.prog 123 2 = some (2, 1, false) := by kernel_rfl
@[go_sem] theorem ty_667 : bdI Tryd.prog 123 = some ([.d (.str []), .d (.int .i64 0), .nils], [(0, 1), (1, 1), (2, 1)]) := by kernel_rfl
@[go_sem] theorem ty_668 : zI Tryd.prog 123 = some [.d (.str []), .d (.int .i64 0), .nils] := by kernel_rfl
@[go_sem] theorem ty_669 : isIf Tryd.prog 123 = false := by kernel_rfl
@[go_sem] theorem ty_670 : (Tryd.prog.underlying 124).isSome = true := by kernel_rfl
@[go_sem] theorem ty_671 : tyI Tryd.prog 124 = some (false, 1) := by kernel_rfl
@[go_sem] theorem ty_672 : zI Tryd.prog 124 = some [.nilf] := by kernel_rfl
@[go_sem] theorem ty_673 : isIf Tryd.prog 124 = false := by kernel_rfl
@[go_sem] theorem ty_674 : (Tryd.prog.underlying 125).isSome = true := by kernel_rfl
@[go_sem] theorem ty_675 : tyI Tryd.prog 125 = some (false, 1) := by kernel_rfl
@[go_sem] theorem ty_676 : zI Tryd.prog 125 = some [.nilf] := by kernel_rfl
@[go_sem] theorem ty_677 : isIf Tryd.prog 125 = false := by kernel_rfl
@[go_sem] theorem ty_678 : (Tryd.prog.underlying 126).isSome = true := by kernel_rfl
@[go_sem] theorem ty_679 : tyI Tryd.prog 126 = some (false, 1) := by kernel_rfl
@[go_sem] theorem ty_680 : zI Tryd.prog 126 = some [.nilf] := by kernel_rfl
@[go_sem] theorem ty_681 : isIf Tryd.prog 126 = false := by kernel_rfl
@[go_sem] theorem ty_682 : (Tryd.prog.underlying 127).isSome = true := by kernel_rfl
@[go_sem] theorem ty_683 : tyI Tryd.prog 127 = some (true, 3) := by kernel_rfl
@[go_sem] theorem ty_684 : fdI Tryd.prog 127 0 = some (0, 1, false) := by kernel_rfl
@[go_sem] theorem ty_685 : fdI Tryd.prog 127 1 = some (1, 1, false) := by kernel_rfl
@[go_sem] theorem ty_686 : fdI Tryd.prog 127 2 = some (2, 1, false) := by kernel_rfl
@[go_sem] theorem ty_687 : bdI Tryd.prog 127 = some ([.d (.int .i64 0), .d (.int .i64 0), .d (.str [])], [(0, 1), (1, 1), (2, 1)]) := by kernel_rfl
@[go_sem] theorem ty_688 : zI Tryd.prog 127 = some [.d (.int .i64 0), .d (.int .i64 0), .d (.str [])] := by kernel_rfl
@[go_sem] theorem ty_689 : eqI Tryd.prog 127 = some [1, 1, 3] := by kernel_rfl
@[go_sem] theorem ty_690 : isIf Tryd.prog 127 = false := by kernel_rfl
@[go_sem] theorem ty_691 : (Tryd.prog.underlying 128).isSome = true := by kernel_rfl
@[go_sem] theorem ty_692 : tyI Tryd.prog 128 = some (true, 3) := by kernel_rfl
@[go_sem] theorem ty_693 : fdI Tryd.prog 128 0 = some (0, 1, false) := by kernel_rfl
@[go_sem] theorem ty_694 : fdI Tryd.prog 128 1 = some (1, 1, false) := by kernel_rfl
@[go_sem] theorem ty_695 : fdI Tryd.prog 128 2 = some (2, 1, false) := by kernel_rfl
@[go_sem] theorem ty_696 : bdI Tryd.prog 128 = some ([.d (.int .i64 0), .d (.int .i64 0), .d (.str [])], [(0, 1), (1, 1), (2, 1)]) := by kernel_rfl
@[go_sem] theorem ty_697 : zI Tryd.prog 128 = some [.d (.int .i64 0), .d (.int .i64 0), .d (.str [])] := by kernel_rfl
@[go_sem] theorem ty_698 : eqI Tryd.prog 128 = some [1, 1, 3] := by kernel_rfl
@[go_sem] theorem ty_699 : isIf Tryd.prog 128 = false := by kernel_rfl
@[go_sem] theorem ty_700 : (Tryd.prog.underlying 129).isSome = true := by kernel_rfl
@[go_sem] theorem ty_701 : tyI Tryd.prog 129 = some (false, 1) := by kernel_rfl
@[go_sem] theorem ty_702 : zI Tryd.prog 129 = some [.nilf] := by kernel_rfl
@[go_sem] theorem ty_703 : isIf Tryd.prog 129 = false := by kernel_rfl
@[go_sem] theorem ty_704 : (Tryd.prog.underlying 130).isSome = true := by kernel_rfl
@[go_sem] theorem ty_705 : tyI Tryd.prog 130 = some (false, 1) := by kernel_rfl
@[go_sem] theorem ty_706 : isIf Tryd.prog 130 = false := by kernel_rfl
@[go_sem] theorem ty_707 : (Tryd.prog.underlying 131).isSome = true := by kernel_rfl
@[go_sem] theorem ty_708 : tyI Tryd.prog 131 = some (false, 1) := by kernel_rfl
@[go_sem] theorem ty_709 : zI Tryd.prog 131 = some [.nilf] := by kernel_rfl
@[go_sem] theorem ty_710 : isIf Tryd.prog 131 = false := by kernel_rfl
@[go_sem] theorem ty_711 : (Tryd.prog.underlying 132).isSome = true := by kernel_rfl
@[go_sem] theorem ty_712 : tyI Tryd.prog 132 = some (false, 1) := by kernel_rfl
@[go_sem] theorem ty_713 : isIf Tryd.prog 132 = false := by kernel_rfl
@[go_sem] theorem ty_714 : (Tryd.prog.underlying 133).isSome = true := by kernel_rfl
@[go_sem] theorem ty_715 : tyI Tryd.prog 133 = some (false, 1) := by kernel_rfl
@[go_sem] theorem ty_716 : zI Tryd.prog 133 = some [.nilf] := by kernel_rfl
@[go_sem] theorem ty_717 : isIf Tryd.prog 133 = false := by kernel_rfl
@[go_sem] theorem ty_718 : (Tryd.prog.underlying 134).isSome = true := by kernel_rfl
@[go_sem] theorem ty_719 : tyI Tryd.prog 134 = some (false, 1) := by kernel_rfl
@[go_sem] theorem ty_720 : zI Tryd.prog 134 = some [.nilf] := by kernel_rfl
@[go_sem] theorem ty_721 : isIf Tryd.prog 134 = false := by kernel_rfl
@[go_sem] theorem ty_722 : (Tryd.prog.underlying 135).isSome = true := by kernel_rfl
@[go_sem] theorem ty_723 : tyI Tryd.prog 135 = some (false, 1) := by kernel_rfl
@[go_sem] theorem ty_724 : zI Tryd.prog 135 = some [.nilf] := by kernel_rfl
@[go_sem] theorem ty_725 : isIf Tryd.prog 135 = false := by kernel_rfl
@[go_sem] theorem ty_726 : (Tryd.prog.underlying 136).isSome = true := by kernel_rfl
@[go_sem] theorem ty_727 : tyI Tryd.prog 136 = some (false, 1) := by kernel_rfl
@[go_sem] theorem ty_728 : zI Tryd.prog 136 = some [.nilp] := by kernel_rfl
@[go_sem] theorem ty_729 : isIf Tryd.prog 136 = false := by kernel_rfl
@[go_sem] theorem ty_730 : (Tryd.prog.underlying 137).isSome = true := by kernel_rfl
@[go_sem] theorem ty_731 : tyI Tryd.prog 137 = some (true, 2) := by kernel_rfl
@[go_sem] theorem ty_732 : fdI Tryd.prog 137 0 = some (0, 1, false) := by kernel_rfl
@[go_sem] theorem ty_733 : fdI Tryd.prog 137 1 = some (1, 1, false) := by kernel_rfl
@[go_sem] theorem ty_734 : bdI Tryd.prog 137 = some ([.nils, .d (.bool false)], [(0, 1), (1, 1)]) := by kernel_rfl
@[go_sem] theorem ty_735 : zI Tryd.prog 137 = some [.nils, .d (.bool false)] := by kernel_rfl
@[go_sem] theorem ty_736 : isIf Tryd.prog 137 = false := by kernel_rfl
@[go_sem] theorem ty_737 : (Tryd.prog.underlying 138).isSome = true := by kernel_rfl
@[go_sem] theorem ty_738 : tyI Tryd.prog 138 = some (true, 2) := by kernel_rfl
@[go_sem] theorem ty_739 : fdI Tryd.prog 138 0 = some (0, 1, false) := by kernel_rfl
@[go_sem] theorem ty_740 : fdI Tryd.prog 138 1 = some (1, 1, false) := by kernel_rfl
@[go_sem] theorem ty_741 : bdI Tryd.prog 138 = some ([.nils, .d (.bool false)], [(0, 1), (1, 1)]) := by kernel_rfl
@[go_sem] theorem ty_742 : zI Tryd.prog 138 = some [.nils, .d (.bool false)] := by kernel_rfl
@[go_sem] theorem ty_743 : isIf Tryd.prog 138 = false := by kernel_rfl
@[go_sem] theorem ty_744 : (Tryd.prog.underlying 139).isSome = true := by kernel_rfl
@[go_sem] theorem ty_745 : tyI Tryd.prog 139 = some (false, 1) := by kernel_rfl
@[go_sem] theorem ty_746 : zI Tryd.prog 139 = some [.nilf] := by kernel_rfl
@[go_sem] theorem ty_747 : isIf Tryd.prog 139 = false := by kernel_rfl
@[go_sem] theorem ty_748 : (Tryd.prog.underlying 140).isSome = true := by kernel_rfl
@[go_sem] theorem ty_749 : tyI Tryd.prog 140 = some (false, 1) := by kernel_rfl
@[go_sem] theorem ty_750 : zI Tryd.prog 140 = some [.nilf] := by kernel_rfl
@[go_sem] theorem ty_751 : isIf Tryd.prog 140 = false := by kernel_rfl
@[go_sem] theorem ty_752 : (Tryd.prog.underlying 141).isSome = true := by kernel_rfl
@[go_sem] theorem ty_753 : tyI Tryd.prog 141 = some (false, 1) := by kernel_rfl
@[go_sem] theorem ty_754 : isIf Tryd.prog 141 = false := by kernel_rfl
@[go_sem] theorem ty_755 : (Tryd.prog.underlying 142).isSome = true := by kernel_rfl
@[go_sem] theorem ty_756 : tyI Tryd.prog 142 = some (false, 1) := by kernel_rfl
@[go_sem] theorem ty_757 : zI Tryd.prog 142 = some [.nilf] := by kernel_rfl
@[go_sem] theorem ty_758 : isIf Tryd.prog 142 = false := by kernel_rfl
@[go_sem] theorem ty_759 : (Tryd.prog.underlying 143).isSome = true := by kernel_rfl
@[go_sem] theorem ty_760 : tyI Tryd.prog 143 = some (false, 1) := by kernel_rfl
@[go_sem] theorem ty_761 : zI Tryd.prog 143 = some [.nilf] := by kernel_rfl
@[go_sem] theorem ty_762 : isIf Tryd.prog 143 = false := by kernel_rfl
@[go_sem] theorem ty_763 : (Tryd.prog.underlying 144).isSome = true := by kernel_rfl
@[go_sem] theorem ty_764 : tyI Tryd.prog 144 = some (false, 1) := by kernel_rfl
@[go_sem] theorem ty_765 : zI Tryd.prog 144 = some [.nilf] := by kernel_rfl
@[go_sem] theorem ty_766 : isIf Tryd.prog 144 = false := by kernel_rfl
@[go_sem] theorem ty_767 : (Tryd.prog.underlying 145).isSome = true := by kernel_rfl
@[go_sem] theorem ty_768 : tyI Tryd.prog 145 = some (true, 2) := by kernel_rfl
@[go_sem] theorem ty_769 : fdI Tryd.prog 145 0 = some (0, 1, false) := by kernel_rfl
@[go_sem] theorem ty_770 : fdI Tryd.prog 145 1 = some (1, 1, false) := by kernel_rfl
@[go_sem] theorem ty_771 : bdI Tryd.prog 145 = some ([.d (.str []), .d (.str [])], [(0, 1), (1, 1)]) := by kernel_rfl
@[go_sem] theorem ty_772 : zI Tryd.prog 145 = some [.d (.str []), .d (.str [])] := by kernel_rfl
@[go_sem] theorem ty_773 : eqI Tryd.prog 145 = some [3, 3] := by kernel_rfl
@[go_sem] theorem ty_774 : isIf Tryd.prog 145 = false := by kernel_rfl
@[go_sem] theorem ty_775 : (Tryd.prog.underlying 146).isSome = true := by kernel_rfl
@[go_sem] theorem ty_776 : tyI Tryd.prog 146 = some (true, 2) := by kernel_rfl
@[go_sem] theorem ty_777 : fdI Tryd.prog 146 0 = some (0, 1, false) := by kernel_rfl
@[go_sem] theorem ty_778 : fdI Tryd.prog 146 1 = some (1, 1, false) := by kernel_rfl
@[go_sem] theorem ty_779 : bdI Tryd.prog 146 = some ([.d (.str []), .d (.str [])], [(0, 1), (1, 1)]) := by kernel_rfl
@[go_sem] theorem ty_780 : zI Tryd.prog 146 = some [.d (.str []), .d (.str [])] := by kernel_rfl
@[go_sem] theorem ty_781 : eqI Tryd.prog 146 = some [3, 3] := by kernel_rfl
@[go_sem] theorem ty_782 : isIf Tryd.prog 146 = false := by kernel_rfl
@[go_sem] theorem ty_783 : (Tryd.prog.underlying 147).isSome = true := by kernel_rfl
@[go_sem] theorem ty_784 : tyI Tryd.prog 147 = some (false, 1) := by kernel_rfl
@[go_sem] theorem ty_785 : isIf Tryd.prog 147 = false := by kernel_rfl
@[go_sem] theorem ty_786 : (Tryd.prog.underlying 148).isSome = true := by kernel_rfl
@[go_sem] theorem ty_787 : tyI Tryd.prog 148 = some (false, 1) := by kernel_rfl
@[go_sem] theorem ty_788 : zI Tryd.prog 148 = some [.nilf] := by kernel_rfl
@[go_sem] theorem ty_789 : isIf Tryd.prog 148 = false := by kernel_rfl
@[go_sem] theorem ty_790 : (Tryd.prog.underlying 149).isSome = true := by kernel_rfl
@[go_sem] theorem ty_791 : tyI Tryd.prog 149 = some (false, 1) := by kernel_rfl
@[go_sem] theorem ty_792 : zI Tryd.prog 149 = some [.nilf] := by kernel_rfl
@[go_sem] theorem ty_793 : isIf Tryd.prog 149 = false := by kernel_rfl
@[go_sem] theorem ty_794 : (Tryd.prog.underlying 150).isSome = true := by kernel_rfl
@[go_sem] theorem ty_795 : tyI Tryd.prog 150 = some (true, 4) := by kernel_rfl
@[go_sem] theorem ty_796 : arI Tryd.prog 150 = some (2, 2, true) := by kernel_rfl
@[go_sem] theorem ty_797 : bdI Tryd.prog 150 = some ([.d (.str []), .d (.str []), .d (.str []), .d (.str [])], [(0, 2), (2, 2)]) := by kernel_rfl
@[go_sem] theorem ty_798 : zI Tryd.prog 150 = some [.d (.str []), .d (.str []), .d (.str []), .d (.str [])] := by kernel_rfl
@[go_sem] theorem ty_799 : isIf Tryd.prog 150 = false := by kernel_rfl
@[go_sem] theorem ty_800 : (Tryd.prog.underlying 151).isSome = true := by kernel_rfl
@[go_sem] theorem ty_801 : tyI Tryd.prog 151 = some (false, 1) := by kernel_rfl
@[go_sem] theorem ty_802 : zI Tryd.prog 151 = some [.nilf] := by kernel_rfl
@[go_sem] theorem ty_803 : isIf Tryd.prog 151 = false := by kernel_rfl
@[go_sem] theorem ty_804 : (Tryd.prog.underlying 152).isSome = true := by kernel_rfl
@[go_sem] theorem ty_805 : tyI Tryd.prog 152 = some (false, 1) := by kernel_rfl
@[go_sem] theorem ty_806 : isIf Tryd.prog 152 = false := by kernel_rfl
@[go_sem] theorem ty_807 : (Tryd.prog.underlying 153).isSome = true := by kernel_rfl
@[go_sem] theorem ty_808 : tyI Tryd.prog 153 = some (false, 1) := by kernel_rfl
@[go_sem] theorem ty_809 : zI Tryd.prog 153 = some [.nilf] := by kernel_rfl
@[go_sem] theorem ty_810 : isIf Tryd.prog 153 = false := by kernel_rfl
@[go_sem] theorem ty_811 : (Tryd.prog.underlying 154).isSome = true := by kernel_rfl
@[go_sem] theorem ty_812 : tyI Tryd.prog 154 = some (false, 1) := by kernel_rfl
@[go_sem] theorem ty_813 : zI Tryd.prog 154 = some [.nilp] := by kernel_rfl
@[go_sem] theorem ty_814 : isIf Tryd.prog 154 = false := by kernel_rfl
@[go_sem] theorem ty_815 : (Tryd.prog.underlying 155).isSome = true := by kernel_rfl
@[go_sem] theorem ty_816 : tyI Tryd.prog 155 = some (true, 2) := by kernel_rfl
@[go_sem] theorem ty_817 : fdI Tryd.prog 155 0 = some (0, 1, false) := by kernel_rfl
@[go_sem] theorem ty_818 : fdI Tryd.prog 155 1 = some (1, 1, false) := by kernel_rfl
@[go_sem] theorem ty_819 : bdI Tryd.prog 155 = some ([.nilp, .nils], [(0, 1), (1, 1)]) := by kernel_rfl
@[go_sem] theorem ty_820 : zI Tryd.prog 155 = some [.nilp, .nils] := by kernel_rfl
@[go_sem] theorem ty_821 : isIf Tryd.prog 155 = false := by kernel_rfl
@[go_sem] theorem ty_822 : (Tryd.prog.underlying 156).isSome = true := by kernel_rfl
@[go_sem] theorem ty_823 : tyI Tryd.prog 156 = some (true, 2) := by kernel_rfl
@[go_sem] theorem ty_824 : fdI Tryd.prog 156 0 = some (0, 1, false) := by kernel_rfl
@[go_sem] theorem ty_825 : fdI Tryd.prog 156 1 = some (1, 1, false) := by kernel_rfl
@[go_sem] theorem ty_826 : bdI Tryd.prog 156 = some ([.nilp, .nils], [(0, 1), (1, 1)]) := by kernel_rfl
@[go_sem] theorem ty_827 : zI Tryd.prog 156 = some [.nilp, .nils] := by kernel_rfl
@[go_sem] theorem ty_828 : isIf Tryd.prog 156 = false := by kernel_rfl
@[go_sem] theorem ty_829 : (Tryd.prog.underlying 157).isSome = true := by kernel_rfl
@[go_sem] theorem ty_830 : tyI Tryd.prog 157 = some (false, 1) := by kernel_rfl
@[go_sem] theorem ty_831 : zI Tryd.prog 157 = some [.nili] := by kernel_rfl
@[go_sem] theorem ty_832 : isIf Tryd.prog 157 = true := by kernel_rfl
@[go_sem] theorem ty_833 : (Tryd.prog.underlying 158).isSome = true := by kernel_rfl
@[go_sem] theorem ty_834 : tyI Tryd.prog 158 = some (false, 1) := by kernel_rfl
@[go_sem] theorem ty_835 : zI Tryd.prog 158 = some [.nili] := by kernel_rfl
@[go_sem] theorem ty_836 : isIf Tryd.prog 158 = true := by kernel_rfl
@[go_sem] theorem ty_837 : (Tryd.prog.underlying 159).isSome = true := by kernel_rfl
@[go_sem] theorem ty_838 : tyI Tryd.prog 159 = some (false, 1) := by kernel_rfl
@[go_sem] theorem ty_839 : isIf Tryd.prog 159 = false := by kernel_rfl
@[go_sem] theorem ty_840 : (Tryd.prog.underlying 160).isSome = true := by kernel_rfl
@[go_sem] theorem ty_841 : tyI Tryd.prog 160 = some (false, 1) := by kernel_rfl
@[go_sem] theorem ty_842 : zI Tryd.prog 160 = some [.nilf] := by kernel_rfl
@[go_sem] theorem ty_843 : isIf Tryd.prog 160 = false := by kernel_rfl
@[go_sem] theorem ty_844 : (Tryd.prog.underlying 161).isSome = true := by kernel_rfl
@[go_sem] theorem ty_845 : tyI Tryd.prog 161 = some (false, 1) := by kernel_rfl
@[go_sem] theorem ty_846 : zI Tryd.prog 161 = some [.nilf] := by kernel_rfl
@[go_sem] theorem ty_847 : isIf Tryd.prog 161 = false := by kernel_rfl
@[go_sem] theorem ty_848 : (Tryd.prog.underlying 162).isSome = true := by kernel_rfl
@[go_sem] theorem ty_849 : tyI Tryd.prog 162 = some (false, 1) := by kernel_rfl
@[go_sem] theorem ty_850 : zI Tryd.prog 162 = some [.nilf] := by kernel_rfl
@[go_sem] theorem ty_851 : isIf Tryd.prog 162 = false := by kernel_rfl
@[go_sem] theorem ty_852 : (Tryd.prog.underlying 163).isSome = true := by kernel_rfl
@[go_sem] theorem ty_853 : tyI Tryd.prog 163 = some (false, 1) := by kernel_rfl
@[go_sem] theorem ty_854 : zI Tryd.prog 163 = some [.nilf] := by kernel_rfl
@[go_sem] theorem ty_855 : isIf Tryd.prog 163 = false := by kernel_rfl
@[go_sem] theorem ty_856 : (Tryd.prog.underlying 164).isSome = true := by kernel_rfl
@[go_sem] theorem ty_857 : tyI Tryd.prog 164 = some (false, 1) := by kernel_rfl
@[go_sem] theorem ty_858 : zI Tryd.prog 164 = some [.nilf] := by kernel_rfl
@[go_sem] theorem ty_859 : isIf Tryd.prog 164 = false := by kernel_rfl
@[go_sem] theorem ty_860 : (Tryd.prog.underlying 165).isSome = true := by kernel_rfl
@[go_sem] theorem ty_861 : tyI Tryd.prog 165 = some (false, 1) := by kernel_rfl
@[go_sem] theorem ty_862 : zI Tryd.prog 165 = some [.nilf] := by kernel_rfl
@[go_sem] theorem ty_863 : isIf Tryd.prog 165 = false := by kernel_rfl
@[go_sem] theorem ty_864 : (Tryd.prog.underlying 166).isSome = true := by kernel_rfl
@[go_sem] theorem ty_865 : tyI Tryd.prog 166 = some (false, 1) := by kernel_rfl
@[go_sem] theorem ty_866 : zI Tryd.prog 166 = some [.nilf] := by kernel_rfl
@[go_sem] theorem ty_867 : isIf Tryd.prog 166 = false := by kernel_rfl
@[go_sem] theorem ty_868 : (Tryd.prog.underlying 167).isSome = true := by kernel_rfl
@[go_sem] theorem ty_869 : tyI Tryd.prog 167 = some (false, 1) := by kernel_rfl
@[go_sem] theorem ty_870 : zI Tryd.prog 167 = some [.nilf] := by kernel_rfl
@[go_sem] theorem ty_871 : isIf Tryd.prog 167 = false := by kernel_rfl
@[go_sem] theorem ty_872 : (Tryd.prog.underlying 168).isSome = true := by kernel_rfl
@[go_sem] theorem ty_873 : tyI Tryd.prog 168 = some (false, 1) := by kernel_rfl
@[go_sem] theorem ty_874 : zI Tryd.prog 168 = some [.nilp] := by kernel_rfl
@[go_sem] theorem ty_875 : isIf Tryd.prog 168 = false := by kernel_rfl
@[go_sem] theorem ty_876 : (Tryd.prog.underlying 169).isSome = true := by kernel_rfl
@[go_sem] theorem ty_877 : tyI Tryd.prog 169 = some (false, 1) := by kernel_rfl
@[go_sem] theorem ty_878 : zI Tryd.prog 169 = some [.nilf] := by kernel_rfl
@[go_sem] theorem ty_879 : isIf Tryd.prog 169 = false := by kernel_rfl
@[go_sem] theorem ty_880 : (Tryd.prog.underlying 170).isSome = true := by kernel_rfl
@[go_sem] theorem ty_881 : tyI Tryd.prog 170 = some (false, 1) := by kernel_rfl
@[go_sem] theorem ty_882 : zI Tryd.prog 170 = some [.nilf] := by kernel_rfl
@[go_sem] theorem ty_883 : isIf Tryd.prog 170 = false := by kernel_rfl
@[go_sem] theorem ty_884 : (Tryd.prog.underlying 171).isSome = true := by kernel_rfl
@[go_sem] theorem ty_885 : tyI Tryd.prog 171 = some (false, 1) := by kernel_rfl
@[go_sem] theorem ty_886 : zI Tryd.prog 171 = some [.nilf] := by kernel_rfl
@[go_sem] theorem ty_887 : isIf Tryd.prog 171 = false := by kernel_rfl
@[go_sem] theorem ty_888 : (Tryd.prog.underlying 172).isSome = true := by kernel_rfl
@[go_sem] theorem ty_889 : tyI Tryd.prog 172 = some (false, 1) := by kernel_rfl
@[go_sem] theorem ty_890 : zI Tryd.prog 172 = some [.nilf] := by kernel_rfl
@[go_sem] theorem ty_891 : isIf Tryd.prog 172 = false := by kernel_rfl
@[go_sem] theorem ty_892 : (Tryd.prog.underlying 173).isSome = true := by kernel_rfl
@[go_sem] theorem ty_893 : tyI Tryd.prog 173 = some (false, 1) := by kernel_rfl
@[go_sem] theorem ty_894 : zI Tryd.prog 173 = some [.nilf] := by kernel_rfl
@[go_sem] theorem ty_895 : isIf Tryd.prog 173 = false := by kernel_rfl
@[go_sem] theorem ty_896 : (Tryd.prog.underlying 174).isSome = true := by kernel_rfl
@[go_sem] theorem ty_897 : tyI Tryd.prog 174 = some (false, 1) := by kernel_rfl
@[go_sem] theorem ty_898 : zI Tryd.prog 174 = some [.nilf] := by kernel_rfl
@[go_sem] theorem ty_899 : isIf Tryd.prog 174 = false := by kernel_rfl
@[go_sem] theorem ty_900 : (Tryd.prog.underlying 175).isSome = true := by kernel_rfl
@[go_sem] theorem ty_901 : tyI Tryd.prog 175 = some (true, 11) := by kernel_rfl
@[go_sem] theorem ty_902 : arI Tryd.prog 175 = some (11, 1, false) := by kernel_rfl
@[go_sem] theorem ty_903 : bdI Tryd.prog 175 = some ([.d (.str []), .d (.str []), .d (.str []), .d (.str []), .d (.str []), .d (.str []), .d (.str []), .d (.str []), .d (.str []), .d (.str []), .d (.str [])], [(0, 1), (1, 1), (2, 1), (3, 1), (4, 1), (5, 1), (6, 1), (7, 1), (8, 1), (9, 1), (10, 1)]) := by kernel_rfl
@[go_sem] theorem ty_904 : zI Tryd.prog 175 = some [.d (.str []), .d (.str []), .d (.str []), .d (.str []), .d (.str []), .d (.str []), .d (.str []), .d (.str []), .d (.str []), .d (.str []), .d (.str [])] := by kernel_rfl
@[go_sem] theorem ty_905 : isIf Tryd.prog 175 = false := by kernel_rfl
@[go_sem] theorem ty_906 : (Tryd.prog.underlying 176).isSome = true := by kernel_rfl
@[go_sem] theorem ty_907 : tyI Tryd.prog 176 = some (false, 1) := by kernel_rfl
@[go_sem] theorem ty_908 : zI Tryd.prog 176 = some [.nilf] := by kernel_rfl
@[go_sem] theorem ty_909 : isIf Tryd.prog 176 = false := by kernel_rfl
@[go_sem] theorem ty_910 : (Tryd.prog.underlying 177).isSome = true := by kernel_rfl
@[go_sem] theorem ty_911 : tyI Tryd.prog 177 = some (false, 1) := by kernel_rfl
@[go_sem] theorem ty_912 : zI Tryd.prog 177 = some [.nilf] := by kernel_rfl
@[go_sem] theorem ty_913 : isIf Tryd.prog 177 = false := by kernel_rfl
@[go_sem] theorem ty_914 : (Tryd.prog.underlying 178).isSome = true := by kernel_rfl
@[go_sem] theorem ty_915 : tyI Tryd.prog 178 = some (false, 1) := by kernel_rfl
@[go_sem] theorem ty_916 : zI Tryd.prog 178 = some [.nilf] := by kernel_rfl
@[go_sem] theorem ty_917 : isIf Tryd.prog 178 = false := by kernel_rfl
@[go_sem] theorem ty_918 : (Tryd.prog.underlying 179).isSome = true := by kernel_rfl
@[go_sem] theorem ty_919 : tyI Tryd.prog 179 = some (false, 1) := by kernel_rfl
@[go_sem] theorem ty_920 : zI Tryd.prog 179 = some [.nilf] := by kernel_rfl
@[go_sem] theorem ty_921 : isIf Tryd.prog 179 = false := by kernel_rfl
@[go_sem] theorem ty_922 : (Tryd.prog.underlying 180).isSome = true := by kernel_rfl
@[go_sem] theorem ty_923 : tyI Tryd.prog 180 = some (false, 1) := by kernel_rfl
@[go_sem] theorem ty_924 : zI Tryd.prog 180 = some [.nilp] := by kernel_rfl
@[go_sem] theorem ty_925 : isIf Tryd.prog 180 = false := by kernel_rfl
@[go_sem] theorem ty_926 : (Tryd.prog.underlying 181).isSome = true := by kernel_rfl
@[go_sem] theorem ty_927 : tyI Tryd.prog 181 = some (true, 2) := by kernel_rfl
@[go_sem] theorem ty_928 : fdI Tryd.prog 181 0 = some (0, 1, false) := by kernel_rfl
@[go_sem] theorem ty_929 : fdI Tryd.prog 181 1 = some (1, 1, false) := by kernel_rfl
@[go_sem] theorem ty_930 : bdI Tryd.prog 181 = some ([.d (.str []), .d (.int .i64 0)], [(0, 1), (1, 1)]) := by kernel_rfl
@[go_sem] theorem ty_931 : zI Tryd.prog 181 = some [.d (.str []), .d (.int .i64 0)] := by kernel_rfl
@[go_sem] theorem ty_932 : eqI Tryd.prog 181 = some [3, 1] := by kernel_rfl
@[go_sem] theorem ty_933 : isIf Tryd.prog 181 = false := by kernel_rfl
@[go_sem] theorem ty_934 : (Tryd.prog.underlying 182).isSome = true := by kernel_rfl
@[go_sem] theorem ty_935 : tyI Tryd.prog 182 = some (true, 2) := by kernel_rfl
@[go_sem] theorem ty_936 : fdI Tryd.prog 182 0 = some (0, 1, false) := by kernel_rfl
@[go_sem] theorem ty_937 : fdI Tryd.prog 182 1 = some (1, 1, false) := by kernel_rfl
@[go_sem] theorem ty_938 : bdI Tryd.prog 182 = some ([.d (.str []), .d (.int .i64 0)], [(0, 1), (1, 1)]) := by kernel_rfl
@[go_sem] theorem ty_939 : zI Tryd.prog 182 = some [.d (.str []), .d (.int .i64 0)] := by kernel_rfl
@[go_sem] theorem ty_940 : eqI Tryd.prog 182 = some [3, 1] := by kernel_rfl
@[go_sem] theorem ty_941 : isIf Tryd.prog 182 = false := by kernel_rfl
@[go_sem] theorem ty_942 : (Tryd.prog.underlying 183).isSome = true := by kernel_rfl
@[go_sem] theorem ty_943 : tyI Tryd.prog 183 = some (false, 1) := by kernel_rfl
@[go_sem] theorem ty_944 : zI Tryd.prog 183 = some [.nilf] := by kernel_rfl
@[go_sem] theorem ty_945 : isIf Tryd.prog 183 = false := by kernel_rfl
@[go_sem] theorem ty_946 : (Tryd.prog.underlying 184).isSome = true := by kernel_rfl
@[go_sem] theorem ty_947 : tyI Tryd.prog 184 = some (false, 1) := by kernel_rfl
@[go_sem] theorem ty_948 : zI Tryd.prog 184 = some [.nilf] := by kernel_rfl
@[go_sem] theorem ty_949 : isIf Tryd.prog 184 = false := by kernel_rfl
@[go_sem] theorem ty_950 : (Tryd.prog.underlying 185).isSome = true := by kernel_rfl
@[go_sem] theorem ty_951 : tyI Tryd.prog 185 = some (false, 1) := by kernel_rfl
@[go_sem] theorem ty_952 : zI Tryd.prog 185 = some [.nilf] := by kernel_rfl
@[go_sem] theorem ty_953 : isIf Tryd.prog 185 = false := by kernel_rfl
@[go_sem] theorem ty_954 : (Tryd.prog.underlying 186).isSome = true := by kernel_rfl
@[go_sem] theorem ty_955 : tyI Tryd.prog 186 = some (false, 1) := by kernel_rfl
@[go_sem] theorem ty_956 : zI Tryd.prog 186 = some [.nilf] := by kernel_rfl
@[go_sem] theorem ty_957 : isIf Tryd.prog 186 = false := by kernel_rfl
@[go_sem] theorem ty_958 : (Tryd.prog.underlying 187).isSome = true := by kernel_rfl
@[go_sem] theorem ty_959 : tyI Tryd.prog 187 = some (false, 1) := by kernel_rfl
@[go_sem] theorem ty_960 : zI Tryd.prog 187 = some [.nilf] := by kernel_rfl
@[go_sem] theorem ty_961 : isIf Tryd.prog 187 = false := by kernel_rfl
@[go_sem] theorem ty_962 : (Tryd.prog.underlying 188).isSome = true := by kernel_rfl
@[go_sem] theorem ty_963 : tyI Tryd.prog 188 = some (false, 1) := by kernel_rfl
@[go_sem] theorem ty_964 : zI Tryd.prog 188 = some [.nilf] := by kernel_rfl
@[go_sem] theorem ty_965 : isIf Tryd.prog 188 = false := by kernel_rfl
@[go_sem] theorem ty_966 : (Tryd.prog.underlying 189).isSome = true := by kernel_rfl
@[go_sem] theorem ty_967 : tyI Tryd.prog 189 = some (false, 1) := by kernel_rfl
@[go_sem] theorem ty_968 : zI Tryd.prog 189 = some [.nilf] := by kernel_rfl
@[go_sem] theorem ty_969 : isIf Tryd.prog 189 = false := by kernel_rfl
@[go_sem] theorem ty_970 : (Tryd.prog.underlying 190).isSome = true := by kernel_rfl
@[go_sem] theorem ty_971 : tyI Tryd.prog 190 = some (false, 1) := by kernel_rfl
@[go_sem] theorem ty_972 : zI Tryd.prog 190 = some [.nilf] := by kernel_rfl
@[go_sem] theorem ty_973 : isIf Tryd.prog 190 = false := by kernel_rfl
@[go_sem] theorem ty_974 : (Tryd.prog.underlying 191).isSome = true := by kernel_rfl
@[go_sem] theorem ty_975 : tyI Tryd.prog 191 = some (false, 1) := by kernel_rfl
@[go_sem] theorem ty_976 : zI Tryd.prog 191 = some [.nilf] := by kernel_rfl
@[go_sem] theorem ty_977 : isIf Tryd.prog 191 = false := by kernel_rfl
@[go_sem] theorem ty_978 : (Tryd.prog.underlying 192).isSome = true := by kernel_rfl
@[go_sem] theorem ty_979 : tyI Tryd.prog 192 = some (false, 1) := by kernel_rfl
@[go_sem] theorem ty_980 : zI Tryd.prog 192 = some [.nilf] := by kernel_rfl
@[go_sem] theorem ty_981 : isIf Tryd.prog 192 = false := by kernel_rfl
@[go_sem] theorem ty_982 : (Tryd.prog.underlying 193).isSome = true := by kernel_rfl
@[go_sem] theorem ty_983 : tyI Tryd.prog 193 = some (false, 1) := by kernel_rfl
@[go_sem] theorem ty_984 : zI Tryd.prog 193 = some [.nilf] := by kernel_rfl
@[go_sem] theorem ty_985 : isIf Tryd.prog 193 = false := by kernel_rfl
@[go_sem] theorem ty_986 : (Tryd.prog.underlying 194).isSome = true := by kernel_rfl
@[go_sem] theorem ty_987 : tyI Tryd.prog 194 = some (false, 1) := by kernel_rfl
@[go_sem] theorem ty_988 : isIf Tryd.prog 194 = false := by kernel_rfl
@[go_sem] theorem ty_989 : (Tryd.prog.underlying 195).isSome = true := by kernel_rfl
@[go_sem] theorem ty_990 : tyI Tryd.prog 195 = some (false, 1) := by kernel_rfl
@[go_sem] theorem ty_991 : zI Tryd.prog 195 = some [.nilf] := by kernel_rfl
@[go_sem] theorem ty_992 : isIf Tryd.prog 195 = false := by kernel_rfl
@[go_sem] theorem ty_993 : (Tryd.prog.underlying 196).isSome = true := by kernel_rfl
@[go_sem] theorem ty_994 : tyI Tryd.prog 196 = some (false, 1) := by kernel_rfl
@[go_sem] theorem ty_995 : isIf Tryd.prog 196 = false := by kernel_rfl
@[go_sem] theorem ty_996 : (Tryd.prog.underlying 197).isSome = true := by kernel_rfl
@[go_sem] theorem ty_997 : tyI Tryd.prog 197 = some (false, 1) := by kernel_rfl
@[go_sem] theorem ty_998 : zI Tryd.prog 197 = some [.nilf] := by kernel_rfl
@[go_sem] theorem ty_999 : isIf Tryd.prog 197 = false := by kernel_rfl
@[go_sem] theorem ty_1000 : (Tryd.prog.underlying 198).isSome = true := by kernel_rfl
@[go_sem] theorem ty_1001 : tyI Tryd.prog 198 = some (false, 1) := by kernel_rfl
@[go_sem] theorem ty_1002 : zI Tryd.prog 198 = some [.nilf] := by kernel_rfl
@[go_sem] theorem ty_1003 : isIf Tryd.prog 198 = false := by kernel_rfl
@[go_sem] theorem ty_1004 : (Tryd.prog.underlying 199).isSome = true := by kernel_rfl
@[go_sem] theorem ty_1005 : tyI Tryd.prog 199 = some (false, 1) := by kernel_rfl
@[go_sem] theorem ty_1006 : zI Tryd.prog 199 = some [.nilf] := by kernel_rfl
@[go_sem] theorem ty_1007 : isIf Tryd.prog 199 = false := by kernel_rfl
@[go_sem] theorem ty_1008 : (Tryd.prog.underlying 200).isSome = true := by kernel_rfl
@[go_sem] theorem ty_1009 : tyI Tryd.prog 200 = some (false, 1) := by kernel_rfl
@[go_sem] theorem ty_1010 : slI Tryd.prog 200 = some (72, 2, 32) := by kernel_rfl
@[go_sem] theorem ty_1011 : zI Tryd.prog 200 = some [.nils] := by kernel_rfl
@[go_sem] theorem ty_1012 : isIf Tryd.prog 200 = false := by kernel_rfl
@[go_sem] theorem ty_1013 : isBytes Tryd.prog 200 = false := by kernel_rfl
@[go_sem] theorem ty_1014 : (Tryd.prog.underlying 201).isSome = true := by kernel_rfl
@[go_sem] theorem ty_1015 : tyI Tryd.prog 201 = some (false, 1) := by kernel_rfl
@[go_sem] theorem ty_1016 : isIf Tryd.prog 201 = false := by kernel_rfl
@[go_sem] theorem ty_1017 : (Tryd.prog.underlying 202).isSome = true := by kernel_rfl
@[go_sem] theorem ty_1018 : tyI Tryd.prog 202 = some (false, 1) := by kernel_rfl
@[go_sem] theorem ty_1019 : zI Tryd.prog 202 = some [.nilf] := by kernel_rfl
@[go_sem] theorem ty_1020 : isIf Tryd.prog 202 = false := by kernel_rfl
@[go_sem] theorem ty_1021 : (Tryd.prog.underlying 203).isSome = true := by kernel_rfl
@[go_sem] theorem ty_1022 : tyI Tryd.prog 203 = some (false, 1) := by kernel_rfl
@[go_sem] theorem ty_1023 : zI Tryd.prog 203 = some [.nilf] := by kernel_rfl
@[go_sem] theorem ty_1024 : isIf Tryd.prog 203 = false := by kernel_rfl
@[go_sem] theorem ty_1025 : (Tryd.prog.underlying 204).isSome = true := by kernel_rfl
@[go_sem] theorem ty_1026 : tyI Tryd.prog 204 = some (true, 3) := by kernel_rfl
@[go_sem] theorem ty_1027 : arI Tryd.prog 204 = some (3, 1, false) := by kernel_rfl
@[go_sem] theorem ty_1028 : bdI Tryd.prog 204 = some ([.d (.str []), .d (.str []), .d (.str [])], [(0, 1), (1, 1), (2, 1)]) := by kernel_rfl
@[go_sem] theorem ty_1029 : zI Tryd.prog 204 = some [.d (.str []), .d (.str []), .d (.str [])] := by kernel_rfl
@[go_sem] theorem ty_1030 : isIf Tryd.prog 204 = false := by kernel_rfl
@[go_sem] theorem ty_1031 : (Tryd.prog.underlying 205).isSome = true := by kernel_rfl
@[go_sem] theorem ty_1032 : tyI Tryd.prog 205 = some (false, 1) := by kernel_rfl
@[go_sem] theorem ty_1033 : zI Tryd.prog 205 = some [.nilf] := by kernel_rfl
@[go_sem] theorem ty_1034 : isIf Tryd.prog 205 = false := by kernel_rfl
@[go_sem] theorem ty_1035 : (Tryd.prog.underlying 206).isSome = true := by kernel_rfl
@[go_sem] theorem ty_1036 : tyI Tryd.prog 206 = some (false, 1) := by kernel_rfl
@[go_sem] theorem ty_1037 : intI Tryd.prog 206 = some .u64 := by kernel_rfl
@[go_sem] theorem ty_1038 : zI Tryd.prog 206 = some [.d (.int .u64 0)] := by kernel_rfl
@[go_sem] theorem ty_1039 : isIf Tryd.prog 206 = false := by kernel_rfl
@[go_sem] theorem ty_1040 : (Tryd.prog.underlying 207).isSome = true := by kernel_rfl
@[go_sem] theorem ty_1041 : tyI Tryd.prog 207 = some (false, 1) := by kernel_rfl
@[go_sem] theorem ty_1042 : zI Tryd.prog 207 = some [.nilf] := by kernel_rfl
@[go_sem] theorem ty_1043 : isIf Tryd.prog 207 = false := by kernel_rfl
@[go_sem] theorem ty_1044 : (Tryd.prog.underlying 208).isSome = true := by kernel_rfl
@[go_sem] theorem ty_1045 : tyI Tryd.prog 208 = some (false, 1) := by kernel_rfl
@[go_sem] theorem ty_1046 : zI Tryd.prog 208 = some [.nilf] := by kernel_rfl
@[go_sem] theorem ty_1047 : isIf Tryd.prog 208 = false := by kernel_rfl
@[go_sem] theorem ty_1048 : (Tryd.prog.underlying 209).isSome = true := by kernel_rfl
@[go_sem] theorem ty_1049 : tyI Tryd.prog 209 = some (false, 1) := by kernel_rfl
@[go_sem] theorem ty_1050 : zI Tryd.prog 209 = some [.nilf] := by kernel_rfl
@[go_sem] theorem ty_1051 : isIf Tryd.prog 209 = false := by kernel_rfl
@[go_sem] theorem ty_1052 : (Tryd.prog.underlying 210).isSome = true := by kernel_rfl
@[go_sem] theorem ty_1053 : tyI Tryd.prog 210 = some (false, 1) := by kernel_rfl
@[go_sem] theorem ty_1054 : zI Tryd.prog 210 = some [.nilf] := by kernel_rfl
@[go_sem] theorem ty_1055 : isIf Tryd.prog 210 = false := by kernel_rfl
@[go_sem] theorem ty_1056 : (Tryd.prog.underlying 211).isSome = true := by kernel_rfl
@[go_sem] theorem ty_1057 : tyI Tryd.prog 211 = some (false, 1) := by kernel_rfl
@[go_sem] theorem ty_1058 : slI Tryd.prog 211 = some (215, 3, 3) := by kernel_rfl
@[go_sem] theorem ty_1059 : zI Tryd.prog 211 = some [.nils] := by kernel_rfl
@[go_sem] theorem ty_1060 : isIf Tryd.prog 211 = false := by kernel_rfl
@[go_sem] theorem ty_1061 : isBytes Tryd.prog 211 = false := by kernel_rfl
@[go_sem] theorem ty_1062 : (Tryd.prog.underlying 212).isSome = true := by kernel_rfl
@[go_sem] theorem ty_1063 : tyI Tryd.prog 212 = some (false, 1) := by kernel_rfl
@[go_sem] theorem ty_1064 : zI Tryd.prog 212 = some [.nilf] := by kernel_rfl
@[go_sem] theorem ty_1065 : isIf Tryd.prog 212 = false := by kernel_rfl
@[go_sem] theorem ty_1066 : (Tryd.prog.underlying 213).isSome = true := by kernel_rfl
@[go_sem] theorem ty_1067 : tyI Tryd.prog 213 = some (false, 1) := by kernel_rfl
@[go_sem] theorem ty_1068 : zI Tryd.prog 213 = some [.nilf] := by kernel_rfl
@[go_sem] theorem ty_1069 : isIf Tryd.prog 213 = false := by kernel_rfl
@[go_sem] theorem ty_1070 : (Tryd.prog.underlying 214).isSome = true := by kernel_rfl
@[go_sem] theorem ty_1071 : tyI Tryd.prog 214 = some (true, 3) := by kernel_rfl
@[go_sem] theorem ty_1072 : fdI Tryd.prog 214 0 = some (0, 1, false) := by kernel_rfl
@[go_sem] theorem ty_1073 : fdI Tryd.prog 214 1 = some (1, 1, false) := by kernel_rfl
@[go_sem] theorem ty_1074 : fdI Tryd.prog 214 2 = some (2, 1, false) := by kernel_rfl
@[go_sem] theorem ty_1075 : bdI Tryd.prog 214 = some ([.d (.int .u8 0), .d (.bool false), .d (.bool false)], [(0, 1), (1, 1), (2, 1)]) := by kernel_rfl
@[go_sem] theorem ty_1076 : zI Tryd.prog 214 = some [.d (.int .u8 0), .d (.bool false), .d (.bool false)] := by kernel_rfl
@[go_sem] theorem ty_1077 : eqI Tryd.prog 214 = some [1, 2, 2] := by kernel_rfl
@[go_sem] theorem ty_1078 : isIf Tryd.prog 214 = false := by kernel_rfl
@[go_sem] theorem ty_1079 : (Tryd.prog.underlying 215).isSome = true := by kernel_rfl
@[go_sem] theorem ty_1080 : tyI Tryd.prog 215 = some (true, 3) := by kernel_rfl
@[go_sem] theorem ty_1081 : fdI Tryd.prog 215 0 = some (0, 1, false) := by kernel_rfl
@[go_sem] theorem ty_1082 : fdI Tryd.prog 215 1 = some (1, 1, false) := by kernel_rfl
@[go_sem] theorem ty_1083 : fdI Tryd.prog 215 2 = some (2, 1, false) := by kernel_rfl
@[go_sem] theorem ty_1084 : bdI Tryd.prog 215 = some ([.d (.int .u8 0), .d (.bool false), .d (.bool false)], [(0, 1), (1, 1), (2, 1)]) := by kernel_rfl
@[go_sem] theorem ty_1085 : zI Tryd.prog 215 = some [.d (.int .u8 0), .d (.bool false), .d (.bool false)] := by kernel_rfl
@[go_sem] theorem ty_1086 : eqI Tryd.prog 215 = some [1, 2, 2] := by kernel_rfl
@[go_sem] theorem ty_1087 : isIf Tryd.prog 215 = false := by kernel_rfl
@[go_sem] theorem ty_1088 : (Tryd.prog.underlying 216).isSome = true := by kernel_rfl
@[go_sem] theorem ty_1089 : tyI Tryd.prog 216 = some (false, 1) := by kernel_rfl
@[go_sem] theorem ty_1090 : zI Tryd.prog 216 = some [.nilf] := by kernel_rfl
@[go_sem] theorem ty_1091 : isIf Tryd.prog 216 = false := by kernel_rfl
@[go_sem] theorem ty_1092 : (Tryd.prog.underlying 217).isSome = true := by kernel_rfl
@[go_sem] theorem ty_1093 : tyI Tryd.prog 217 = some (false, 1) := by kernel_rfl
@[go_sem] theorem ty_1094 : isIf Tryd.prog 217 = false := by kernel_rfl
@[go_sem] theorem ty_1095 : (Tryd.prog.underlying 218).isSome = true := by kernel_rfl
@[go_sem] theorem ty_1096 : tyI Tryd.prog 218 = some (false, 1) := by kernel_rfl
@[go_sem] theorem ty_1097 : zI Tryd.prog 218 = some [.nilf] := by kernel_rfl
@[go_sem] theorem ty_1098 : isIf Tryd.prog 218 = false := by kernel_rfl
@[go_sem] theorem ty_1099 : (Tryd.prog.underlying 219).isSome = true := by kernel_rfl
@[go_sem] theorem ty_1100 : tyI Tryd.prog 219 = some (false, 1) := by kernel_rfl
@[go_sem] theorem ty_1101 : zI Tryd.prog 219 = some [.nilf] := by kernel_rfl
@[go_sem] theorem ty_1102 : isIf Tryd.prog 219 = false := by kernel_rfl
@[go_sem] theorem ty_1103 : (Tryd.prog.underlying 220).isSome = true := by kernel_rfl
@[go_sem] theorem ty_1104 : tyI Tryd.prog 220 = some (false, 1) := by kernel_rfl
@[go_sem] theorem ty_1105 : zI Tryd.prog 220 = some [.nilf] := by kernel_rfl
@[go_sem] theorem ty_1106 : isIf Tryd.prog 220 = false := by kernel_rfl
@[go_sem] theorem ty_1107 : (Tryd.prog.underlying 221).isSome = true := by kernel_rfl
@[go_sem] theorem ty_1108 : tyI Tryd.prog 221 = some (false, 1) := by kernel_rfl
@[go_sem] theorem ty_1109 : zI Tryd.prog 221 = some [.nilp] := by kernel_rfl
@[go_sem] theorem ty_1110 : isIf Tryd.prog 221 = false := by kernel_rfl
@[go_sem] theorem ty_1111 : (Tryd.prog.underlying 222).isSome = true := by kernel_rfl
@[go_sem] theorem ty_1112 : tyI Tryd.prog 222 = some (false, 1) := by kernel_rfl
@[go_sem] theorem ty_1113 : zI Tryd.prog 222 = some [.nilf] := by kernel_rfl
@[go_sem] theorem ty_1114 : isIf Tryd.prog 222 = false := by kernel_rfl
@[go_sem] theorem ty_1115 : (Tryd.prog.underlying 223).isSome = true := by kernel_rfl
@[go_sem] theorem ty_1116 : tyI Tryd.prog 223 = some (false, 1) := by kernel_rfl
@[go_sem] theorem ty_1117 : isIf Tryd.prog 223 = false := by kernel_rfl
@[go_sem] theorem ty_1118 : (Tryd.prog.underlying 224).isSome = true := by kernel_rfl
@[go_sem] theorem ty_1119 : tyI Tryd.prog 224 = some (false, 1) := by kernel_rfl
@[go_sem] theorem ty_1120 : zI Tryd.prog 224 = some [.nilf] := by kernel_rfl
@[go_sem] theorem ty_1121 : isIf Tryd.prog 224 = false := by kernel_rfl
@[go_sem] theorem ty_1122 : (Tryd.prog.underlying 225).isSome = true := by kernel_rfl
@[go_sem] theorem ty_1123 : tyI Tryd.prog 225 = some (false, 1) := by kernel_rfl
@[go_sem] theorem ty_1124 : zI Tryd.prog 225 = some [.nilf] := by kernel_rfl
@[go_sem] theorem ty_1125 : isIf Tryd.prog 225 = false := by kernel_rfl
@[go_sem] theorem ty_1126 : (Tryd.prog.underlying 226).isSome = true := by kernel_rfl
@[go_sem] theorem ty_1127 : tyI Tryd.prog 226 = some (false, 1) := by kernel_rfl
@[go_sem] theorem ty_1128 : zI Tryd.prog 226 = some [.nilf] := by kernel_rfl
@[go_sem] theorem ty_1129 : isIf Tryd.prog 226 = false := by kernel_rfl
@[go_sem] theorem ty_1130 : (Tryd.prog.underlying 227).isSome = true := by kernel_rfl
@[go_sem] theorem ty_1131 : tyI Tryd.prog 227 = some (false, 1) := by kernel_rfl
@[go_sem] theorem ty_1132 : zI Tryd.prog 227 = some [.nilf] := by kernel_rfl
@[go_sem] theorem ty_1133 : isIf Tryd.prog 227 = false := by kernel_rfl
@[go_sem] theorem ty_1134 : (Tryd.prog.underlying 228).isSome = true := by kernel_rfl
@[go_sem] theorem ty_1135 : tyI Tryd.prog 228 = some (false, 1) := by kernel_rfl
@[go_sem] theorem ty_1136 : zI Tryd.prog 228 = some [.nilf] := by kernel_rfl
@[go_sem] theorem ty_1137 : isIf Tryd.prog 228 = false := by kernel_rfl
@[go_sem] theorem ty_1138 : (Tryd.prog.underlying 229).isSome = true := by kernel_rfl
@[go_sem] theorem ty_1139 : tyI Tryd.prog 229 = some (false, 1) := by kernel_rfl
@[go_sem] theorem ty_1140 : zI Tryd.prog 229 = some [.nilf] := by kernel_rfl
@[go_sem] theorem ty_1141 : isIf Tryd.prog 229 = false := by kernel_rfl
@[go_sem] theorem ty_1142 : (Tryd.prog.underlying 230).isSome = true := by kernel_rfl
@[go_sem] theorem ty_1143 : tyI Tryd.prog 230 = some (false, 1) := by kernel_rfl
@[go_sem] theorem ty_1144 : zI Tryd.prog 230 = some [.nilf] := by kernel_rfl
@[go_sem] theorem ty_1145 : isIf Tryd.prog 230 = false := by kernel_rfl
@[go_sem] theorem ty_1146 : (Tryd.prog.underlying 231).isSome = true := by kernel_rfl
@[go_sem] theorem ty_1147 : tyI Tryd.prog 231 = some (false, 1) := by kernel_rfl
@[go_sem] theorem ty_1148 : zI Tryd.prog 231 = some [.nilf] := by kernel_rfl
@[go_sem] theorem ty_1149 : isIf Tryd.prog 231 = false := by kernel_rfl
@[go_sem] theorem ty_1150 : (Tryd.prog.underlying 232).isSome = true := by kernel_rfl
@[go_sem] theorem ty_1151 : tyI Tryd.prog 232 = some (false, 1) := by kernel_rfl
@[go_sem] theorem ty_1152 : zI Tryd.prog 232 = some [.nilf] := by kernel_rfl
@[go_sem] theorem ty_1153 : isIf Tryd.prog 232 = false := by kernel_rfl
@[go_sem] theorem ty_1154 : (Tryd.prog.underlying 233).isSome = true := by kernel_rfl
@[go_sem] theorem ty_1155 : tyI Tryd.prog 233 = some (false, 1) := by kernel_rfl
@[go_sem] theorem ty_1156 : zI Tryd.prog 233 = some [.nilf] := by kernel_rfl
@[go_sem] theorem ty_1157 : isIf Tryd.prog 233 = false := by kernel_rfl
@[go_sem] theorem ty_1158 : (Tryd.prog.underlying 234).isSome = true := by kernel_rfl
@[go_sem] theorem ty_1159 : tyI Tryd.prog 234 = some (false, 1) := by kernel_rfl
@[go_sem] theorem ty_1160 : zI Tryd.prog 234 = some [.nilf] := by kernel_rfl
@[go_sem] theorem ty_1161 : isIf Tryd.prog 234 = false := by kernel_rfl
@[go_sem] theorem ty_1162 : (Tryd.prog.underlying 235).isSome = true := by kernel_rfl
@[go_sem] theorem ty_1163 : tyI Tryd.prog 235 = some (false, 1) := by kernel_rfl
@[go_sem] theorem ty_1164 : zI Tryd.prog 235 = some [.nilf] := by kernel_rfl
@[go_sem] theorem ty_1165 : isIf Tryd.prog 235 = false := by kernel_rfl
@[go_sem] theorem ty_1166 : (Tryd.prog.underlying 236).isSome = true := by kernel_rfl
@[go_sem] theorem ty_1167 : tyI Tryd.prog 236 = some (false, 1) := by kernel_rfl
@[go_sem] theorem ty_1168 : zI Tryd.prog 236 = some [.nilf] := by kernel_rfl
@[go_sem] theorem ty_1169 : isIf Tryd.prog 236 = false := by kernel_rfl
@[go_sem] theorem ty_1170 : (Tryd.prog.underlying 237).isSome = true := by kernel_rfl
@[go_sem] theorem ty_1171 : tyI Tryd.prog 237 = some (false, 1) := by kernel_rfl
@[go_sem] theorem ty_1172 : zI Tryd.prog 237 = some [.nilf] := by kernel_rfl
@[go_sem] theorem ty_1173 : isIf Tryd.prog 237 = false := by kernel_rfl
@[go_sem] theorem ty_1174 : (Tryd.prog.underlying 238).isSome = true := by kernel_rfl
@[go_sem] theorem ty_1175 : tyI Tryd.prog 238 = some (false, 1) := by kernel_rfl
@[go_sem] theorem ty_1176 : zI Tryd.prog 238 = some [.nilf] := by kernel_rfl
@[go_sem] theorem ty_1177 : isIf Tryd.prog 238 = false := by kernel_rfl
@[go_sem] theorem ty_1178 : (Tryd.prog.underlying 239).isSome = true := by kernel_rfl
@[go_sem] theorem ty_1179 : tyI Tryd.prog 239 = some (false, 1) := by kernel_rfl
@[go_sem] theorem ty_1180 : zI Tryd.prog 239 = some [.nilf] := by kernel_rfl
@[go_sem] theorem ty_1181 : isIf Tryd.prog 239 = false := by kernel_rfl
@[go_sem] theorem ty_1182 : (Tryd.prog.underlying 240).isSome = true := by kernel_rfl
@[go_sem] theorem ty_1183 : tyI Tryd.prog 240 = some (false, 1) := by kernel_rfl
@[go_sem] theorem ty_1184 : zI Tryd.prog 240 = some [.nilf] := by kernel_rfl
@[go_sem] theorem ty_1185 : isIf Tryd.prog 240 = false := by kernel_rfl
@[go_sem] theorem ty_1186 : (Tryd.prog.underlying 241).isSome = true := by kernel_rfl
@[go_sem] theorem ty_1187 : tyI Tryd.prog 241 = some (false, 1) := by kernel_rfl
@[go_sem] theorem ty_1188 : zI Tryd.prog 241 = some [.nilf] := by kernel_rfl
@[go_sem] theorem ty_1189 : isIf Tryd.prog 241 = false := by kernel_rfl
@[go_sem] theorem ty_1190 : (Tryd.prog.underlying 242).isSome = true := by kernel_rfl
@[go_sem] theorem ty_1191 : tyI Tryd.prog 242 = some (false, 1) := by kernel_rfl
@[go_sem] theorem ty_1192 : zI Tryd.prog 242 = some [.nilf] := by kernel_rfl
@[go_sem] theorem ty_1193 : isIf Tryd.prog 242 = false := by kernel_rfl
@[go_sem] theorem ty_1194 : (Tryd.prog.underlying 243).isSome = true := by kernel_rfl
@[go_sem] theorem ty_1195 : tyI Tryd.prog 243 = some (false, 1) := by kernel_rfl
@[go_sem] theorem ty_1196 : zI Tryd.prog 243 = some [.nilf] := by kernel_rfl
@[go_sem] theorem ty_1197 : isIf Tryd.prog 243 = false := by kernel_rfl
@[go_sem] theorem ty_1198 : (Tryd.prog.underlying 244).isSome = true := by kernel_rfl
@[go_sem] theorem ty_1199 : tyI Tryd.prog 244 = some (false, 1) := by kernel_rfl
@[go_sem] theorem ty_1200 : isIf Tryd.prog 244 = false := by kernel_rfl
@[go_sem] theorem ty_1201 : (Tryd.prog.underlying 245).isSome = true := by kernel_rfl
@[go_sem] theorem ty_1202 : tyI Tryd.prog 245 = some (false, 1) := by kernel_rfl
@[go_sem] theorem ty_1203 : zI Tryd.prog 245 = some [.nilf] := by kernel_rfl
@[go_sem] theorem ty_1204 : isIf Tryd.prog 245 = false := by kernel_rfl
@[go_sem] theorem ty_1205 : (Tryd.prog.underlying 246).isSome = true := by kernel_rfl
@[go_sem] theorem ty_1206 : tyI Tryd.prog 246 = some (false, 1) := by kernel_rfl
@[go_sem] theorem ty_1207 : isIf Tryd.prog 246 = false := by kernel_rfl
@[go_sem] theorem ty_1208 : (Tryd.prog.underlying 247).isSome = true := by kernel_rfl
@[go_sem] theorem ty_1209 : tyI Tryd.prog 247 = some (false, 1) := by kernel_rfl
@[go_sem] theorem ty_1210 : zI Tryd.prog 247 = some [.nilf] := by kernel_rfl
@[go_sem] theorem ty_1211 : isIf Tryd.prog 247 = false := by kernel_rfl
@[go_sem] theorem ty_1212 : (Tryd.prog.underlying 248).isSome = true := by kernel_rfl
@[go_sem] theorem ty_1213 : tyI Tryd.prog 248 = some (false, 1) := by kernel_rfl
@[go_sem] theorem ty_1214 : zI Tryd.prog 248 = some [.nilf] := by kernel_rfl
@[go_sem] theorem ty_1215 : isIf Tryd.prog 248 = false := by kernel_rfl
@[go_sem] theorem ty_1216 : (Tryd.prog.underlying 249).isSome = true := by kernel_rfl
@[go_sem] theorem ty_1217 : tyI Tryd.prog 249 = some (false, 1) := by kernel_rfl
@[go_sem] theorem ty_1218 : slI Tryd.prog 249 = some (255, 4, 24) := by kernel_rfl
@[go_sem] theorem ty_1219 : zI Tryd.prog 249 = some [.nils] := by kernel_rfl
@[go_sem] theorem ty_1220 : isIf Tryd.prog 249 = false := by kernel_rfl
@[go_sem] theorem ty_1221 : isBytes Tryd.prog 249 = false := by kernel_rfl
@[go_sem] theorem ty_1222 : (Tryd.prog.underlying 250).isSome = true := by kernel_rfl
@[go_sem] theorem ty_1223 : tyI Tryd.prog 250 = some (false, 1) := by kernel_rfl
@[go_sem] theorem ty_1224 : isIf Tryd.prog 250 = false := by kernel_rfl
@[go_sem] theorem ty_1225 : (Tryd.prog.underlying 251).isSome = true := by kernel_rfl
@[go_sem] theorem ty_1226 : tyI Tryd.prog 251 = some (false, 1) := by kernel_rfl
@[go_sem] theorem ty_1227 : zI Tryd.prog 251 = some [.nilf] := by kernel_rfl
@[go_sem] theorem ty_1228 : isIf Tryd.prog 251 = false := by kernel_rfl
@[go_sem] theorem ty_1229 : (Tryd.prog.underlying 252).isSome = true := by kernel_rfl
@[go_sem] theorem ty_1230 : tyI Tryd.prog 252 = some (false, 1) := by kernel_rfl
@[go_sem] theorem ty_1231 : isIf Tryd.prog 252 = false := by kernel_rfl
@[go_sem] theorem ty_1232 : (Tryd.prog.underlying 253).isSome = true := by kernel_rfl
@[go_sem] theorem ty_1233 : tyI Tryd.prog 253 = some (false, 1) := by kernel_rfl
@[go_sem] theorem ty_1234 : zI Tryd.prog 253 = some [.nilf] := by kernel_rfl
@[go_sem] theorem ty_1235 : isIf Tryd.prog 253 = false := by kernel_rfl
@[go_sem] theorem ty_1236 : (Tryd.prog.underlying 254).isSome = true := by kernel_rfl
@[go_sem] theorem ty_1237 : tyI Tryd.prog 254 = some (true, 4) := by kernel_rfl
@[go_sem] theorem ty_1238 : fdI Tryd.prog 254 0 = some (0, 1, false) := by kernel_rfl
@[go_sem] theorem ty_1239 : fdI Tryd.prog 254 1 = some (1, 1, false) := by kernel_rfl
@[go_sem] theorem ty_1240 : fdI Tryd.prog 254 2 = some (2, 1, false) := by kernel_rfl
@[go_sem] theorem ty_1241 : fdI Tryd.prog 254 3 = some (3, 1, false) := by kernel_rfl
@[go_sem] theorem ty_1242 : bdI Tryd.prog 254 = some ([.d (.str []), .d (.bool false), .d (.bool false), .d (.bool false)], [(0, 1), (1, 1), (2, 1), (3, 1)]) := by kernel_rfl
@[go_sem] theorem ty_1243 : zI Tryd.prog 254 = some [.d (.str []), .d (.bool false), .d (.bool false), .d (.bool false)] := by kernel_rfl
@[go_sem] theorem ty_1244 : eqI Tryd.prog 254 = some [3, 2, 2, 2] := by kernel_rfl
@[go_sem] theorem ty_1245 : isIf Tryd.prog 254 = false := by kernel_rfl
@[go_sem] theorem ty_1246 : (Tryd.prog.underlying 255).isSome = true := by kernel_rfl
@[go_sem] theorem ty_1247 : tyI Tryd.prog 255 = some (true, 4) := by kernel_rfl
@[go_sem] theorem ty_1248 : fdI Tryd.prog 255 0 = some (0, 1, false) := by kernel_rfl
@[go_sem] theorem ty_1249 : fdI Tryd.prog 255 1 = some (1, 1, false) := by kernel_rfl
@[go_sem] theorem ty_1250 : fdI Tryd.prog 255 2 = some (2, 1, false) := by kernel_rfl
@[go_sem] theorem ty_1251 : fdI Tryd.prog 255 3 = some (3, 1, false) := by kernel_rfl
@[go_sem] theorem ty_1252 : bdI Tryd.prog 255 = some ([.d (.str []), .d (.bool false), .d (.bool false), .d (.bool false)], [(0, 1), (1, 1), (2, 1), (3, 1)]) := by kernel_rfl
@[go_sem] theorem ty_1253 : zI Tryd.prog 255 = some [.d (.str []), .d (.bool false), .d (.bool false), .d (.bool false)] := by kernel_rfl
@[go_sem] theorem ty_1254 : eqI Tryd.prog 255 = some [3, 2, 2, 2] := by kernel_rfl
@[go_sem] theorem ty_1255 : isIf Tryd.prog 255 = false := by kernel_rfl
@[go_sem] theorem ty_1256 : (Tryd.prog.underlying 256).isSome = true := by kernel_rfl
@[go_sem] theorem ty_1257 : tyI Tryd.prog 256 = some (false, 1) := by kernel_rfl
@[go_sem] theorem ty_1258 : zI Tryd.prog 256 = some [.nilf] := by kernel_rfl
@[go_sem] theorem ty_1259 : isIf Tryd.prog 256 = false := by kernel_rfl
@[go_sem] theorem ty_1260 : (Tryd.prog.underlying 257).isSome = true := by kernel_rfl
@[go_sem] theorem ty_1261 : tyI Tryd.prog 257 = some (true, 256) := by kernel_rfl
@[go_sem] theorem ty_1262 : arI Tryd.prog 257 = some (256, 1, false) := by kernel_rfl
@[go_sem] theorem ty_1263 : isIf Tryd.prog 257 = false := by kernel_rfl
@[go_sem] theorem ty_1264 : (Tryd.prog.underlying 258).isSome = true := by kernel_rfl
@[go_sem] theorem ty_1265 : tyI Tryd.prog 258 = some (true, 256) := by kernel_rfl
@[go_sem] theorem ty_1266 : arI Tryd.prog 258 = some (256, 1, false) := by kernel_rfl
@[go_sem] theorem ty_1267 : isIf Tryd.prog 258 = false := by kernel_rfl
@[go_sem] theorem ty_1268 : (Tryd.prog.underlying 259).isSome = true := by kernel_rfl
@[go_sem] theorem ty_1269 : tyI Tryd.prog 259 = some (false, 1) := by kernel_rfl
@[go_sem] theorem ty_1270 : isIf Tryd.prog 259 = false := by kernel_rfl
@[go_sem] theorem ty_1271 : (Tryd.prog.underlying 260).isSome = true := by kernel_rfl
@[go_sem] theorem ty_1272 : tyI Tryd.prog 260 = some (false, 1) := by kernel_rfl
@[go_sem] theorem ty_1273 : zI Tryd.prog 260 = some [.nilf] := by kernel_rfl
@[go_sem] theorem ty_1274 : isIf Tryd.prog 260 = false := by kernel_rfl
@[go_sem] theorem ty_1275 : (Tryd.prog.underlying 261).isSome = true := by kernel_rfl
@[go_sem] theorem ty_1276 : tyI Tryd.prog 261 = some (false, 1) := by kernel_rfl
@[go_sem] theorem ty_1277 : zI Tryd.prog 261 = some [.nilf] := by kernel_rfl
@[go_sem] theorem ty_1278 : isIf Tryd.prog 261 = false := by kernel_rfl
@[go_sem] theorem ty_1279 : (Tryd.prog.underlying 262).isSome = true := by kernel_rfl
@[go_sem] theorem ty_1280 : tyI Tryd.prog 262 = some (false, 1) := by kernel_rfl
@[go_sem] theorem ty_1281 : zI Tryd.prog 262 = some [.nilp] := by kernel_rfl
@[go_sem] theorem ty_1282 : isIf Tryd.prog 262 = false := by kernel_rfl
@[go_sem] theorem ty_1283 : (Tryd.prog.underlying 263).isSome = true := by kernel_rfl
@[go_sem] theorem ty_1284 : tyI Tryd.prog 263 = some (false, 1) := by kernel_rfl
@[go_sem] theorem ty_1285 : zI Tryd.prog 263 = some [.nilf] := by kernel_rfl
@[go_sem] theorem ty_1286 : isIf Tryd.prog 263 = false := by kernel_rfl
@[go_sem] theorem ty_1287 : (Tryd.prog.underlying 264).isSome = true := by kernel_rfl
@[go_sem] theorem ty_1288 : tyI Tryd.prog 264 = some (false, 1) := by kernel_rfl
@[go_sem] theorem ty_1289 : zI Tryd.prog 264 = some [.nilf] := by kernel_rfl
@[go_sem] theorem ty_1290 : isIf Tryd.prog 264 = false := by kernel_rfl
@[go_sem] theorem ty_1291 : (Tryd.prog.underlying 265).isSome = true := by kernel_rfl
@[go_sem] theorem ty_1292 : tyI Tryd.prog 265 = some (false, 1) := by kernel_rfl
@[go_sem] theorem ty_1293 : zI Tryd.prog 265 = some [.nilf] := by kernel_rfl
@[go_sem] theorem ty_1294 : isIf Tryd.prog 265 = false := by kernel_rfl
@[go_sem] theorem ty_1295 : (Tryd.prog.underlying 266).isSome = true := by kernel_rfl
@[go_sem] theorem ty_1296 : tyI Tryd.prog 266 = some (false, 1) := by kernel_rfl
@[go_sem] theorem ty_1297 : zI Tryd.prog 266 = some [.nilp] := by kernel_rfl
@[go_sem] theorem ty_1298 : isIf Tryd.prog 266 = false := by kernel_rfl
@[go_sem] theorem ty_1299 : (Tryd.prog.underlying 267).isSome = true := by kernel_rfl
@[go_sem] theorem ty_1300 : tyI Tryd.prog 267 = some (false, 1) := by kernel_rfl
@[go_sem] theorem ty_1301 : zI Tryd.prog 267 = some [.nilf] := by kernel_rfl
@[go_sem] theorem ty_1302 : isIf Tryd.prog 267 = false := by kernel_rfl
@[go_sem] theorem ty_1303 : (Tryd.prog.underlying 268).isSome = true := by kernel_rfl
@[go_sem] theorem ty_1304 : tyI Tryd.prog 268 = some (false, 1) := by kernel_rfl
@[go_sem] theorem ty_1305 : zI Tryd.prog 268 = some [.nilf] := by kernel_rfl
@[go_sem] theorem ty_1306 : isIf Tryd.prog 268 = false := by kernel_rfl
@[go_sem] theorem ty_1307 : (Tryd.prog.underlying 269).isSome = true := by kernel_rfl
@[go_sem] theorem ty_1308 : tyI Tryd.prog 269 = some (false, 1) := by kernel_rfl
@[go_sem] theorem ty_1309 : zI Tryd.prog 269 = some [.nilf] := by kernel_rfl
@[go_sem] theorem ty_1310 : isIf Tryd.prog 269 = false := by kernel_rfl
@[go_sem] theorem ty_1311 : (Tryd.prog.underlying 270).isSome = true := by kernel_rfl
@[go_sem] theorem ty_1312 : tyI Tryd.prog 270 = some (false, 1) := by kernel_rfl
@[go_sem] theorem ty_1313 : zI Tryd.prog 270 = some [.nilp] := by kernel_rfl
@[go_sem] theorem ty_1314 : isIf Tryd.prog 270 = false := by kernel_rfl
@[go_sem] theorem ty_1315 : (Tryd.prog.underlying 271).isSome = true := by kernel_rfl
@[go_sem] theorem ty_1316 : tyI Tryd.prog 271 = some (true, 2) := by kernel_rfl
@[go_sem] theorem ty_1317 : fdI Tryd.prog 271 0 = some (0, 1, false) := by kernel_rfl
@[go_sem] theorem ty_1318 : fdI Tryd.prog 271 1 = some (1, 1, false) := by kernel_rfl
@[go_sem] theorem ty_1319 : bdI Tryd.prog 271 = some ([.d (.str []), .d (.int .i64 0)], [(0, 1), (1, 1)]) := by kernel_rfl
@[go_sem] theorem ty_1320 : zI Tryd.prog 271 = some [.d (.str []), .d (.int .i64 0)] := by kernel_rfl
@[go_sem] theorem ty_1321 : eqI Tryd.prog 271 = some [3, 1] := by kernel_rfl
@[go_sem] theorem ty_1322 : isIf Tryd.prog 271 = false := by kernel_rfl
@[go_sem] theorem ty_1323 : (Tryd.prog.underlying 272).isSome = true := by kernel_rfl
@[go_sem] theorem ty_1324 : tyI Tryd.prog 272 = some (true, 2) := by kernel_rfl
@[go_sem] theorem ty_1325 : fdI Tryd.prog 272 0 = some (0, 1, false) := by kernel_rfl
@[go_sem] theorem ty_1326 : fdI Tryd.prog 272 1 = some (1, 1, false) := by kernel_rfl
@[go_sem] theorem ty_1327 : bdI Tryd.prog 272 = some ([.d (.str []), .d (.int .i64 0)], [(0, 1), (1, 1)]) := by kernel_rfl
@[go_sem] theorem ty_1328 : zI Tryd.prog 272 = some [.d (.str []), .d (.int .i64 0)] := by kernel_rfl
@[go_sem] theorem ty_1329 : eqI Tryd.prog 272 = some [3, 1] := by kernel_rfl
@[go_sem] theorem ty_1330 : isIf Tryd.prog 272 = false := by kernel_rfl
@[go_sem] theorem ty_1331 : (Tryd.prog.underlying 273).isSome = true := by kernel_rfl
@[go_sem] theorem ty_1332 : tyI Tryd.prog 273 = some (false, 1) := by kernel_rfl
@[go_sem] theorem ty_1333 : zI Tryd.prog 273 = some [.nilf] := by kernel_rfl
@[go_sem] theorem ty_1334 : isIf Tryd.prog 273 = false := by kernel_rfl
@[go_sem] theorem ty_1335 : (Tryd.prog.underlying 274).isSome = true := by kernel_rfl
@[go_sem] theorem ty_1336 : tyI Tryd.prog 274 = some (false, 1) := by kernel_rfl
@[go_sem] theorem ty_1337 : zI Tryd.prog 274 = some [.nilf] := by kernel_rfl
@[go_sem] theorem ty_1338 : isIf Tryd.prog 274 = false := by kernel_rfl
@[go_sem] theorem ty_1339 : (Tryd.prog.underlying 275).isSome = true := by kernel_rfl
@[go_sem] theorem ty_1340 : tyI Tryd.prog 275 = some (false, 1) := by kernel_rfl
@[go_sem] theorem ty_1341 : zI Tryd.prog 275 = some [.nilp] := by kernel_rfl
@[go_sem] theorem ty_1342 : isIf Tryd.prog 275 = false := by kernel_rfl
@[go_sem] theorem ty_1343 : (Tryd.prog.underlying 276).isSome = true := by kernel_rfl
@[go_sem] theorem ty_1344 : tyI Tryd.prog 276 = some (true, 4) := by kernel_rfl
@[go_sem] theorem ty_1345 : arI Tryd.prog 276 = some (4, 1, false) := by kernel_rfl
@[go_sem] theorem ty_1346 : bdI Tryd.prog 276 = some ([.d (.str []), .d (.str []), .d (.str []), .d (.str [])], [(0, 1), (1, 1), (2, 1), (3, 1)]) := by kernel_rfl
@[go_sem] theorem ty_1347 : zI Tryd.prog 276 = some [.d (.str []), .d (.str []), .d (.str []), .d (.str [])] := by kernel_rfl
@[go_sem] theorem ty_1348 : isIf Tryd.prog 276 = false := by kernel_rfl
@[go_sem] theorem ty_1349 : (Tryd.prog.underlying 277).isSome = true := by kernel_rfl
@[go_sem] theorem ty_1350 : tyI Tryd.prog 277 = some (false, 1) := by kernel_rfl
@[go_sem] theorem ty_1351 : zI Tryd.prog 277 = some [.nilf] := by kernel_rfl
@[go_sem] theorem ty_1352 : isIf Tryd.prog 277 = false := by kernel_rfl
@[go_sem] theorem ty_1353 : (Tryd.prog.underlying 278).isSome = true := by kernel_rfl
@[go_sem] theorem ty_1354 : tyI Tryd.prog 278 = some (false, 1) := by kernel_rfl
@[go_sem] theorem ty_1355 : zI Tryd.prog 278 = some [.nilp] := by kernel_rfl
@[go_sem] theorem ty_1356 : isIf Tryd.prog 278 = false := by kernel_rfl
@[go_sem] theorem ty_1357 : (Tryd.prog.underlying 279).isSome = true := by kernel_rfl
@[go_sem] theorem ty_1358 : tyI Tryd.prog 279 = some (false, 1) := by kernel_rfl
@[go_sem] theorem ty_1359 : zI Tryd.prog 279 = some [.nilf] := by kernel_rfl
@[go_sem] theorem ty_1360 : isIf Tryd.prog 279 = false := by kernel_rfl
@[go_sem] theorem ty_1361 : (Tryd.prog.underlying 280).isSome = true := by kernel_rfl
@[go_sem] theorem ty_1362 : tyI Tryd.prog 280 = some (false, 1) := by kernel_rfl
@[go_sem] theorem ty_1363 : isIf Tryd.prog 280 = false := by kernel_rfl
@[go_sem] theorem ty_1364 : (Tryd.prog.underlying 281).isSome = true := by kernel_rfl
@[go_sem] theorem ty_1365 : tyI Tryd.prog 281 = some (false, 1) := by kernel_rfl
@[go_sem] theorem ty_1366 : zI Tryd.prog 281 = some [.nilf] := by kernel_rfl
@[go_sem] theorem ty_1367 : isIf Tryd.prog 281 = false := by kernel_rfl
@[go_sem] theorem ty_1368 : (Tryd.prog.underlying 282).isSome = true := by kernel_rfl
@[go_sem] theorem ty_1369 : tyI Tryd.prog 282 = some (false, 1) := by kernel_rfl
@[go_sem] theorem ty_1370 : zI Tryd.prog 282 = some [.nilf] := by kernel_rfl
@[go_sem] theorem ty_1371 : isIf Tryd.prog 282 = false := by kernel_rfl
@[go_sem] theorem ty_1372 : (Tryd.prog.underlying 283).isSome = true := by kernel_rfl
@[go_sem] theorem ty_1373 : tyI Tryd.prog 283 = some (false, 1) := by kernel_rfl
@[go_sem] theorem ty_1374 : zI Tryd.prog 283 = some [.nilf] := by kernel_rfl
@[go_sem] theorem ty_1375 : isIf Tryd.prog 283 = false := by kernel_rfl
@[go_sem] theorem ty_1376 : (Tryd.prog.underlying 284).isSome = true := by kernel_rfl
@[go_sem] theorem ty_1377 : tyI Tryd.prog 284 = some (false, 1) := by kernel_rfl
@[go_sem] theorem ty_1378 : zI Tryd.prog 284 = some [.nilf] := by kernel_rfl
@[go_sem] theorem ty_1379 : isIf Tryd.prog 284 = false := by kernel_rfl
@[go_sem] theorem ty_1380 : (Tryd.prog.underlying 285).isSome = true := by kernel_rfl
@[go_sem] theorem ty_1381 : tyI Tryd.prog 285 = some (true, 24) := by kernel_rfl
@[go_sem] theorem ty_1382 : arI Tryd.prog 285 = some (24, 1, false) := by kernel_rfl
@[go_sem] theorem ty_1383 : bdI Tryd.prog 285 = some ([.d (.int .u8 0), .d (.int .u8 0), .d (.int .u8 0), .d (.int .u8 0), .d (.int .u8 0), .d (.int .u8 0), .d (.int .u8 0), .d (.int .u8 0), .d (.int .u8 0), .d (.int .u8 0), .d (.int .u8 0), .d (.int .u8 0), .d (.int .u8 0), .d (.int .u8 0), .d (.int .u8 0), .d (.int .u8 0), .d (.int .u8 0), .d (.int .u8 0), .d (.int .u8 0), .d (.int .u8 0), .d (.int .u8 0), .d (.int .u8 0), .d (.int .u8 0), .d (.int .u8 0)], [(0, 1), (1, 1), (2, 1), (3, 1), (4, 1), (5, 1), (6, 1), (7, 1), (8, 1), (9, 1), (10, 1), (11, 1), (12, 1), (13, 1), (14, 1), (15, 1), (16, 1), (17, 1), (18, 1), (19, 1), (20, 1), (21, 1), (22, 1), (23, 1)]) := by kernel_rfl
@[go_sem] theorem ty_1384 : zI Tryd.prog 285 = some [.d (.int .u8 0), .d (.int .u8 0), .d (.int .u8 0), .d (.int .u8 0), .d (.int .u8 0), .d (.int .u8 0), .d (.int .u8 0), .d (.int .u8 0), .d (.int .u8 0), .d (.int .u8 0), .d (.int .u8 0), .d (.int .u8 0), .d (.int .u8 0), .d (.int .u8 0), .d (.int .u8 0), .d (.int .u8 0), .d (.int .u8 0), .d (.int .u8 0), .d (.int .u8 0), .d (.int .u8 0), .d (.int .u8 0), .d (.int .u8 0), .d (.int .u8 0), .d (.int .u8 0)] := by kernel_rfl
@[go_sem] theorem ty_1385 : isIf Tryd.prog 285 = false := by kernel_rfl
@[go_sem] theorem ty_1386 : (Tryd.prog.underlying 286).isSome = true := by kernel_rfl
@[go_sem] theorem ty_1387 : tyI Tryd.prog 286 = some (false, 1) := by kernel_rfl
@[go_sem] theorem ty_1388 : intI Tryd.prog 286 = some .u64 := by kernel_rfl
@[go_sem] theorem ty_1389 : zI Tryd.prog 286 = some [.d (.int .u64 0)] := by kernel_rfl
@[go_sem] theorem ty_1390 : isIf Tryd.prog 286 = false := by kernel_rfl
@[go_sem] theorem ty_1391 : (Tryd.prog.underlying 287).isSome = true := by kernel_rfl
@[go_sem] theorem ty_1392 : tyI Tryd.prog 287 = some (false, 1) := by kernel_rfl
@[go_sem] theorem ty_1393 : zI Tryd.prog 287 = some [.nilf] := by kernel_rfl
@[go_sem] theorem ty_1394 : isIf Tryd.prog 287 = false := by kernel_rfl
@[go_sem] theorem ty_1395 : (Tryd.prog.underlying 288).isSome = true := by kernel_rfl
@[go_sem] theorem ty_1396 : tyI Tryd.prog 288 = some (false, 1) := by kernel_rfl
@[go_sem] theorem ty_1397 : zI Tryd.prog 288 = some [.nilf] := by kernel_rfl
@[go_sem] theorem ty_1398 : isIf Tryd.prog 288 = false := by kernel_rfl
@[go_sem] theorem ty_1399 : (Tryd.prog.underlying 289).isSome = true := by kernel_rfl
@[go_sem] theorem ty_1400 : tyI Tryd.prog 289 = some (false, 1) := by kernel_rfl
@[go_sem] theorem ty_1401 : isIf Tryd.prog 289 = false := by kernel_rfl
@[go_sem] theorem ty_1402 : (Tryd.prog.underlying 290).isSome = true := by kernel_rfl
@[go_sem] theorem ty_1403 : tyI Tryd.prog 290 = some (false, 1) := by kernel_rfl
@[go_sem] theorem ty_1404 : zI Tryd.prog 290 = some [.nilf] := by kernel_rfl
@[go_sem] theorem ty_1405 : isIf Tryd.prog 290 = false := by kernel_rfl
@[go_sem] theorem ty_1406 : (Tryd.prog.underlying 291).isSome = true := by kernel_rfl
@[go_sem] theorem ty_1407 : tyI Tryd.prog 291 = some (false, 1) := by kernel_rfl
@[go_sem] theorem ty_1408 : zI Tryd.prog 291 = some [.nilf] := by kernel_rfl
@[go_sem] theorem ty_1409 : isIf Tryd.prog 291 = false := by kernel_rfl
@[go_sem] theorem ty_1410 : (Tryd.prog.underlying 292).isSome = true := by kernel_rfl
@[go_sem] theorem ty_1411 : tyI Tryd.prog 292 = some (false, 1) := by kernel_rfl
@[go_sem] theorem ty_1412 : zI Tryd.prog 292 = some [.nilf] := by kernel_rfl
@[go_sem] theorem ty_1413 : isIf Tryd.prog 292 = false := by kernel_rfl
@[go_sem] theorem ty_1414 : (Tryd.prog.underlying 293).isSome = true := by kernel_rfl
@[go_sem] theorem ty_1415 : tyI Tryd.prog 293 = some (false, 1) := by kernel_rfl
@[go_sem] theorem ty_1416 : zI Tryd.prog 293 = some [.nilf] := by kernel_rfl
@[go_sem] theorem ty_1417 : isIf Tryd.prog 293 = false := by kernel_rfl
@[go_sem] theorem ty_1418 : (Tryd.prog.underlying 294).isSome = true := by kernel_rfl
@[go_sem] theorem ty_1419 : tyI Tryd.prog 294 = some (false, 1) := by kernel_rfl
@[go_sem] theorem ty_1420 : zI Tryd.prog 294 = some [.nilf] := by kernel_rfl
@[go_sem] theorem ty_1421 : isIf Tryd.prog 294 = false := by kernel_rfl
@[go_sem] theorem ty_1422 : (Tryd.prog.underlying 295).isSome = true := by kernel_rfl
@[go_sem] theorem ty_1423 : tyI Tryd.prog 295 = some (true, 20) := by kernel_rfl
@[go_sem] theorem ty_1424 : arI Tryd.prog 295 = some (20, 1, false) := by kernel_rfl
@[go_sem] theorem ty_1425 : bdI Tryd.prog 295 = some ([.d (.int .u64 0), .d (.int .u64 0), .d (.int .u64 0), .d (.int .u64 0), .d (.int .u64 0), .d (.int .u64 0), .d (.int .u64 0), .d (.int .u64 0), .d (.int .u64 0), .d (.int .u64 0), .d (.int .u64 0), .d (.int .u64 0), .d (.int .u64 0), .d (.int .u64 0), .d (.int .u64 0), .d (.int .u64 0), .d (.int .u64 0), .d (.int .u64 0), .d (.int .u64 0), .d (.int .u64 0)], [(0, 1), (1, 1), (2, 1), (3, 1), (4, 1), (5, 1), (6, 1), (7, 1), (8, 1), (9, 1), (10, 1), (11, 1), (12, 1), (13, 1), (14, 1), (15, 1), (16, 1), (17, 1), (18, 1), (19, 1)]) := by kernel_rfl
@[go_sem] theorem ty_1426 : zI Tryd.prog 295 = some [.d (.int .u64 0), .d (.int .u64 0), .d (.int .u64 0), .d (.int .u64 0), .d (.int .u64 0), .d (.int .u64 0), .d (.int .u64 0), .d (.int .u64 0), .d (.int .u64 0), .d (.int .u64 0), .d (.int .u64 0), .d (.int .u64 0), .d (.int .u64 0), .d (.int .u64 0), .d (.int .u64 0), .d (.int .u64 0), .d (.int .u64 0), .d (.int .u64 0), .d (.int .u64 0), .d (.int .u64 0)] := by kernel_rfl
@[go_sem] theorem ty_1427 : isIf Tryd.prog 295 = false := by kernel_rfl
@[go_sem] theorem ty_1428 : (Tryd.prog.underlying 296).isSome = true := by kernel_rfl
@[go_sem] theorem ty_1429 : tyI Tryd.prog 296 = some (false, 1) := by kernel_rfl
@[go_sem] theorem ty_1430 : intI Tryd.prog 296 = some .u32 := by kernel_rfl
@[go_sem] theorem ty_1431 : zI Tryd.prog 296 = some [.d (.int .u32 0)] := by kernel_rfl
@[go_sem] theorem ty_1432 : isIf Tryd.prog 296 = false := by kernel_rfl
@[go_sem] theorem ty_1433 : (Tryd.prog.underlying 297).isSome = true := by kernel_rfl
@[go_sem] theorem ty_1434 : tyI Tryd.prog 297 = some (true, 65) := by kernel_rfl
@[go_sem] theorem ty_1435 : arI Tryd.prog 297 = some (65, 1, false) := by kernel_rfl
@[go_sem] theorem ty_1436 : isIf Tryd.prog 297 = false := by kernel_rfl
@[go_sem] theorem ty_1437 : (Tryd.prog.underlying 298).isSome = true := by kernel_rfl
@[go_sem] theorem ty_1438 : tyI Tryd.prog 298 = some (false, 1) := by kernel_rfl
@[go_sem] theorem ty_1439 : zI Tryd.prog 298 = some [.nilf] := by kernel_rfl
@[go_sem] theorem ty_1440 : isIf Tryd.prog 298 = false := by kernel_rfl
@[go_sem] theorem ty_1441 : (Tryd.prog.underlying 299).isSome = true := by kernel_rfl
@[go_sem] theorem ty_1442 : tyI Tryd.prog 299 = some (false, 1) := by kernel_rfl
@[go_sem] theorem ty_1443 : zI Tryd.prog 299 = some [.nilf] := by kernel_rfl
@[go_sem] theorem ty_1444 : isIf Tryd.prog 299 = false := by kernel_rfl
@[go_sem] theorem ty_1445 : (Tryd.prog.underlying 300).isSome = true := by kernel_rfl
@[go_sem] theorem ty_1446 : tyI Tryd.prog 300 = some (false, 1) := by kernel_rfl
@[go_sem] theorem ty_1447 : isIf Tryd.prog 300 = false := by kernel_rfl
@[go_sem] theorem ty_1448 : (Tryd.prog.underlying 301).isSome = true := by kernel_rfl
@[go_sem] theorem ty_1449 : tyI Tryd.prog 301 = some (false, 1) := by kernel_rfl
@[go_sem] theorem ty_1450 : zI Tryd.prog 301 = some [.nilf] := by kernel_rfl
@[go_sem] theorem ty_1451 : isIf Tryd.prog 301 = false := by kernel_rfl
@[go_sem] theorem ty_1452 : (Tryd.prog.underlying 302).isSome = true := by kernel_rfl
@[go_sem] theorem ty_1453 : tyI Tryd.prog 302 = some (true, 256) := by kernel_rfl
@[go_sem] theorem ty_1454 : arI Tryd.prog 302 = some (256, 1, false) := by kernel_rfl
@[go_sem] theorem ty_1455 : isIf Tryd.prog 302 = false := by kernel_rfl
@[go_sem] theorem ty_1456 : (Tryd.prog.underlying 303).isSome = true := by kernel_rfl
@[go_sem] theorem ty_1457 : tyI Tryd.prog 303 = some (true, 2) := by kernel_rfl
@[go_sem] theorem ty_1458 : fdI Tryd.prog 303 0 = some (0, 1, false) := by kernel_rfl
@[go_sem] theorem ty_1459 : fdI Tryd.prog 303 1 = some (1, 1, false) := by kernel_rfl
@[go_sem] theorem ty_1460 : bdI Tryd.prog 303 = some ([.d (.int .u8 0), .d (.int .u8 0)], [(0, 1), (1, 1)]) := by kernel_rfl
@[go_sem] theorem ty_1461 : zI Tryd.prog 303 = some [.d (.int .u8 0), .d (.int .u8 0)] := by kernel_rfl
@[go_sem] theorem ty_1462 : eqI Tryd.prog 303 = some [1, 1] := by kernel_rfl
@[go_sem] theorem ty_1463 : isIf Tryd.prog 303 = false := by kernel_rfl
@[go_sem] theorem ty_1464 : (Tryd.prog.underlying 304).isSome = true := by kernel_rfl
@[go_sem] theorem ty_1465 : tyI Tryd.prog 304 = some (true, 2) := by kernel_rfl
@[go_sem] theorem ty_1466 : fdI Tryd.prog 304 0 = some (0, 1, false) := by kernel_rfl
@[go_sem] theorem ty_1467 : fdI Tryd.prog 304 1 = some (1, 1, false) := by kernel_rfl
@[go_sem] theorem ty_1468 : bdI Tryd.prog 304 = some ([.d (.int .u8 0), .d (.int .u8 0)], [(0, 1), (1, 1)]) := by kernel_rfl
@[go_sem] theorem ty_1469 : zI Tryd.prog 304 = some [.d (.int .u8 0), .d (.int .u8 0)] := by kernel_rfl
@[go_sem] theorem ty_1470 : eqI Tryd.prog 304 = some [1, 1] := by kernel_rfl
@[go_sem] theorem ty_1471 : isIf Tryd.prog 304 = false := by kernel_rfl
@[go_sem] theorem ty_1472 : (Tryd.prog.underlying 305).isSome = true := by kernel_rfl
@[go_sem] theorem ty_1473 : tyI Tryd.prog 305 = some (true, 32) := by kernel_rfl
@[go_sem] theorem ty_1474 : arI Tryd.prog 305 = some (16, 2, true) := by kernel_rfl
@[go_sem] theorem ty_1475 : bdI Tryd.prog 305 = some ([.d (.int .u8 0), .d (.int .u8 0), .d (.int .u8 0), .d (.int .u8 0), .d (.int .u8 0), .d (.int .u8 0), .d (.int .u8 0), .d (.int .u8 0), .d (.int .u8 0), .d (.int .u8 0), .d (.int .u8 0), .d (.int .u8 0), .d (.int .u8 0), .d (.int .u8 0), .d (.int .u8 0), .d (.int .u8 0), .d (.int .u8 0), .d (.int .u8 0), .d (.int .u8 0), .d (.int .u8 0), .d (.int .u8 0), .d (.int .u8 0), .d (.int .u8 0), .d (.int .u8 0), .d (.int .u8 0), .d (.int .u8 0), .d (.int .u8 0), .d (.int .u8 0), .d (.int .u8 0), .d (.int .u8 0), .d (.int .u8 0), .d (.int .u8 0)], [(0, 2), (2, 2), (4, 2), (6, 2), (8, 2), (10, 2), (12, 2), (14, 2), (16, 2), (18, 2), (20, 2), (22, 2), (24, 2), (26, 2), (28, 2), (30, 2)]) := by kernel_rfl
@[go_sem] theorem ty_1476 : zI Tryd.prog 305 = some [.d (.int .u8 0), .d (.int .u8 0), .d (.int .u8 0), .d (.int .u8 0), .d (.int .u8 0), .d (.int .u8 0), .d (.int .u8 0), .d (.int .u8 0), .d (.int .u8 0), .d (.int .u8 0), .d (.int .u8 0), .d (.int .u8 0), .d (.int .u8 0), .d (.int .u8 0), .d (.int .u8 0), .d (.int .u8 0), .d (.int .u8 0), .d (.int .u8 0), .d (.int .u8 0), .d (.int .u8 0), .d (.int .u8 0), .d (.int .u8 0), .d (.int .u8 0), .d (.int .u8 0), .d (.int .u8 0), .d (.int .u8 0), .d (.int .u8 0), .d (.int .u8 0), .d (.int .u8 0), .d (.int .u8 0), .d (.int .u8 0), .d (.int .u8 0)] := by kernel_rfl
@[go_sem] theorem ty_1477 : isIf Tryd.prog 305 = false := by kernel_rfl
@[go_sem] theorem ty_1478 : (Tryd.prog.underlying 306).isSome = true := by kernel_rfl
@[go_sem] theorem ty_1479 : tyI Tryd.prog 306 = some (false, 1) := by kernel_rfl
@[go_sem] theorem ty_1480 : zI Tryd.prog 306 = some [.nilf] := by kernel_rfl
@[go_sem] theorem ty_1481 : isIf Tryd.prog 306 = false := by kernel_rfl
@[go_sem] theorem ty_1482 : (Tryd.prog.underlying 307).isSome = true := by kernel_rfl
@[go_sem] theorem ty_1483 : tyI Tryd.prog 307 = some (false, 1) := by kernel_rfl
@[go_sem] theorem ty_1484 : zI Tryd.prog 307 = some [.nilf] := by kernel_rfl
@[go_sem] theorem ty_1485 : isIf Tryd.prog 307 = false := by kernel_rfl
@[go_sem] theorem ty_1486 : (Tryd.prog.underlying 308).isSome = true := by kernel_rfl
@[go_sem] theorem ty_1487 : tyI Tryd.prog 308 = some (true, 32) := by kernel_rfl
@[go_sem] theorem ty_1488 : arI Tryd.prog 308 = some (32, 1, false) := by kernel_rfl
@[go_sem] theorem ty_1489 : bdI Tryd.prog 308 = some ([.d (.int .u8 0), .d (.int .u8 0), .d (.int .u8 0), .d (.int .u8 0), .d (.int .u8 0), .d (.int .u8 0), .d (.int .u8 0), .d (.int .u8 0), .d (.int .u8 0), .d (.int .u8 0), .d (.int .u8 0), .d (.int .u8 0), .d (.int .u8 0), .d (.int .u8 0), .d (.int .u8 0), .d (.int .u8 0), .d (.int .u8 0), .d (.int .u8 0), .d (.int .u8 0), .d (.int .u8 0), .d (.int .u8 0), .d (.int .u8 0), .d (.int .u8 0), .d (.int .u8 0), .d (.int .u8 0), .d (.int .u8 0), .d (.int .u8 0), .d (.int .u8 0), .d (.int .u8 0), .d (.int .u8 0), .d (.int .u8 0), .d (.int .u8 0)], [(0, 1), (1, 1), (2, 1), (3, 1), (4, 1), (5, 1), (6, 1), (7, 1), (8, 1), (9, 1), (10, 1), (11, 1), (12, 1), (13, 1), (14, 1), (15, 1), (16, 1), (17, 1), (18, 1), (19, 1), (20, 1), (21, 1), (22, 1), (23, 1), (24, 1), (25, 1), (26, 1), (27, 1), (28, 1), (29, 1), (30, 1), (31, 1)]) := by kernel_rfl
@[go_sem] theorem ty_1490 : zI Tryd.prog 308 = some [.d (.int .u8 0), .d (.int .u8 0), .d (.int .u8 0), .d (.int .u8 0), .d (.int .u8 0), .d (.int .u8 0), .d (.int .u8 0), .d (.int .u8 0), .d (.int .u8 0), .d (.int .u8 0), .d (.int .u8 0), .d (.int .u8 0), .d (.int .u8 0), .d (.int .u8 0), .d (.int .u8 0), .d (.int .u8 0), .d (.int .u8 0), .d (.int .u8 0), .d (.int .u8 0), .d (.int .u8 0), .d (.int .u8 0), .d (.int .u8 0), .d (.int .u8 0), .d (.int .u8 0), .d (.int .u8 0), .d (.int .u8 0), .d (.int .u8 0), .d (.int .u8 0), .d (.int .u8 0), .d (.int .u8 0), .d (.int .u8 0), .d (.int .u8 0)] := by kernel_rfl
@[go_sem] theorem ty_1491 : isIf Tryd.prog 308 = false := by kernel_rfl
@[go_sem] theorem ty_1492 : (Tryd.prog.underlying 309).isSome = true := by kernel_rfl
@[go_sem] theorem ty_1493 : tyI Tryd.prog 309 = some (true, 64) := by kernel_rfl
@[go_sem] theorem ty_1494 : arI Tryd.prog 309 = some (64, 1, false) := by kernel_rfl
@[go_sem] theorem ty_1495 : bdI Tryd.prog 309 = some ([.d (.int .u8 0), .d (.int .u8 0), .d (.int .u8 0), .d (.int .u8 0), .d (.int .u8 0), .d (.int .u8 0), .d (.int .u8 0), .d (.int .u8 0), .d (.int .u8 0), .d (.int .u8 0), .d (.int .u8 0), .d (.int .u8 0), .d (.int .u8 0), .d (.int .u8 0), .d (.int .u8 0), .d (.int .u8 0), .d (.int .u8 0), .d (.int .u8 0), .d (.int .u8 0), .d (.int .u8 0), .d (.int .u8 0), .d (.int .u8 0), .d (.int .u8 0), .d (.int .u8 0), .d (.int .u8 0), .d (.int .u8 0), .d (.int .u8 0), .d (.int .u8 0), .d (.int .u8 0), .d (.int .u8 0), .d (.int .u8 0), .d (.int .u8 0), .d (.int .u8 0), .d (.int .u8 0), .d (.int .u8 0), .d (.int .u8 0), .d (.int .u8 0), .d (.int .u8 0), .d (.int .u8 0), .d (.int .u8 0), .d (.int .u8 0), .d (.int .u8 0), .d (.int .u8 0), .d (.int .u8 0), .d (.int .u8 0), .d (.int .u8 0), .d (.int .u8 0), .d (.int .u8 0), .d (.int .u8 0), .d (.int .u8 0), .d (.int .u8 0), .d (.int .u8 0), .d (.int .u8 0), .d (.int .u8 0), .d (.int .u8 0), .d (.int .u8 0), .d (.int .u8 0), .d (.int .u8 0), .d (.int .u8 0), .d (.int .u8 0), .d (.int .u8 0), .d (.int .u8 0), .d (.int .u8 0), .d (.int .u8 0)], [(0, 1), (1, 1), (2, 1), (3, 1), (4, 1), (5, 1), (6, 1), (7, 1), (8, 1), (9, 1), (10, 1), (11, 1), (12, 1), (13, 1), (14, 1), (15, 1), (16, 1), (17, 1), (18, 1), (19, 1), (20, 1), (21, 1), (22, 1), (23, 1), (24, 1), (25, 1), (26, 1), (27, 1), (28, 1), (29, 1), (30, 1), (31, 1), (32, 1), (33, 1), (34, 1), (35, 1), (36, 1), (37, 1), (38, 1), (39, 1), (40, 1), (41, 1), (42, 1), (43, 1), (44, 1), (45, 1), (46, 1), (47, 1), (48, 1), (49, 1), (50, 1), (51, 1), (52, 1), (53, 1), (54, 1), (55, 1), (56, 1), (57, 1), (58, 1), (59, 1), (60, 1), (61, 1), (62, 1), (63, 1)]) := by kernel_rfl
@[go_sem] theorem ty_1496 : zI Tryd.prog 309 = some [.d (.int .u8 0), .d (.int .u8 0), .d (.int .u8 0), .d (.int .u8 0), .d (.int .u8 0), .d (.int .u8 0), .d (.int .u8 0), .d (.int .u8 0), .d (.int .u8 0), .d (.int .u8 0), .d (.int .u8 0), .d (.int .u8 0), .d (.int .u8 0), .d (.int .u8 0), .d (.int .u8 0), .d (.int .u8 0), .d (.int .u8 0), .d (.int .u8 0), .d (.int .u8 0), .d (.int .u8 0), .d (.int .u8 0), .d (.int .u8 0), .d (.int .u8 0), .d (.int .u8 0), .d (.int .u8 0), .d (.int .u8 0), .d (.int .u8 0), .d (.int .u8 0), .d (.int .u8 0), .d (.int .u8 0), .d (.int .u8 0), .d (.int .u8 0), .d (.int .u8 0), .d (.int .u8 0), .d (.int .u8 0), .d (.int .u8 0), .d (.int .u8 0), .d (.int .u8 0), .d (.int .u8 0), .d (.int .u8 0), .d (.int .u8 0), .d (.int .u8 0), .d (.int .u8 0), .d (.int .u8 0), .d (.int .u8 0), .d (.int .u8 0), .d (.int .u8 0), .d (.int .u8 0), .d (.int .u8 0), .d (.int .u8 0), .d (.int .u8 0), .d (.int .u8 0), .d (.int .u8 0), .d (.int .u8 0), .d (.int .u8 0), .d (.int .u8 0), .d (.int .u8 0), .d (.int .u8 0), .d (.int .u8 0), .d (.int .u8 0), .d (.int .u8 0), .d (.int .u8 0), .d (.int .u8 0), .d (.int .u8 0)] := by kernel_rfl
@[go_sem] theorem ty_1497 : isIf Tryd.prog 309 = false := by kernel_rfl
@[go_sem] theorem ty_1498 : (Tryd.prog.underlying 310).isSome = true := by kernel_rfl
@[go_sem] theorem ty_1499 : tyI Tryd.prog 310 = some (true, 4) := by kernel_rfl
@[go_sem] theorem ty_1500 : fdI Tryd.prog 310 0 = some (0, 1, false) := by kernel_rfl
@[go_sem] theorem ty_1501 : fdI Tryd.prog 310 1 = some (1, 1, false) := by kernel_rfl
@[go_sem] theorem ty_1502 : fdI Tryd.prog 310 2 = some (2, 1, false) := by kernel_rfl
@[go_sem] theorem ty_1503 : fdI Tryd.prog 310 3 = some (3, 1, false) := by kernel_rfl
@[go_sem] theorem ty_1504 : bdI Tryd.prog 310 = some ([.nilp, .nilp, .nilp, .d (.str [])], [(0, 1), (1, 1), (2, 1), (3, 1)]) := by kernel_rfl
@[go_sem] theorem ty_1505 : zI Tryd.prog 310 = some [.nilp, .nilp, .nilp, .d (.str [])] := by kernel_rfl
@[go_sem] theorem ty_1506 : isIf Tryd.prog 310 = false := by kernel_rfl
@[go_sem] theorem ty_1507 : (Tryd.prog.underlying 311).isSome = true := by kernel_rfl
@[go_sem] theorem ty_1508 : tyI Tryd.prog 311 = some (true, 4) := by kernel_rfl
@[go_sem] theorem ty_1509 : fdI Tryd.prog 311 0 = some (0, 1, false) := by kernel_rfl
@[go_sem] theorem ty_1510 : fdI Tryd.prog 311 1 = some (1, 1, false) := by kernel_rfl
@[go_sem] theorem ty_1511 : fdI Tryd.prog 311 2 = some (2, 1, false) := by kernel_rfl
@[go_sem] theorem ty_1512 : fdI Tryd.prog 311 3 = some (3, 1, false) := by kernel_rfl
@[go_sem] theorem ty_1513 : bdI Tryd.prog 311 = some ([.nilp, .nilp, .nilp, .d (.str [])], [(0, 1), (1, 1), (2, 1), (3, 1)]) := by kernel_rfl
@[go_sem] theorem ty_1514 : zI Tryd.prog 311 = some [.nilp, .nilp, .nilp, .d (.str [])] := by kernel_rfl
@[go_sem] theorem ty_1515 : isIf Tryd.prog 311 = false := by kernel_rfl
@[go_sem] theorem ty_1516 : (Tryd.prog.underlying 312).isSome = true := by kernel_rfl
@[go_sem] theorem ty_1517 : tyI Tryd.prog 312 = some (true, 0) := by kernel_rfl
@[go_sem] theorem ty_1518 : arI Tryd.prog 312 = some (0, 1, false) := by kernel_rfl
@[go_sem] theorem ty_1519 : bdI Tryd.prog 312 = some ([], []) := by kernel_rfl
@[go_sem] theorem ty_1520 : zI Tryd.prog 312 = some [] := by kernel_rfl
@[go_sem] theorem ty_1521 : isIf Tryd.prog 312 = false := by kernel_rfl
@[go_sem] theorem ty_1522 : (Tryd.prog.underlying 313).isSome = true := by kernel_rfl
@[go_sem] theorem ty_1523 : tyI Tryd.prog 313 = some (true, 0) := by kernel_rfl
@[go_sem] theorem ty_1524 : bdI Tryd.prog 313 = some ([], [(0, 0)]) := by kernel_rfl
@[go_sem] theorem ty_1525 : zI Tryd.prog 313 = some [] := by kernel_rfl
@[go_sem] theorem ty_1526 : isIf Tryd.prog 313 = false := by kernel_rfl
@[go_sem] theorem ty_1527 : (Tryd.prog.underlying 314).isSome = true := by kernel_rfl
@[go_sem] theorem ty_1528 : tyI Tryd.prog 314 = some (true, 0) := by kernel_rfl
@[go_sem] theorem ty_1529 : bdI Tryd.prog 314 = some ([], [(0, 0)]) := by kernel_rfl
@[go_sem] theorem ty_1530 : zI Tryd.prog 314 = some [] := by kernel_rfl
@[go_sem] theorem ty_1531 : isIf Tryd.prog 314 = false := by kernel_rfl
@[go_sem] theorem ty_1532 : (Tryd.prog.underlying 315).isSome = true := by kernel_rfl
@[go_sem] theorem ty_1533 : tyI Tryd.prog 315 = some (false, 1) := by kernel_rfl
@[go_sem] theorem ty_1534 : intI Tryd.prog 315 = some .u8 := by kernel_rfl
@[go_sem] theorem ty_1535 : zI Tryd.prog 315 = some [.d (.int .u8 0)] := by kernel_rfl
@[go_sem] theorem ty_1536 : isIf Tryd.prog 315 = false := by kernel_rfl
@[go_sem] theorem ty_1537 : (Tryd.prog.underlying 316).isSome = true := by kernel_rfl
@[go_sem] theorem ty_1538 : tyI Tryd.prog 316 = some (false, 1) := by kernel_rfl
@[go_sem] theorem ty_1539 : intI Tryd.prog 316 = some .u8 := by kernel_rfl
@[go_sem] theorem ty_1540 : zI Tryd.prog 316 = some [.d (.int .u8 0)] := by kernel_rfl
@[go_sem] theorem ty_1541 : isIf Tryd.prog 316 = false := by kernel_rfl
@[go_sem] theorem ty_1542 : (Tryd.prog.underlying 317).isSome = true := by kernel_rfl
@[go_sem] theorem ty_1543 : tyI Tryd.prog 317 = some (false, 1) := by kernel_rfl
@[go_sem] theorem ty_1544 : zI Tryd.prog 317 = some [.nilf] := by kernel_rfl
@[go_sem] theorem ty_1545 : isIf Tryd.prog 317 = false := by kernel_rfl
@[go_sem] theorem ty_1546 : (Tryd.prog.underlying 318).isSome = true := by kernel_rfl
@[go_sem] theorem ty_1547 : tyI Tryd.prog 318 = some (false, 1) := by kernel_rfl
@[go_sem] theorem ty_1548 : intI Tryd.prog 318 = some .i32 := by kernel_rfl
@[go_sem] theorem ty_1549 : zI Tryd.prog 318 = some [.d (.int .i32 0)] := by kernel_rfl
@[go_sem] theorem ty_1550 : isIf Tryd.prog 318 = false := by kernel_rfl
@[go_sem] theorem ty_1551 : (Tryd.prog.underlying 319).isSome = true := by kernel_rfl
@[go_sem] theorem ty_1552 : tyI Tryd.prog 319 = some (false, 1) := by kernel_rfl
@[go_sem] theorem ty_1553 : intI Tryd.prog 319 = some .i32 := by kernel_rfl
@[go_sem] theorem ty_1554 : zI Tryd.prog 319 = some [.d (.int .i32 0)] := by kernel_rfl
@[go_sem] theorem ty_1555 : isIf Tryd.prog 319 = false := by kernel_rfl
@[go_sem] theorem ty_1556 : (Tryd.prog.underlying 320).isSome = true := by kernel_rfl
@[go_sem] theorem ty_1557 : tyI Tryd.prog 320 = some (true, 11) := by kernel_rfl
@[go_sem] theorem ty_1558 : fdI Tryd.prog 320 0 = some (0, 1, false) := by kernel_rfl
@[go_sem] theorem ty_1559 : fdI Tryd.prog 320 1 = some (1, 1, false) := by kernel_rfl
@[go_sem] theorem ty_1560 : fdI Tryd.prog 320 2 = some (2, 1, false) := by kernel_rfl
@[go_sem] theorem ty_1561 : fdI Tryd.prog 320 3 = some (3, 1, false) := by kernel_rfl
@[go_sem] theorem ty_1562 : fdI Tryd.prog 320 4 = some (4, 1, false) := by kernel_rfl
@[go_sem] theorem ty_1563 : fdI Tryd.prog 320 5 = some (5, 1, false) := by kernel_rfl
@[go_sem] theorem ty_1564 : fdI Tryd.prog 320 6 = some (6, 1, false) := by kernel_rfl
@[go_sem] theorem ty_1565 : fdI Tryd.prog 320 7 = some (7, 1, false) := by kernel_rfl
@[go_sem] theorem ty_1566 : fdI Tryd.prog 320 8 = some (8, 1, false) := by kernel_rfl
@[go_sem] theorem ty_1567 : fdI Tryd.prog 320 9 = some (9, 1, false) := by kernel_rfl
@[go_sem] theorem ty_1568 : fdI Tryd.prog 320 10 = some (10, 1, false) := by kernel_rfl
@[go_sem] theorem ty_1569 : bdI Tryd.prog 320 = some ([.d (.int .u64 0), .d (.int .u64 0), .d (.int .u32 0), .d (.int .u8 0), .d (.int .u8 0), .d (.int .u8 0), .d (.int .u8 0), .nilf, .nilp, .d (.int .i32 0), .d (.int .i32 0)], [(0, 1), (1, 1), (2, 1), (3, 1), (4, 1), (5, 1), (6, 1), (7, 1), (8, 1), (9, 1), (10, 1)]) := by kernel_rfl
@[go_sem] theorem ty_1570 : zI Tryd.prog 320 = some [.d (.int .u64 0), .d (.int .u64 0), .d (.int .u32 0), .d (.int .u8 0), .d (.int .u8 0), .d (.int .u8 0), .d (.int .u8 0), .nilf, .nilp, .d (.int .i32 0), .d (.int .i32 0)] := by kernel_rfl
@[go_sem] theorem ty_1571 : isIf Tryd.prog 320 = false := by kernel_rfl
@[go_sem] theorem ty_1572 : (Tryd.prog.underlying 321).isSome = true := by kernel_rfl
@[go_sem] theorem ty_1573 : tyI Tryd.prog 321 = some (true, 11) := by kernel_rfl
@[go_sem] theorem ty_1574 : fdI Tryd.prog 321 0 = some (0, 1, false) := by kernel_rfl
@[go_sem] theorem ty_1575 : fdI Tryd.prog 321 1 = some (1, 1, false) := by kernel_rfl
@[go_sem] theorem ty_1576 : fdI Tryd.prog 321 2 = some (2, 1, false) := by kernel_rfl
@[go_sem] theorem ty_1577 : fdI Tryd.prog 321 3 = some (3, 1, false) := by kernel_rfl
@[go_sem] theorem ty_1578 : fdI Tryd.prog 321 4 = some (4, 1, false) := by kernel_rfl
@[go_sem] theorem ty_1579 : fdI Tryd.prog 321 5 = some (5, 1, false) := by kernel_rfl
@[go_sem] theorem ty_1580 : fdI Tryd.prog 321 6 = some (6, 1, false) := by kernel_rfl
@[go_sem] theorem ty_1581 : fdI Tryd.prog 321 7 = some (7, 1, false) := by kernel_rfl
@[go_sem] theorem ty_1582 : fdI Tryd.prog 321 8 = some (8, 1, false) := by kernel_rfl
@[go_sem] theorem ty_1583 : fdI Tryd.prog 321 9 = some (9, 1, false) := by kernel_rfl
@[go_sem] theorem ty_1584 : fdI Tryd.prog 321 10 = some (10, 1, false) := by kernel_rfl
@[go_sem] theorem ty_1585 : bdI Tryd.prog 321 = some ([.d (.int .u64 0), .d (.int .u64 0), .d (.int .u32 0), .d (.int .u8 0), .d (.int .u8 0), .d (.int .u8 0), .d (.int .u8 0), .nilf, .nilp, .d (.int .i32 0), .d (.int .i32 0)], [(0, 1), (1, 1), (2, 1), (3, 1), (4, 1), (5, 1), (6, 1), (7, 1), (8, 1), (9, 1), (10, 1)]) := by kernel_rfl
@[go_sem] theorem ty_1586 : zI Tryd.prog 321 = some [.d (.int .u64 0), .d (.int .u64 0), .d (.int .u32 0), .d (.int .u8 0), .d (.int .u8 0), .d (.int .u8 0), .d (.int .u8 0), .nilf, .nilp, .d (.int .i32 0), .d (.int .i32 0)] := by kernel_rfl
@[go_sem] theorem ty_1587 : isIf Tryd.prog 321 = false := by kernel_rfl
end Go.Proofs.YtnoboapafndnlaaDoor
