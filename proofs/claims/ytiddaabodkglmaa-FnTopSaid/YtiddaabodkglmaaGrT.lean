/- Which functions each function of the translation leads to: a fact a function. Printed by gen_graph.py (mine) out of the loaded functions; Lean checks each. -/
import Derived.Test.YtiddaabodkglmaaProg
import Derived.Test.YtiddaabodkglmaaGr
import Derived.KernelRfl
namespace Go.Proofs.Ytiddaabodkglmaa
open Go.Fx
theorem lead_0 : leadOf Try.prog 0 = [] := by unfold leadOf; rw [Try.func0]; kernel_rfl
theorem lead_1 : leadOf Try.prog 1 = [] := by unfold leadOf; rw [Try.func1]; kernel_rfl
theorem lead_2 : leadOf Try.prog 2 = [1] := by unfold leadOf; rw [Try.func2]; kernel_rfl
theorem lead_3 : leadOf Try.prog 3 = [36, 35, 36, 37, 36, 38] := by unfold leadOf; rw [Try.func3]; kernel_rfl
theorem lead_4 : leadOf Try.prog 4 = [39, 40, 41, 42, 43, 44, 45] := by unfold leadOf; rw [Try.func4]; kernel_rfl
theorem lead_5 : leadOf Try.prog 5 = [36, 46, 36, 47, 38, 36, 38, 48, 38, 48, 49, 36, 47, 38, 49] := by unfold leadOf; rw [Try.func5]; kernel_rfl
theorem lead_6 : leadOf Try.prog 6 = [39, 50, 51, 51, 51] := by unfold leadOf; rw [Try.func6]; kernel_rfl
theorem lead_7 : leadOf Try.prog 7 = [52, 54, 53, 54, 55, 54, 56] := by unfold leadOf; rw [Try.func7]; kernel_rfl
theorem lead_8 : leadOf Try.prog 8 = [57, 43, 56, 58, 59, 43, 56, 59] := by unfold leadOf; rw [Try.func8]; kernel_rfl
theorem lead_9 : leadOf Try.prog 9 = [36, 60, 36, 61, 62, 36, 38, 48, 62, 63, 64, 36, 61, 62, 64] := by unfold leadOf; rw [Try.func9]; kernel_rfl
theorem lead_10 : leadOf Try.prog 10 = [36, 65, 36, 66, 67, 67, 36, 38] := by unfold leadOf; rw [Try.func10]; kernel_rfl
theorem lead_11 : leadOf Try.prog 11 = [36, 69, 68, 36, 69, 70, 71, 36, 38, 69, 72, 48, 73, 71, 74, 75, 36, 69, 70, 71, 75] := by unfold leadOf; rw [Try.func11]; kernel_rfl
theorem lead_12 : leadOf Try.prog 12 = [36, 76, 36, 77, 38, 36, 38, 48, 38, 48, 49, 36, 77, 38, 49] := by unfold leadOf; rw [Try.func12]; kernel_rfl
theorem lead_13 : leadOf Try.prog 13 = [39, 78, 79, 79, 79, 80] := by unfold leadOf; rw [Try.func13]; kernel_rfl
theorem lead_14 : leadOf Try.prog 14 = [39, 81, 82, 82, 83, 84, 85, 86, 82, 82] := by unfold leadOf; rw [Try.func14]; kernel_rfl
theorem lead_15 : leadOf Try.prog 15 = [39, 88, 87, 89, 89, 90] := by unfold leadOf; rw [Try.func15]; kernel_rfl
theorem lead_16 : leadOf Try.prog 16 = [36, 91, 36, 92, 72, 36, 38, 48, 72, 73, 93, 36, 92, 72, 93] := by unfold leadOf; rw [Try.func16]; kernel_rfl
theorem lead_17 : leadOf Try.prog 17 = [39, 84, 84, 88, 87, 89, 89, 86, 89, 90] := by unfold leadOf; rw [Try.func17]; kernel_rfl
theorem lead_18 : leadOf Try.prog 18 = [36, 94, 36, 95, 38, 36, 38, 48, 38, 48, 49, 36, 95, 38, 49] := by unfold leadOf; rw [Try.func18]; kernel_rfl
theorem lead_19 : leadOf Try.prog 19 = [39, 96, 61, 61] := by unfold leadOf; rw [Try.func19]; kernel_rfl
theorem lead_20 : leadOf Try.prog 20 = [39, 97, 47, 47, 98, 99, 47] := by unfold leadOf; rw [Try.func20]; kernel_rfl
theorem lead_21 : leadOf Try.prog 21 = [36, 100, 36, 101, 102, 36, 38, 48, 102, 103, 104, 36, 101, 102, 104] := by unfold leadOf; rw [Try.func21]; kernel_rfl
theorem lead_22 : leadOf Try.prog 22 = [39, 105, 77, 77, 35, 90] := by unfold leadOf; rw [Try.func22]; kernel_rfl
theorem lead_23 : leadOf Try.prog 23 = [39, 106, 107, 108, 109, 110, 98] := by unfold leadOf; rw [Try.func23]; kernel_rfl
theorem lead_24 : leadOf Try.prog 24 = [39, 88, 111, 101, 112] := by unfold leadOf; rw [Try.func24]; kernel_rfl
theorem lead_25 : leadOf Try.prog 25 = [36, 36, 113, 36, 36, 114, 36, 38, 36, 38] := by unfold leadOf; rw [Try.func25]; kernel_rfl
theorem lead_26 : leadOf Try.prog 26 = [39, 88, 111, 111, 115, 115, 116, 116, 116, 116] := by unfold leadOf; rw [Try.func26]; kernel_rfl
theorem lead_27 : leadOf Try.prog 27 = [39, 88, 111, 84, 89, 95, 90] := by unfold leadOf; rw [Try.func27]; kernel_rfl
theorem lead_28 : leadOf Try.prog 28 = [39, 40, 111, 92, 70, 47, 92, 117, 98] := by unfold leadOf; rw [Try.func28]; kernel_rfl
theorem lead_29 : leadOf Try.prog 29 = [39, 118, 84, 111, 89, 111, 89, 119, 79] := by unfold leadOf; rw [Try.func29]; kernel_rfl
theorem lead_30 : leadOf Try.prog 30 = [39, 120, 115, 115, 121, 116, 116] := by unfold leadOf; rw [Try.func30]; kernel_rfl
theorem lead_31 : leadOf Try.prog 31 = [36, 36, 122, 36, 36, 119, 123, 36, 38, 36, 38, 48, 48, 123, 124, 125, 36, 36, 119, 123, 125] := by unfold leadOf; rw [Try.func31]; kernel_rfl
theorem lead_32 : leadOf Try.prog 32 = [39, 126, 127, 127, 128, 129, 130, 45, 45, 45] := by unfold leadOf; rw [Try.func32]; kernel_rfl
theorem lead_33 : leadOf Try.prog 33 = [36, 36, 131, 36, 36, 132, 123, 36, 38, 36, 38, 48, 48, 123, 124, 125, 36, 36, 132, 123, 125] := by unfold leadOf; rw [Try.func33]; kernel_rfl
theorem lead_34 : leadOf Try.prog 34 = [39, 133, 119, 132, 115, 114, 116, 114, 114, 130, 134, 99] := by unfold leadOf; rw [Try.func34]; kernel_rfl
theorem lead_35 : leadOf Try.prog 35 = [135, 136] := by unfold leadOf; rw [Try.func35]; kernel_rfl
theorem lead_36 : leadOf Try.prog 36 = [] := by unfold leadOf; rw [Try.func36]; kernel_rfl
theorem lead_37 : leadOf Try.prog 37 = [137, 138] := by unfold leadOf; rw [Try.func37]; kernel_rfl
theorem lead_38 : leadOf Try.prog 38 = [67] := by unfold leadOf; rw [Try.func38]; kernel_rfl
theorem lead_39 : leadOf Try.prog 39 = [] := by unfold leadOf; rw [Try.func39]; kernel_rfl
theorem lead_40 : leadOf Try.prog 40 = [139, 140, 141] := by unfold leadOf; rw [Try.func40]; kernel_rfl
theorem lead_41 : leadOf Try.prog 41 = [142, 143, 111, 89] := by unfold leadOf; rw [Try.func41]; kernel_rfl
theorem lead_42 : leadOf Try.prog 42 = [142] := by unfold leadOf; rw [Try.func42]; kernel_rfl
theorem lead_43 : leadOf Try.prog 43 = [55] := by unfold leadOf; rw [Try.func43]; kernel_rfl
theorem lead_44 : leadOf Try.prog 44 = [55, 92, 70, 95, 132, 144] := by unfold leadOf; rw [Try.func44]; kernel_rfl
theorem lead_45 : leadOf Try.prog 45 = [145, 146] := by unfold leadOf; rw [Try.func45]; kernel_rfl
theorem lead_46 : leadOf Try.prog 46 = [135] := by unfold leadOf; rw [Try.func46]; kernel_rfl
theorem lead_47 : leadOf Try.prog 47 = [148, 137] := by unfold leadOf; rw [Try.func47]; kernel_rfl
theorem lead_48 : leadOf Try.prog 48 = [] := by unfold leadOf; rw [Try.func48]; kernel_rfl
theorem lead_49 : leadOf Try.prog 49 = [] := by unfold leadOf; rw [Try.func49]; kernel_rfl
theorem lead_50 : leadOf Try.prog 50 = [139, 149] := by unfold leadOf; rw [Try.func50]; kernel_rfl
theorem lead_51 : leadOf Try.prog 51 = [] := by unfold leadOf; rw [Try.func51]; kernel_rfl
theorem lead_52 : leadOf Try.prog 52 = [150] := by unfold leadOf; rw [Try.func52]; kernel_rfl
theorem lead_53 : leadOf Try.prog 53 = [135, 135, 151] := by unfold leadOf; rw [Try.func53]; kernel_rfl
theorem lead_54 : leadOf Try.prog 54 = [152] := by unfold leadOf; rw [Try.func54]; kernel_rfl
theorem lead_55 : leadOf Try.prog 55 = [137, 137, 153] := by unfold leadOf; rw [Try.func55]; kernel_rfl
theorem lead_56 : leadOf Try.prog 56 = [67, 67, 67, 154] := by unfold leadOf; rw [Try.func56]; kernel_rfl
theorem lead_57 : leadOf Try.prog 57 = [53] := by unfold leadOf; rw [Try.func57]; kernel_rfl
theorem lead_58 : leadOf Try.prog 58 = [155] := by unfold leadOf; rw [Try.func58]; kernel_rfl
theorem lead_59 : leadOf Try.prog 59 = [156] := by unfold leadOf; rw [Try.func59]; kernel_rfl
theorem lead_60 : leadOf Try.prog 60 = [] := by unfold leadOf; rw [Try.func60]; kernel_rfl
theorem lead_61 : leadOf Try.prog 61 = [] := by unfold leadOf; rw [Try.func61]; kernel_rfl
theorem lead_62 : leadOf Try.prog 62 = [157] := by unfold leadOf; rw [Try.func62]; kernel_rfl
theorem lead_63 : leadOf Try.prog 63 = [] := by unfold leadOf; rw [Try.func63]; kernel_rfl
theorem lead_64 : leadOf Try.prog 64 = [] := by unfold leadOf; rw [Try.func64]; kernel_rfl
theorem lead_65 : leadOf Try.prog 65 = [110, 159, 158, 160, 158] := by unfold leadOf; rw [Try.func65]; kernel_rfl
theorem lead_66 : leadOf Try.prog 66 = [161, 107, 162, 108, 162] := by unfold leadOf; rw [Try.func66]; kernel_rfl
theorem lead_67 : leadOf Try.prog 67 = [] := by unfold leadOf; rw [Try.func67]; kernel_rfl
theorem lead_68 : leadOf Try.prog 68 = [135, 135] := by unfold leadOf; rw [Try.func68]; kernel_rfl
theorem lead_69 : leadOf Try.prog 69 = [] := by unfold leadOf; rw [Try.func69]; kernel_rfl
theorem lead_70 : leadOf Try.prog 70 = [163, 137, 148] := by unfold leadOf; rw [Try.func70]; kernel_rfl
theorem lead_71 : leadOf Try.prog 71 = [38] := by unfold leadOf; rw [Try.func71]; kernel_rfl
theorem lead_72 : leadOf Try.prog 72 = [] := by unfold leadOf; rw [Try.func72]; kernel_rfl
theorem lead_73 : leadOf Try.prog 73 = [] := by unfold leadOf; rw [Try.func73]; kernel_rfl
theorem lead_74 : leadOf Try.prog 74 = [48] := by unfold leadOf; rw [Try.func74]; kernel_rfl
theorem lead_75 : leadOf Try.prog 75 = [49] := by unfold leadOf; rw [Try.func75]; kernel_rfl
theorem lead_76 : leadOf Try.prog 76 = [164, 35, 35] := by unfold leadOf; rw [Try.func76]; kernel_rfl
theorem lead_77 : leadOf Try.prog 77 = [165, 37, 37] := by unfold leadOf; rw [Try.func77]; kernel_rfl
theorem lead_78 : leadOf Try.prog 78 = [166] := by unfold leadOf; rw [Try.func78]; kernel_rfl
theorem lead_79 : leadOf Try.prog 79 = [129, 129] := by unfold leadOf; rw [Try.func79]; kernel_rfl
theorem lead_80 : leadOf Try.prog 80 = [83, 135] := by unfold leadOf; rw [Try.func80]; kernel_rfl
theorem lead_81 : leadOf Try.prog 81 = [139, 167, 149] := by unfold leadOf; rw [Try.func81]; kernel_rfl
theorem lead_82 : leadOf Try.prog 82 = [] := by unfold leadOf; rw [Try.func82]; kernel_rfl
theorem lead_83 : leadOf Try.prog 83 = [168, 169] := by unfold leadOf; rw [Try.func83]; kernel_rfl
theorem lead_84 : leadOf Try.prog 84 = [139, 170] := by unfold leadOf; rw [Try.func84]; kernel_rfl
theorem lead_85 : leadOf Try.prog 85 = [51, 171, 171] := by unfold leadOf; rw [Try.func85]; kernel_rfl
theorem lead_86 : leadOf Try.prog 86 = [82, 171, 171, 171] := by unfold leadOf; rw [Try.func86]; kernel_rfl
theorem lead_87 : leadOf Try.prog 87 = [129, 172] := by unfold leadOf; rw [Try.func87]; kernel_rfl
theorem lead_88 : leadOf Try.prog 88 = [139, 173, 174] := by unfold leadOf; rw [Try.func88]; kernel_rfl
theorem lead_89 : leadOf Try.prog 89 = [171, 37, 175, 82, 176, 37] := by unfold leadOf; rw [Try.func89]; kernel_rfl
theorem lead_90 : leadOf Try.prog 90 = [] := by unfold leadOf; rw [Try.func90]; kernel_rfl
theorem lead_91 : leadOf Try.prog 91 = [60, 135, 135, 135] := by unfold leadOf; rw [Try.func91]; kernel_rfl
theorem lead_92 : leadOf Try.prog 92 = [61, 163, 137, 178, 177] := by unfold leadOf; rw [Try.func92]; kernel_rfl
theorem lead_93 : leadOf Try.prog 93 = [] := by unfold leadOf; rw [Try.func93]; kernel_rfl
theorem lead_94 : leadOf Try.prog 94 = [65, 110] := by unfold leadOf; rw [Try.func94]; kernel_rfl
theorem lead_95 : leadOf Try.prog 95 = [66, 161] := by unfold leadOf; rw [Try.func95]; kernel_rfl
theorem lead_96 : leadOf Try.prog 96 = [139, 179, 180, 181, 173] := by unfold leadOf; rw [Try.func96]; kernel_rfl
theorem lead_97 : leadOf Try.prog 97 = [139, 179, 173, 180, 182, 180, 182, 173] := by unfold leadOf; rw [Try.func97]; kernel_rfl
theorem lead_98 : leadOf Try.prog 98 = [99] := by unfold leadOf; rw [Try.func98]; kernel_rfl
theorem lead_99 : leadOf Try.prog 99 = [183] := by unfold leadOf; rw [Try.func99]; kernel_rfl
theorem lead_100 : leadOf Try.prog 100 = [110, 185, 184] := by unfold leadOf; rw [Try.func100]; kernel_rfl
theorem lead_101 : leadOf Try.prog 101 = [161, 109, 186] := by unfold leadOf; rw [Try.func101]; kernel_rfl
theorem lead_102 : leadOf Try.prog 102 = [187] := by unfold leadOf; rw [Try.func102]; kernel_rfl
theorem lead_103 : leadOf Try.prog 103 = [] := by unfold leadOf; rw [Try.func103]; kernel_rfl
theorem lead_104 : leadOf Try.prog 104 = [] := by unfold leadOf; rw [Try.func104]; kernel_rfl
theorem lead_105 : leadOf Try.prog 105 = [188, 139, 173] := by unfold leadOf; rw [Try.func105]; kernel_rfl
theorem lead_106 : leadOf Try.prog 106 = [139, 189] := by unfold leadOf; rw [Try.func106]; kernel_rfl
theorem lead_107 : leadOf Try.prog 107 = [190] := by unfold leadOf; rw [Try.func107]; kernel_rfl
theorem lead_108 : leadOf Try.prog 108 = [190] := by unfold leadOf; rw [Try.func108]; kernel_rfl
theorem lead_109 : leadOf Try.prog 109 = [190] := by unfold leadOf; rw [Try.func109]; kernel_rfl
theorem lead_110 : leadOf Try.prog 110 = [191, 135, 136] := by unfold leadOf; rw [Try.func110]; kernel_rfl
theorem lead_111 : leadOf Try.prog 111 = [129, 192, 193, 172, 172, 194] := by unfold leadOf; rw [Try.func111]; kernel_rfl
theorem lead_112 : leadOf Try.prog 112 = [45] := by unfold leadOf; rw [Try.func112]; kernel_rfl
theorem lead_113 : leadOf Try.prog 113 = [121, 195] := by unfold leadOf; rw [Try.func113]; kernel_rfl
theorem lead_114 : leadOf Try.prog 114 = [115, 116, 153] := by unfold leadOf; rw [Try.func114]; kernel_rfl
theorem lead_115 : leadOf Try.prog 115 = [196, 197] := by unfold leadOf; rw [Try.func115]; kernel_rfl
theorem lead_116 : leadOf Try.prog 116 = [196, 198, 197] := by unfold leadOf; rw [Try.func116]; kernel_rfl
theorem lead_117 : leadOf Try.prog 117 = [] := by unfold leadOf; rw [Try.func117]; kernel_rfl
theorem lead_118 : leadOf Try.prog 118 = [139, 199] := by unfold leadOf; rw [Try.func118]; kernel_rfl
theorem lead_119 : leadOf Try.prog 119 = [101, 101, 116, 201, 200, 201, 200] := by unfold leadOf; rw [Try.func119]; kernel_rfl
theorem lead_120 : leadOf Try.prog 120 = [139, 189, 189] := by unfold leadOf; rw [Try.func120]; kernel_rfl
theorem lead_121 : leadOf Try.prog 121 = [202, 202] := by unfold leadOf; rw [Try.func121]; kernel_rfl
theorem lead_122 : leadOf Try.prog 122 = [100, 100, 195, 203, 203, 204, 204] := by unfold leadOf; rw [Try.func122]; kernel_rfl
theorem lead_123 : leadOf Try.prog 123 = [102] := by unfold leadOf; rw [Try.func123]; kernel_rfl
theorem lead_124 : leadOf Try.prog 124 = [103] := by unfold leadOf; rw [Try.func124]; kernel_rfl
theorem lead_125 : leadOf Try.prog 125 = [104] := by unfold leadOf; rw [Try.func125]; kernel_rfl
theorem lead_126 : leadOf Try.prog 126 = [139, 205, 206] := by unfold leadOf; rw [Try.func126]; kernel_rfl
theorem lead_127 : leadOf Try.prog 127 = [207] := by unfold leadOf; rw [Try.func127]; kernel_rfl
theorem lead_128 : leadOf Try.prog 128 = [127] := by unfold leadOf; rw [Try.func128]; kernel_rfl
theorem lead_129 : leadOf Try.prog 129 = [137, 208, 209] := by unfold leadOf; rw [Try.func129]; kernel_rfl
theorem lead_130 : leadOf Try.prog 130 = [211] := by unfold leadOf; rw [Try.func130]; kernel_rfl
theorem lead_131 : leadOf Try.prog 131 = [122, 113, 212, 121, 213, 214] := by unfold leadOf; rw [Try.func131]; kernel_rfl
theorem lead_132 : leadOf Try.prog 132 = [119, 114, 130, 115, 128, 127] := by unfold leadOf; rw [Try.func132]; kernel_rfl
theorem lead_133 : leadOf Try.prog 133 = [215, 139, 173, 180, 181] := by unfold leadOf; rw [Try.func133]; kernel_rfl
theorem lead_134 : leadOf Try.prog 134 = [99, 216] := by unfold leadOf; rw [Try.func134]; kernel_rfl
theorem lead_135 : leadOf Try.prog 135 = [] := by unfold leadOf; rw [Try.func135]; kernel_rfl
theorem lead_136 : leadOf Try.prog 136 = [] := by unfold leadOf; rw [Try.func136]; kernel_rfl
theorem lead_137 : leadOf Try.prog 137 = [] := by unfold leadOf; rw [Try.func137]; kernel_rfl
theorem lead_138 : leadOf Try.prog 138 = [217, 218] := by unfold leadOf; rw [Try.func138]; kernel_rfl
theorem lead_139 : leadOf Try.prog 139 = [] := by unfold leadOf; rw [Try.func139]; kernel_rfl
theorem lead_140 : leadOf Try.prog 140 = [199, 173, 173, 173] := by unfold leadOf; rw [Try.func140]; kernel_rfl
theorem lead_141 : leadOf Try.prog 141 = [182, 182, 173, 173] := by unfold leadOf; rw [Try.func141]; kernel_rfl
theorem lead_142 : leadOf Try.prog 142 = [137, 129] := by unfold leadOf; rw [Try.func142]; kernel_rfl
theorem lead_143 : leadOf Try.prog 143 = [142, 137, 211] := by unfold leadOf; rw [Try.func143]; kernel_rfl
theorem lead_144 : leadOf Try.prog 144 = [211, 211, 142] := by unfold leadOf; rw [Try.func144]; kernel_rfl
theorem lead_145 : leadOf Try.prog 145 = [] := by unfold leadOf; rw [Try.func145]; kernel_rfl
theorem lead_146 : leadOf Try.prog 146 = [147] := by unfold leadOf; rw [Try.func146]; kernel_rfl
theorem lead_147 : leadOf Try.prog 147 = [] := by unfold leadOf; rw [Try.func147]; kernel_rfl
theorem lead_148 : leadOf Try.prog 148 = [] := by unfold leadOf; rw [Try.func148]; kernel_rfl
theorem lead_149 : leadOf Try.prog 149 = [170, 173, 206, 206, 206, 206] := by unfold leadOf; rw [Try.func149]; kernel_rfl
theorem lead_150 : leadOf Try.prog 150 = [] := by unfold leadOf; rw [Try.func150]; kernel_rfl
theorem lead_151 : leadOf Try.prog 151 = [] := by unfold leadOf; rw [Try.func151]; kernel_rfl
theorem lead_152 : leadOf Try.prog 152 = [] := by unfold leadOf; rw [Try.func152]; kernel_rfl
theorem lead_153 : leadOf Try.prog 153 = [] := by unfold leadOf; rw [Try.func153]; kernel_rfl
theorem lead_154 : leadOf Try.prog 154 = [] := by unfold leadOf; rw [Try.func154]; kernel_rfl
theorem lead_155 : leadOf Try.prog 155 = [219] := by unfold leadOf; rw [Try.func155]; kernel_rfl
theorem lead_156 : leadOf Try.prog 156 = [219] := by unfold leadOf; rw [Try.func156]; kernel_rfl
theorem lead_157 : leadOf Try.prog 157 = [] := by unfold leadOf; rw [Try.func157]; kernel_rfl
theorem lead_158 : leadOf Try.prog 158 = [] := by unfold leadOf; rw [Try.func158]; kernel_rfl
theorem lead_159 : leadOf Try.prog 159 = [220] := by unfold leadOf; rw [Try.func159]; kernel_rfl
theorem lead_160 : leadOf Try.prog 160 = [191, 220] := by unfold leadOf; rw [Try.func160]; kernel_rfl
theorem lead_161 : leadOf Try.prog 161 = [138] := by unfold leadOf; rw [Try.func161]; kernel_rfl
theorem lead_162 : leadOf Try.prog 162 = [] := by unfold leadOf; rw [Try.func162]; kernel_rfl
theorem lead_163 : leadOf Try.prog 163 = [137] := by unfold leadOf; rw [Try.func163]; kernel_rfl
theorem lead_164 : leadOf Try.prog 164 = [135] := by unfold leadOf; rw [Try.func164]; kernel_rfl
theorem lead_165 : leadOf Try.prog 165 = [137] := by unfold leadOf; rw [Try.func165]; kernel_rfl
theorem lead_166 : leadOf Try.prog 166 = [139, 221, 180, 221, 222] := by unfold leadOf; rw [Try.func166]; kernel_rfl
theorem lead_167 : leadOf Try.prog 167 = [223, 223, 223] := by unfold leadOf; rw [Try.func167]; kernel_rfl
theorem lead_168 : leadOf Try.prog 168 = [] := by unfold leadOf; rw [Try.func168]; kernel_rfl
theorem lead_169 : leadOf Try.prog 169 = [168, 168] := by unfold leadOf; rw [Try.func169]; kernel_rfl
theorem lead_170 : leadOf Try.prog 170 = [182, 173, 173, 173] := by unfold leadOf; rw [Try.func170]; kernel_rfl
theorem lead_171 : leadOf Try.prog 171 = [153, 153, 153] := by unfold leadOf; rw [Try.func171]; kernel_rfl
theorem lead_172 : leadOf Try.prog 172 = [201, 176] := by unfold leadOf; rw [Try.func172]; kernel_rfl
theorem lead_173 : leadOf Try.prog 173 = [224, 224, 224, 224, 224] := by unfold leadOf; rw [Try.func173]; kernel_rfl
theorem lead_174 : leadOf Try.prog 174 = [173, 173, 173] := by unfold leadOf; rw [Try.func174]; kernel_rfl
theorem lead_175 : leadOf Try.prog 175 = [201] := by unfold leadOf; rw [Try.func175]; kernel_rfl
theorem lead_176 : leadOf Try.prog 176 = [225] := by unfold leadOf; rw [Try.func176]; kernel_rfl
theorem lead_177 : leadOf Try.prog 177 = [] := by unfold leadOf; rw [Try.func177]; kernel_rfl
theorem lead_178 : leadOf Try.prog 178 = [137] := by unfold leadOf; rw [Try.func178]; kernel_rfl
theorem lead_179 : leadOf Try.prog 179 = [173, 173, 174, 226, 180, 173, 46, 180, 180, 173] := by unfold leadOf; rw [Try.func179]; kernel_rfl
theorem lead_180 : leadOf Try.prog 180 = [173] := by unfold leadOf; rw [Try.func180]; kernel_rfl
theorem lead_181 : leadOf Try.prog 181 = [173, 173] := by unfold leadOf; rw [Try.func181]; kernel_rfl
theorem lead_182 : leadOf Try.prog 182 = [173] := by unfold leadOf; rw [Try.func182]; kernel_rfl
theorem lead_183 : leadOf Try.prog 183 = [] := by unfold leadOf; rw [Try.func183]; kernel_rfl
theorem lead_184 : leadOf Try.prog 184 = [227, 203, 80] := by unfold leadOf; rw [Try.func184]; kernel_rfl
theorem lead_185 : leadOf Try.prog 185 = [191, 220] := by unfold leadOf; rw [Try.func185]; kernel_rfl
theorem lead_186 : leadOf Try.prog 186 = [175, 129] := by unfold leadOf; rw [Try.func186]; kernel_rfl
theorem lead_187 : leadOf Try.prog 187 = [67, 228] := by unfold leadOf; rw [Try.func187]; kernel_rfl
theorem lead_188 : leadOf Try.prog 188 = [139, 229, 180, 182, 173] := by unfold leadOf; rw [Try.func188]; kernel_rfl
theorem lead_189 : leadOf Try.prog 189 = [221, 180, 226, 180, 173, 223, 173, 173] := by unfold leadOf; rw [Try.func189]; kernel_rfl
theorem lead_190 : leadOf Try.prog 190 = [161, 148] := by unfold leadOf; rw [Try.func190]; kernel_rfl
theorem lead_191 : leadOf Try.prog 191 = [] := by unfold leadOf; rw [Try.func191]; kernel_rfl
theorem lead_192 : leadOf Try.prog 192 = [230] := by unfold leadOf; rw [Try.func192]; kernel_rfl
theorem lead_193 : leadOf Try.prog 193 = [230] := by unfold leadOf; rw [Try.func193]; kernel_rfl
theorem lead_194 : leadOf Try.prog 194 = [231] := by unfold leadOf; rw [Try.func194]; kernel_rfl
theorem lead_195 : leadOf Try.prog 195 = [202, 202] := by unfold leadOf; rw [Try.func195]; kernel_rfl
theorem lead_196 : leadOf Try.prog 196 = [232, 232] := by unfold leadOf; rw [Try.func196]; kernel_rfl
theorem lead_197 : leadOf Try.prog 197 = [] := by unfold leadOf; rw [Try.func197]; kernel_rfl
theorem lead_198 : leadOf Try.prog 198 = [] := by unfold leadOf; rw [Try.func198]; kernel_rfl
theorem lead_199 : leadOf Try.prog 199 = [173, 173, 174] := by unfold leadOf; rw [Try.func199]; kernel_rfl
theorem lead_200 : leadOf Try.prog 200 = [233, 233] := by unfold leadOf; rw [Try.func200]; kernel_rfl
theorem lead_201 : leadOf Try.prog 201 = [] := by unfold leadOf; rw [Try.func201]; kernel_rfl
theorem lead_202 : leadOf Try.prog 202 = [160, 184, 110] := by unfold leadOf; rw [Try.func202]; kernel_rfl
theorem lead_203 : leadOf Try.prog 203 = [] := by unfold leadOf; rw [Try.func203]; kernel_rfl
theorem lead_204 : leadOf Try.prog 204 = [] := by unfold leadOf; rw [Try.func204]; kernel_rfl
theorem lead_205 : leadOf Try.prog 205 = [234, 122, 180, 235] := by unfold leadOf; rw [Try.func205]; kernel_rfl
theorem lead_206 : leadOf Try.prog 206 = [180, 181, 173, 180, 173, 180] := by unfold leadOf; rw [Try.func206]; kernel_rfl
theorem lead_207 : leadOf Try.prog 207 = [129, 211, 129] := by unfold leadOf; rw [Try.func207]; kernel_rfl
theorem lead_208 : leadOf Try.prog 208 = [236] := by unfold leadOf; rw [Try.func208]; kernel_rfl
theorem lead_209 : leadOf Try.prog 209 = [210] := by unfold leadOf; rw [Try.func209]; kernel_rfl
theorem lead_210 : leadOf Try.prog 210 = [153, 153, 153] := by unfold leadOf; rw [Try.func210]; kernel_rfl
theorem lead_211 : leadOf Try.prog 211 = [] := by unfold leadOf; rw [Try.func211]; kernel_rfl
theorem lead_212 : leadOf Try.prog 212 = [237] := by unfold leadOf; rw [Try.func212]; kernel_rfl
theorem lead_213 : leadOf Try.prog 213 = [238] := by unfold leadOf; rw [Try.func213]; kernel_rfl
theorem lead_214 : leadOf Try.prog 214 = [238] := by unfold leadOf; rw [Try.func214]; kernel_rfl
theorem lead_215 : leadOf Try.prog 215 = [139, 234, 173] := by unfold leadOf; rw [Try.func215]; kernel_rfl
theorem lead_216 : leadOf Try.prog 216 = [99, 99] := by unfold leadOf; rw [Try.func216]; kernel_rfl
theorem lead_217 : leadOf Try.prog 217 = [239] := by unfold leadOf; rw [Try.func217]; kernel_rfl
theorem lead_218 : leadOf Try.prog 218 = [153] := by unfold leadOf; rw [Try.func218]; kernel_rfl
theorem lead_219 : leadOf Try.prog 219 = [] := by unfold leadOf; rw [Try.func219]; kernel_rfl
theorem lead_220 : leadOf Try.prog 220 = [110] := by unfold leadOf; rw [Try.func220]; kernel_rfl
theorem lead_221 : leadOf Try.prog 221 = [173, 180, 182, 222] := by unfold leadOf; rw [Try.func221]; kernel_rfl
theorem lead_222 : leadOf Try.prog 222 = [167, 180, 167] := by unfold leadOf; rw [Try.func222]; kernel_rfl
theorem lead_223 : leadOf Try.prog 223 = [180, 181, 180, 182, 173] := by unfold leadOf; rw [Try.func223]; kernel_rfl
theorem lead_224 : leadOf Try.prog 224 = [] := by unfold leadOf; rw [Try.func224]; kernel_rfl
theorem lead_225 : leadOf Try.prog 225 = [] := by unfold leadOf; rw [Try.func225]; kernel_rfl
theorem lead_226 : leadOf Try.prog 226 = [80, 241, 240, 240] := by unfold leadOf; rw [Try.func226]; kernel_rfl
theorem lead_227 : leadOf Try.prog 227 = [] := by unfold leadOf; rw [Try.func227]; kernel_rfl
theorem lead_228 : leadOf Try.prog 228 = [67, 67] := by unfold leadOf; rw [Try.func228]; kernel_rfl
theorem lead_229 : leadOf Try.prog 229 = [180, 173, 223, 221, 180, 240, 180, 173, 223, 180] := by unfold leadOf; rw [Try.func229]; kernel_rfl
theorem lead_230 : leadOf Try.prog 230 = [242, 243] := by unfold leadOf; rw [Try.func230]; kernel_rfl
theorem lead_231 : leadOf Try.prog 231 = [] := by unfold leadOf; rw [Try.func231]; kernel_rfl
theorem lead_232 : leadOf Try.prog 232 = [108, 186, 161, 197] := by unfold leadOf; rw [Try.func232]; kernel_rfl
theorem lead_233 : leadOf Try.prog 233 = [] := by unfold leadOf; rw [Try.func233]; kernel_rfl
theorem lead_234 : leadOf Try.prog 234 = [180, 189, 189, 199, 149, 180, 226, 244, 226, 244, 180, 226, 244] := by unfold leadOf; rw [Try.func234]; kernel_rfl
theorem lead_235 : leadOf Try.prog 235 = [199, 173, 173, 167] := by unfold leadOf; rw [Try.func235]; kernel_rfl
theorem lead_236 : leadOf Try.prog 236 = [] := by unfold leadOf; rw [Try.func236]; kernel_rfl
theorem lead_237 : leadOf Try.prog 237 = [] := by unfold leadOf; rw [Try.func237]; kernel_rfl
theorem lead_238 : leadOf Try.prog 238 = [245] := by unfold leadOf; rw [Try.func238]; kernel_rfl
theorem lead_239 : leadOf Try.prog 239 = [] := by unfold leadOf; rw [Try.func239]; kernel_rfl
theorem lead_240 : leadOf Try.prog 240 = [80, 203, 246] := by unfold leadOf; rw [Try.func240]; kernel_rfl
theorem lead_241 : leadOf Try.prog 241 = [] := by unfold leadOf; rw [Try.func241]; kernel_rfl
theorem lead_242 : leadOf Try.prog 242 = [] := by unfold leadOf; rw [Try.func242]; kernel_rfl
theorem lead_243 : leadOf Try.prog 243 = [] := by unfold leadOf; rw [Try.func243]; kernel_rfl
theorem lead_244 : leadOf Try.prog 244 = [247, 35, 227, 248, 246, 35] := by unfold leadOf; rw [Try.func244]; kernel_rfl
theorem lead_245 : leadOf Try.prog 245 = [80, 80] := by unfold leadOf; rw [Try.func245]; kernel_rfl
theorem lead_246 : leadOf Try.prog 246 = [249] := by unfold leadOf; rw [Try.func246]; kernel_rfl
theorem lead_247 : leadOf Try.prog 247 = [151, 151, 151] := by unfold leadOf; rw [Try.func247]; kernel_rfl
theorem lead_248 : leadOf Try.prog 248 = [] := by unfold leadOf; rw [Try.func248]; kernel_rfl
theorem lead_249 : leadOf Try.prog 249 = [250] := by unfold leadOf; rw [Try.func249]; kernel_rfl
theorem lead_250 : leadOf Try.prog 250 = [] := by unfold leadOf; rw [Try.func250]; kernel_rfl
theorem lead_251 : leadOf Try.prog 251 = [] := by unfold leadOf; rw [Try.func251]; kernel_rfl
theorem lead_252 : leadOf Try.prog 252 = [] := by unfold leadOf; rw [Try.func252]; kernel_rfl
theorem lead_253 : leadOf Try.prog 253 = [] := by unfold leadOf; rw [Try.func253]; kernel_rfl
theorem lead_254 : leadOf Try.prog 254 = [] := by unfold leadOf; rw [Try.func254]; kernel_rfl
theorem lead_255 : leadOf Try.prog 255 = [] := by unfold leadOf; rw [Try.func255]; kernel_rfl
theorem lead_256 : leadOf Try.prog 256 = [] := by unfold leadOf; rw [Try.func256]; kernel_rfl
theorem lead_257 : leadOf Try.prog 257 = [] := by unfold leadOf; rw [Try.func257]; kernel_rfl
theorem lead_258 : leadOf Try.prog 258 = [] := by unfold leadOf; rw [Try.func258]; kernel_rfl
theorem lead_259 : leadOf Try.prog 259 = [] := by unfold leadOf; rw [Try.func259]; kernel_rfl
theorem lead_260 : leadOf Try.prog 260 = [] := by unfold leadOf; rw [Try.func260]; kernel_rfl
theorem lead_261 : leadOf Try.prog 261 = [] := by unfold leadOf; rw [Try.func261]; kernel_rfl
theorem lead_262 : leadOf Try.prog 262 = [] := by unfold leadOf; rw [Try.func262]; kernel_rfl
theorem lead_263 : leadOf Try.prog 263 = [] := by unfold leadOf; rw [Try.func263]; kernel_rfl
theorem lead_264 : leadOf Try.prog 264 = [] := by unfold leadOf; rw [Try.func264]; kernel_rfl
theorem lead_265 : leadOf Try.prog 265 = [] := by unfold leadOf; rw [Try.func265]; kernel_rfl
theorem lead_266 : leadOf Try.prog 266 = [] := by unfold leadOf; rw [Try.func266]; kernel_rfl
def leadT : List (List Nat) := [[], [], [1], [36, 35, 36, 37, 36, 38], [39, 40, 41, 42, 43, 44, 45], [36, 46, 36, 47, 38, 36, 38, 48, 38, 48, 49, 36, 47, 38, 49], [39, 50, 51, 51, 51], [52, 54, 53, 54, 55, 54, 56], [57, 43, 56, 58, 59, 43, 56, 59], [36, 60, 36, 61, 62, 36, 38, 48, 62, 63, 64, 36, 61, 62, 64], [36, 65, 36, 66, 67, 67, 36, 38], [36, 69, 68, 36, 69, 70, 71, 36, 38, 69, 72, 48, 73, 71, 74, 75, 36, 69, 70, 71, 75], [36, 76, 36, 77, 38, 36, 38, 48, 38, 48, 49, 36, 77, 38, 49], [39, 78, 79, 79, 79, 80], [39, 81, 82, 82, 83, 84, 85, 86, 82, 82], [39, 88, 87, 89, 89, 90], [36, 91, 36, 92, 72, 36, 38, 48, 72, 73, 93, 36, 92, 72, 93], [39, 84, 84, 88, 87, 89, 89, 86, 89, 90], [36, 94, 36, 95, 38, 36, 38, 48, 38, 48, 49, 36, 95, 38, 49], [39, 96, 61, 61], [39, 97, 47, 47, 98, 99, 47], [36, 100, 36, 101, 102, 36, 38, 48, 102, 103, 104, 36, 101, 102, 104], [39, 105, 77, 77, 35, 90], [39, 106, 107, 108, 109, 110, 98], [39, 88, 111, 101, 112], [36, 36, 113, 36, 36, 114, 36, 38, 36, 38], [39, 88, 111, 111, 115, 115, 116, 116, 116, 116], [39, 88, 111, 84, 89, 95, 90], [39, 40, 111, 92, 70, 47, 92, 117, 98], [39, 118, 84, 111, 89, 111, 89, 119, 79], [39, 120, 115, 115, 121, 116, 116], [36, 36, 122, 36, 36, 119, 123, 36, 38, 36, 38, 48, 48, 123, 124, 125, 36, 36, 119, 123, 125], [39, 126, 127, 127, 128, 129, 130, 45, 45, 45], [36, 36, 131, 36, 36, 132, 123, 36, 38, 36, 38, 48, 48, 123, 124, 125, 36, 36, 132, 123, 125], [39, 133, 119, 132, 115, 114, 116, 114, 114, 130, 134, 99], [135, 136], [], [137, 138], [67], [], [139, 140, 141], [142, 143, 111, 89], [142], [55], [55, 92, 70, 95, 132, 144], [145, 146], [135], [148, 137], [], [], [139, 149], [], [150], [135, 135, 151], [152], [137, 137, 153], [67, 67, 67, 154], [53], [155], [156], [], [], [157], [], [], [110, 159, 158, 160, 158], [161, 107, 162, 108, 162], [], [135, 135], [], [163, 137, 148], [38], [], [], [48], [49], [164, 35, 35], [165, 37, 37], [166], [129, 129], [83, 135], [139, 167, 149], [], [168, 169], [139, 170], [51, 171, 171], [82, 171, 171, 171], [129, 172], [139, 173, 174], [171, 37, 175, 82, 176, 37], [], [60, 135, 135, 135], [61, 163, 137, 178, 177], [], [65, 110], [66, 161], [139, 179, 180, 181, 173], [139, 179, 173, 180, 182, 180, 182, 173], [99], [183], [110, 185, 184], [161, 109, 186], [187], [], [], [188, 139, 173], [139, 189], [190], [190], [190], [191, 135, 136], [129, 192, 193, 172, 172, 194], [45], [121, 195], [115, 116, 153], [196, 197], [196, 198, 197], [], [139, 199], [101, 101, 116, 201, 200, 201, 200], [139, 189, 189], [202, 202], [100, 100, 195, 203, 203, 204, 204], [102], [103], [104], [139, 205, 206], [207], [127], [137, 208, 209], [211], [122, 113, 212, 121, 213, 214], [119, 114, 130, 115, 128, 127], [215, 139, 173, 180, 181], [99, 216], [], [], [], [217, 218], [], [199, 173, 173, 173], [182, 182, 173, 173], [137, 129], [142, 137, 211], [211, 211, 142], [], [147], [], [], [170, 173, 206, 206, 206, 206], [], [], [], [], [], [219], [219], [], [], [220], [191, 220], [138], [], [137], [135], [137], [139, 221, 180, 221, 222], [223, 223, 223], [], [168, 168], [182, 173, 173, 173], [153, 153, 153], [201, 176], [224, 224, 224, 224, 224], [173, 173, 173], [201], [225], [], [137], [173, 173, 174, 226, 180, 173, 46, 180, 180, 173], [173], [173, 173], [173], [], [227, 203, 80], [191, 220], [175, 129], [67, 228], [139, 229, 180, 182, 173], [221, 180, 226, 180, 173, 223, 173, 173], [161, 148], [], [230], [230], [231], [202, 202], [232, 232], [], [], [173, 173, 174], [233, 233], [], [160, 184, 110], [], [], [234, 122, 180, 235], [180, 181, 173, 180, 173, 180], [129, 211, 129], [236], [210], [153, 153, 153], [], [237], [238], [238], [139, 234, 173], [99, 99], [239], [153], [], [110], [173, 180, 182, 222], [167, 180, 167], [180, 181, 180, 182, 173], [], [], [80, 241, 240, 240], [], [67, 67], [180, 173, 223, 221, 180, 240, 180, 173, 223, 180], [242, 243], [], [108, 186, 161, 197], [], [180, 189, 189, 199, 149, 180, 226, 244, 226, 244, 180, 226, 244], [199, 173, 173, 167], [], [], [245], [], [80, 203, 246], [], [], [], [247, 35, 227, 248, 246, 35], [80, 80], [249], [151, 151, 151], [], [250], [], [], [], [], [], [], [], [], [], [], [], [], [], [], [], [], []]
set_option maxRecDepth 100000 in
theorem lead_ok : OkT Try.prog 0 leadT := ⟨lead_0, lead_1, lead_2, lead_3, lead_4, lead_5, lead_6, lead_7, lead_8, lead_9, lead_10, lead_11, lead_12, lead_13, lead_14, lead_15, lead_16, lead_17, lead_18, lead_19, lead_20, lead_21, lead_22, lead_23, lead_24, lead_25, lead_26, lead_27, lead_28, lead_29, lead_30, lead_31, lead_32, lead_33, lead_34, lead_35, lead_36, lead_37, lead_38, lead_39, lead_40, lead_41, lead_42, lead_43, lead_44, lead_45, lead_46, lead_47, lead_48, lead_49, lead_50, lead_51, lead_52, lead_53, lead_54, lead_55, lead_56, lead_57, lead_58, lead_59, lead_60, lead_61, lead_62, lead_63, lead_64, lead_65, lead_66, lead_67, lead_68, lead_69, lead_70, lead_71, lead_72, lead_73, lead_74, lead_75, lead_76, lead_77, lead_78, lead_79, lead_80, lead_81, lead_82, lead_83, lead_84, lead_85, lead_86, lead_87, lead_88, lead_89, lead_90, lead_91, lead_92, lead_93, lead_94, lead_95, lead_96, lead_97, lead_98, lead_99, lead_100, lead_101, lead_102, lead_103, lead_104, lead_105, lead_106, lead_107, lead_108, lead_109, lead_110, lead_111, lead_112, lead_113, lead_114, lead_115, lead_116, lead_117, lead_118, lead_119, lead_120, lead_121, lead_122, lead_123, lead_124, lead_125, lead_126, lead_127, lead_128, lead_129, lead_130, lead_131, lead_132, lead_133, lead_134, lead_135, lead_136, lead_137, lead_138, lead_139, lead_140, lead_141, lead_142, lead_143, lead_144, lead_145, lead_146, lead_147, lead_148, lead_149, lead_150, lead_151, lead_152, lead_153, lead_154, lead_155, lead_156, lead_157, lead_158, lead_159, lead_160, lead_161, lead_162, lead_163, lead_164, lead_165, lead_166, lead_167, lead_168, lead_169, lead_170, lead_171, lead_172, lead_173, lead_174, lead_175, lead_176, lead_177, lead_178, lead_179, lead_180, lead_181, lead_182, lead_183, lead_184, lead_185, lead_186, lead_187, lead_188, lead_189, lead_190, lead_191, lead_192, lead_193, lead_194, lead_195, lead_196, lead_197, lead_198, lead_199, lead_200, lead_201, lead_202, lead_203, lead_204, lead_205, lead_206, lead_207, lead_208, lead_209, lead_210, lead_211, lead_212, lead_213, lead_214, lead_215, lead_216, lead_217, lead_218, lead_219, lead_220, lead_221, lead_222, lead_223, lead_224, lead_225, lead_226, lead_227, lead_228, lead_229, lead_230, lead_231, lead_232, lead_233, lead_234, lead_235, lead_236, lead_237, lead_238, lead_239, lead_240, lead_241, lead_242, lead_243, lead_244, lead_245, lead_246, lead_247, lead_248, lead_249, lead_250, lead_251, lead_252, lead_253, lead_254, lead_255, lead_256, lead_257, lead_258, lead_259, lead_260, lead_261, lead_262, lead_263, lead_264, lead_265, lead_266, trivial⟩
theorem lead_size : Try.prog.funcs.size = leadT.length := by kernel_rfl
theorem closure_of (f : Nat) : Try.prog.closure f = clG (tabG leadT) (fuelT leadT) [f] [] := closure_tab lead_size lead_ok f
theorem recurses_of (f : Nat) : Try.prog.recurses f = (Try.prog.unfollowed f || recG leadT (Try.prog.closure f)) := recurses_tab lead_size lead_ok f
def headSigns : List Nat := [104, 97, 114, 110, 101, 115, 115, 32, 100, 102, 97, 49, 102, 101, 102, 51, 97, 48, 52, 54, 99, 49, 50, 100, 97, 51, 102, 55, 50, 99, 53, 54, 49, 52, 52, 99, 56, 99, 52, 52, 51, 102, 102, 51, 52, 98, 50, 57, 100, 101, 51, 51, 99, 56, 57, 50, 55, 100, 52, 48, 49, 48, 50, 51, 98, 56, 57, 48, 102, 54, 53, 48, 32, 99, 117, 116, 32, 97, 116, 32, 108, 111, 111, 112, 46, 101, 120, 97, 109, 112, 108, 101, 47, 103, 48, 51, 51, 50, 54, 47, 108, 97, 119, 115, 46, 70, 110, 69, 120, 97, 99, 116, 83, 97, 109, 112, 108, 101, 115, 79, 107, 32, 108, 111, 111, 112, 46, 101, 120, 97, 109, 112, 108, 101, 47, 103, 48, 51, 51, 50, 54, 47, 108, 97, 119, 115, 46, 70, 110, 84, 111, 112, 32, 108, 111, 111, 112, 46, 101, 120, 97, 109, 112, 108, 101, 47, 103, 48, 51, 51, 50, 54, 47, 108, 97, 119, 115, 46, 70, 110, 69, 120, 97, 99, 116, 69, 114, 97, 115, 101, 32, 108, 111, 111, 112, 46, 101, 120, 97, 109, 112, 108, 101, 47, 103, 48, 51, 51, 50, 54, 47, 108, 97, 119, 115, 46, 70, 110, 80, 111, 119, 101, 114, 115, 32, 108, 111, 111, 112, 46, 101, 120, 97, 109, 112, 108, 101, 47, 103, 48, 51, 51, 50, 54, 47, 108, 97, 119, 115, 46, 70, 110, 69, 120, 97, 99, 116, 83, 101, 116, 79, 107, 32, 108, 111, 111, 112, 46, 101, 120, 97, 109, 112, 108, 101, 47, 103, 48, 51, 51, 50, 54, 47, 108, 97, 119, 115, 46, 70, 110, 69, 120, 97, 99, 116, 78, 101, 119, 83, 101, 116, 32, 108, 111, 111, 112, 46, 101, 120, 97, 109, 112, 108, 101, 47, 103, 48, 51, 51, 50, 54, 47, 108, 97, 119, 115, 46, 70, 110, 69, 120, 97, 99, 116, 76, 111, 119, 115, 32, 108, 111, 111, 112, 46, 101, 120, 97, 109, 112, 108, 101, 47, 103, 48, 51, 51, 50, 54, 47, 108, 97, 119, 115, 46, 70, 110, 69, 120, 97, 99, 116, 76, 101, 118, 101, 108, 115, 32, 108, 111, 111, 112, 46, 101, 120, 97, 109, 112, 108, 101, 47, 103, 48, 51, 51, 50, 54, 47, 108, 97, 119, 115, 46, 70, 110, 69, 120, 97, 99, 116, 67, 117, 116, 76, 105, 110, 101, 115, 32, 108, 111, 111, 112, 46, 101, 120, 97, 109, 112, 108, 101, 47, 103, 48, 51, 51, 50, 54, 47, 108, 97, 119, 115, 46, 70, 110, 69, 120, 97, 99, 116, 69, 99, 104, 111, 32, 108, 111, 111, 112, 46, 101, 120, 97, 109, 112, 108, 101, 47, 103, 48, 51, 51, 50, 54, 47, 108, 97, 119, 115, 46, 70, 110, 72, 117, 101, 84, 117, 114, 110, 83, 105, 100, 101, 115, 32, 108, 111, 111, 112, 46, 101, 120, 97, 109, 112, 108, 101, 47, 103, 48, 51, 51, 50, 54, 47, 108, 97, 119, 115, 46, 70, 110, 84, 105, 109, 101, 115, 32, 108, 111, 111, 112, 46, 101, 120, 97, 109, 112, 108, 101, 47, 103, 48, 51, 51, 50, 54, 47, 108, 97, 119, 115, 46, 70, 110, 80, 108, 97, 105, 110, 67, 104, 97, 110, 110, 101, 108, 32, 108, 111, 111, 112, 46, 101, 120, 97, 109, 112, 108, 101, 47, 103, 48, 51, 51, 50, 54, 47, 108, 97, 119, 115, 46, 70, 110, 69, 120, 97, 99, 116, 83, 116, 97, 114, 116, 115, 32, 108, 111, 111, 112, 46, 101, 120, 97, 109, 112, 108, 101, 47, 103, 48, 51, 51, 50, 54, 47, 108, 97, 119, 115, 46, 70, 110, 67, 104, 97, 105, 110, 101, 100, 32, 108, 111, 111, 112, 46, 101, 120, 97, 109, 112, 108, 101, 47, 103, 48, 51, 51, 50, 54, 47, 108, 97, 119, 115, 46, 70, 110, 69, 120, 97, 99, 116, 84, 111, 76, 101, 118, 101, 108, 32, 108, 111, 111, 112, 46, 101, 120, 97, 109, 112, 108, 101, 47, 103, 48, 51, 51, 50, 54, 47, 108, 97, 119, 115, 46, 70, 110, 76, 111, 119, 115, 32, 108, 111, 111, 112, 46, 101, 120, 97, 109, 112, 108, 101, 47, 103, 48, 51, 51, 50, 54, 47, 108, 97, 119, 115, 46, 70, 110, 69, 114, 97, 115, 101, 100, 32, 108, 111, 111, 112, 46, 101, 120, 97, 109, 112, 108, 101, 47, 103, 48, 51, 51, 50, 54, 47, 108, 97, 119, 115, 46, 70, 110, 69, 120, 97, 99, 116, 68, 101, 99, 111, 100, 101, 65, 108, 111, 110, 101, 32, 108, 111, 111, 112, 46, 101, 120, 97, 109, 112, 108, 101, 47, 103, 48, 51, 51, 50, 54, 47, 108, 97, 119, 115, 46, 70, 110, 78, 111, 69, 99, 104, 111, 32, 108, 111, 111, 112, 46, 101, 120, 97, 109, 112, 108, 101, 47, 103, 48, 51, 51, 50, 54, 47, 108, 97, 119, 115, 46, 70, 110, 76, 105, 110, 101, 80, 97, 114, 116, 115, 32, 108, 111, 111, 112, 46, 101, 120, 97, 109, 112, 108, 101, 47, 103, 48, 51, 51, 50, 54, 47, 108, 97, 119, 115, 46, 70, 110, 65, 108, 111, 110, 101, 32, 108, 111, 111, 112, 46, 101, 120, 97, 109, 112, 108, 101, 47, 103, 48, 51, 51, 50, 54, 47, 108, 97, 119, 115, 46, 70, 110, 69, 120, 97, 99, 116, 73, 115, 75, 105, 108, 108, 101, 100, 32, 108, 111, 111, 112, 46, 101, 120, 97, 109, 112, 108, 101, 47, 103, 48, 51, 51, 50, 54, 47, 108, 97, 119, 115, 46, 70, 110, 66, 117, 114, 115, 116, 115, 83, 119, 105, 110, 103, 32, 108, 111, 111, 112, 46, 101, 120, 97, 109, 112, 108, 101, 47, 103, 48, 51, 51, 50, 54, 47, 108, 97, 119, 115, 46, 70, 110, 76, 101, 118, 101, 108, 108, 101, 100, 32, 108, 111, 111, 112, 46, 101, 120, 97, 109, 112, 108, 101, 47, 103, 48, 51, 51, 50, 54, 47, 108, 97, 119, 115, 46, 70, 110, 67, 117, 116, 74, 111, 105, 110, 101, 100, 32, 108, 111, 111, 112, 46, 101, 120, 97, 109, 112, 108, 101, 47, 103, 48, 51, 51, 50, 54, 47, 108, 97, 119, 115, 46, 70, 110, 72, 117, 101, 76, 111, 115, 116, 32, 108, 111, 111, 112, 46, 101, 120, 97, 109, 112, 108, 101, 47, 103, 48, 51, 51, 50, 54, 47, 108, 97, 119, 115, 46, 70, 110, 83, 119, 105, 110, 103, 84, 117, 114, 110, 101, 100, 32, 108, 111, 111, 112, 46, 101, 120, 97, 109, 112, 108, 101, 47, 103, 48, 51, 51, 50, 54, 47, 108, 97, 119, 115, 46, 70, 110, 69, 120, 97, 99, 116, 68, 101, 99, 111, 100, 101, 80, 97, 105, 114, 32, 108, 111, 111, 112, 46, 101, 120, 97, 109, 112, 108, 101, 47, 103, 48, 51, 51, 50, 54, 47, 108, 97, 119, 115, 46, 70, 110, 83, 97, 116, 117, 114, 97, 116, 101, 100, 32, 108, 111, 111, 112, 46, 101, 120, 97, 109, 112, 108, 101, 47, 103, 48, 51, 51, 50, 54, 47, 108, 97, 119, 115, 46, 70, 110, 69, 120, 97, 99, 116, 84, 97, 107, 101, 80, 97, 105, 114, 32, 108, 111, 111, 112, 46, 101, 120, 97, 109, 112, 108, 101, 47, 103, 48, 51, 51, 50, 54, 47, 108, 97, 119, 115, 46, 70, 110, 75, 105, 108, 108, 101, 100]
set_option maxRecDepth 100000 in
theorem head_lit : Try.prog.initOrder = "harness dfa1fef3a046c12da3f72c56144c8c443ff34b29de33c8927d401023b890f650 cut at loop.example/g03326/laws.FnExactSamplesOk loop.example/g03326/laws.FnTop loop.example/g03326/laws.FnExactErase loop.example/g03326/laws.FnPowers loop.example/g03326/laws.FnExactSetOk loop.example/g03326/laws.FnExactNewSet loop.example/g03326/laws.FnExactLows loop.example/g03326/laws.FnExactLevels loop.example/g03326/laws.FnExactCutLines loop.example/g03326/laws.FnExactEcho loop.example/g03326/laws.FnHueTurnSides loop.example/g03326/laws.FnTimes loop.example/g03326/laws.FnPlainChannel loop.example/g03326/laws.FnExactStarts loop.example/g03326/laws.FnChained loop.example/g03326/laws.FnExactToLevel loop.example/g03326/laws.FnLows loop.example/g03326/laws.FnErased loop.example/g03326/laws.FnExactDecodeAlone loop.example/g03326/laws.FnNoEcho loop.example/g03326/laws.FnLineParts loop.example/g03326/laws.FnAlone loop.example/g03326/laws.FnExactIsKilled loop.example/g03326/laws.FnBurstsSwing loop.example/g03326/laws.FnLevelled loop.example/g03326/laws.FnCutJoined loop.example/g03326/laws.FnHueLost loop.example/g03326/laws.FnSwingTurned loop.example/g03326/laws.FnExactDecodePair loop.example/g03326/laws.FnSaturated loop.example/g03326/laws.FnExactTakePair loop.example/g03326/laws.FnKilled" := by kernel_rfl
set_option maxRecDepth 100000 in
theorem lit_signs : "harness dfa1fef3a046c12da3f72c56144c8c443ff34b29de33c8927d401023b890f650 cut at loop.example/g03326/laws.FnExactSamplesOk loop.example/g03326/laws.FnTop loop.example/g03326/laws.FnExactErase loop.example/g03326/laws.FnPowers loop.example/g03326/laws.FnExactSetOk loop.example/g03326/laws.FnExactNewSet loop.example/g03326/laws.FnExactLows loop.example/g03326/laws.FnExactLevels loop.example/g03326/laws.FnExactCutLines loop.example/g03326/laws.FnExactEcho loop.example/g03326/laws.FnHueTurnSides loop.example/g03326/laws.FnTimes loop.example/g03326/laws.FnPlainChannel loop.example/g03326/laws.FnExactStarts loop.example/g03326/laws.FnChained loop.example/g03326/laws.FnExactToLevel loop.example/g03326/laws.FnLows loop.example/g03326/laws.FnErased loop.example/g03326/laws.FnExactDecodeAlone loop.example/g03326/laws.FnNoEcho loop.example/g03326/laws.FnLineParts loop.example/g03326/laws.FnAlone loop.example/g03326/laws.FnExactIsKilled loop.example/g03326/laws.FnBurstsSwing loop.example/g03326/laws.FnLevelled loop.example/g03326/laws.FnCutJoined loop.example/g03326/laws.FnHueLost loop.example/g03326/laws.FnSwingTurned loop.example/g03326/laws.FnExactDecodePair loop.example/g03326/laws.FnSaturated loop.example/g03326/laws.FnExactTakePair loop.example/g03326/laws.FnKilled" = String.ofList (headSigns.map Char.ofNat) := by kernel_rfl
theorem head_signs : Try.prog.initOrder.toList = headSigns.map Char.ofNat := by rw [head_lit, lit_signs]; exact String.toList_ofList
def headWords : List (List Nat) := [[104, 97, 114, 110, 101, 115, 115], [100, 102, 97, 49, 102, 101, 102, 51, 97, 48, 52, 54, 99, 49, 50, 100, 97, 51, 102, 55, 50, 99, 53, 54, 49, 52, 52, 99, 56, 99, 52, 52, 51, 102, 102, 51, 52, 98, 50, 57, 100, 101, 51, 51, 99, 56, 57, 50, 55, 100, 52, 48, 49, 48, 50, 51, 98, 56, 57, 48, 102, 54, 53, 48], [99, 117, 116], [97, 116], [108, 111, 111, 112, 46, 101, 120, 97, 109, 112, 108, 101, 47, 103, 48, 51, 51, 50, 54, 47, 108, 97, 119, 115, 46, 70, 110, 69, 120, 97, 99, 116, 83, 97, 109, 112, 108, 101, 115, 79, 107], [108, 111, 111, 112, 46, 101, 120, 97, 109, 112, 108, 101, 47, 103, 48, 51, 51, 50, 54, 47, 108, 97, 119, 115, 46, 70, 110, 84, 111, 112], [108, 111, 111, 112, 46, 101, 120, 97, 109, 112, 108, 101, 47, 103, 48, 51, 51, 50, 54, 47, 108, 97, 119, 115, 46, 70, 110, 69, 120, 97, 99, 116, 69, 114, 97, 115, 101], [108, 111, 111, 112, 46, 101, 120, 97, 109, 112, 108, 101, 47, 103, 48, 51, 51, 50, 54, 47, 108, 97, 119, 115, 46, 70, 110, 80, 111, 119, 101, 114, 115], [108, 111, 111, 112, 46, 101, 120, 97, 109, 112, 108, 101, 47, 103, 48, 51, 51, 50, 54, 47, 108, 97, 119, 115, 46, 70, 110, 69, 120, 97, 99, 116, 83, 101, 116, 79, 107], [108, 111, 111, 112, 46, 101, 120, 97, 109, 112, 108, 101, 47, 103, 48, 51, 51, 50, 54, 47, 108, 97, 119, 115, 46, 70, 110, 69, 120, 97, 99, 116, 78, 101, 119, 83, 101, 116], [108, 111, 111, 112, 46, 101, 120, 97, 109, 112, 108, 101, 47, 103, 48, 51, 51, 50, 54, 47, 108, 97, 119, 115, 46, 70, 110, 69, 120, 97, 99, 116, 76, 111, 119, 115], [108, 111, 111, 112, 46, 101, 120, 97, 109, 112, 108, 101, 47, 103, 48, 51, 51, 50, 54, 47, 108, 97, 119, 115, 46, 70, 110, 69, 120, 97, 99, 116, 76, 101, 118, 101, 108, 115], [108, 111, 111, 112, 46, 101, 120, 97, 109, 112, 108, 101, 47, 103, 48, 51, 51, 50, 54, 47, 108, 97, 119, 115, 46, 70, 110, 69, 120, 97, 99, 116, 67, 117, 116, 76, 105, 110, 101, 115], [108, 111, 111, 112, 46, 101, 120, 97, 109, 112, 108, 101, 47, 103, 48, 51, 51, 50, 54, 47, 108, 97, 119, 115, 46, 70, 110, 69, 120, 97, 99, 116, 69, 99, 104, 111], [108, 111, 111, 112, 46, 101, 120, 97, 109, 112, 108, 101, 47, 103, 48, 51, 51, 50, 54, 47, 108, 97, 119, 115, 46, 70, 110, 72, 117, 101, 84, 117, 114, 110, 83, 105, 100, 101, 115], [108, 111, 111, 112, 46, 101, 120, 97, 109, 112, 108, 101, 47, 103, 48, 51, 51, 50, 54, 47, 108, 97, 119, 115, 46, 70, 110, 84, 105, 109, 101, 115], [108, 111, 111, 112, 46, 101, 120, 97, 109, 112, 108, 101, 47, 103, 48, 51, 51, 50, 54, 47, 108, 97, 119, 115, 46, 70, 110, 80, 108, 97, 105, 110, 67, 104, 97, 110, 110, 101, 108], [108, 111, 111, 112, 46, 101, 120, 97, 109, 112, 108, 101, 47, 103, 48, 51, 51, 50, 54, 47, 108, 97, 119, 115, 46, 70, 110, 69, 120, 97, 99, 116, 83, 116, 97, 114, 116, 115], [108, 111, 111, 112, 46, 101, 120, 97, 109, 112, 108, 101, 47, 103, 48, 51, 51, 50, 54, 47, 108, 97, 119, 115, 46, 70, 110, 67, 104, 97, 105, 110, 101, 100], [108, 111, 111, 112, 46, 101, 120, 97, 109, 112, 108, 101, 47, 103, 48, 51, 51, 50, 54, 47, 108, 97, 119, 115, 46, 70, 110, 69, 120, 97, 99, 116, 84, 111, 76, 101, 118, 101, 108], [108, 111, 111, 112, 46, 101, 120, 97, 109, 112, 108, 101, 47, 103, 48, 51, 51, 50, 54, 47, 108, 97, 119, 115, 46, 70, 110, 76, 111, 119, 115], [108, 111, 111, 112, 46, 101, 120, 97, 109, 112, 108, 101, 47, 103, 48, 51, 51, 50, 54, 47, 108, 97, 119, 115, 46, 70, 110, 69, 114, 97, 115, 101, 100], [108, 111, 111, 112, 46, 101, 120, 97, 109, 112, 108, 101, 47, 103, 48, 51, 51, 50, 54, 47, 108, 97, 119, 115, 46, 70, 110, 69, 120, 97, 99, 116, 68, 101, 99, 111, 100, 101, 65, 108, 111, 110, 101], [108, 111, 111, 112, 46, 101, 120, 97, 109, 112, 108, 101, 47, 103, 48, 51, 51, 50, 54, 47, 108, 97, 119, 115, 46, 70, 110, 78, 111, 69, 99, 104, 111], [108, 111, 111, 112, 46, 101, 120, 97, 109, 112, 108, 101, 47, 103, 48, 51, 51, 50, 54, 47, 108, 97, 119, 115, 46, 70, 110, 76, 105, 110, 101, 80, 97, 114, 116, 115], [108, 111, 111, 112, 46, 101, 120, 97, 109, 112, 108, 101, 47, 103, 48, 51, 51, 50, 54, 47, 108, 97, 119, 115, 46, 70, 110, 65, 108, 111, 110, 101], [108, 111, 111, 112, 46, 101, 120, 97, 109, 112, 108, 101, 47, 103, 48, 51, 51, 50, 54, 47, 108, 97, 119, 115, 46, 70, 110, 69, 120, 97, 99, 116, 73, 115, 75, 105, 108, 108, 101, 100], [108, 111, 111, 112, 46, 101, 120, 97, 109, 112, 108, 101, 47, 103, 48, 51, 51, 50, 54, 47, 108, 97, 119, 115, 46, 70, 110, 66, 117, 114, 115, 116, 115, 83, 119, 105, 110, 103], [108, 111, 111, 112, 46, 101, 120, 97, 109, 112, 108, 101, 47, 103, 48, 51, 51, 50, 54, 47, 108, 97, 119, 115, 46, 70, 110, 76, 101, 118, 101, 108, 108, 101, 100], [108, 111, 111, 112, 46, 101, 120, 97, 109, 112, 108, 101, 47, 103, 48, 51, 51, 50, 54, 47, 108, 97, 119, 115, 46, 70, 110, 67, 117, 116, 74, 111, 105, 110, 101, 100], [108, 111, 111, 112, 46, 101, 120, 97, 109, 112, 108, 101, 47, 103, 48, 51, 51, 50, 54, 47, 108, 97, 119, 115, 46, 70, 110, 72, 117, 101, 76, 111, 115, 116], [108, 111, 111, 112, 46, 101, 120, 97, 109, 112, 108, 101, 47, 103, 48, 51, 51, 50, 54, 47, 108, 97, 119, 115, 46, 70, 110, 83, 119, 105, 110, 103, 84, 117, 114, 110, 101, 100], [108, 111, 111, 112, 46, 101, 120, 97, 109, 112, 108, 101, 47, 103, 48, 51, 51, 50, 54, 47, 108, 97, 119, 115, 46, 70, 110, 69, 120, 97, 99, 116, 68, 101, 99, 111, 100, 101, 80, 97, 105, 114], [108, 111, 111, 112, 46, 101, 120, 97, 109, 112, 108, 101, 47, 103, 48, 51, 51, 50, 54, 47, 108, 97, 119, 115, 46, 70, 110, 83, 97, 116, 117, 114, 97, 116, 101, 100], [108, 111, 111, 112, 46, 101, 120, 97, 109, 112, 108, 101, 47, 103, 48, 51, 51, 50, 54, 47, 108, 97, 119, 115, 46, 70, 110, 69, 120, 97, 99, 116, 84, 97, 107, 101, 80, 97, 105, 114], [108, 111, 111, 112, 46, 101, 120, 97, 109, 112, 108, 101, 47, 103, 48, 51, 51, 50, 54, 47, 108, 97, 119, 115, 46, 70, 110, 75, 105, 108, 108, 101, 100]]
theorem head_joined : headSigns.map Char.ofNat = joinSigns (headWords.map (·.map Char.ofNat)) := by kernel_rfl
theorem head_clean : (headWords.map (·.map Char.ofNat)).all noBlank = true := by kernel_rfl
theorem head_split : wordsSigns (headSigns.map Char.ofNat) = headWords.map (·.map Char.ofNat) := by rw [head_joined]; exact wordsSigns_join head_clean (by simp [headWords])
theorem head_behind : behindMainWord (headWords.map (·.map Char.ofNat)) = (headWords.drop 2).map (·.map Char.ofNat) := by kernel_rfl
theorem head_lifts : stripLifts liftWords ((headWords.drop 2).map (·.map Char.ofNat)) = ([], (headWords.drop 2).map (·.map Char.ofNat)) := by kernel_rfl
theorem head_list : (headWords.drop 2).map (·.map Char.ofNat) = "cut".toList :: (headWords.drop 3).map (·.map Char.ofNat) := by kernel_rfl
theorem head_is : behindMainWord (wordsSigns Try.prog.initOrder.toList) = "cut".toList :: (headWords.drop 3).map (·.map Char.ofNat) := by rw [head_signs, head_split, head_behind, head_list]
theorem head_strip : stripLifts liftWords ("cut".toList :: (headWords.drop 3).map (·.map Char.ofNat)) = ([], "cut".toList :: (headWords.drop 3).map (·.map Char.ofNat)) := by have hl := head_lifts; rw [head_list] at hl; exact hl
theorem may_enter : Try.prog.mayEnter = true := may_of head_is head_strip (by kernel_rfl) (by kernel_rfl) (by kernel_rfl)
theorem lifts_final : Try.prog.liftsFinal = false := (lifts_of head_is head_strip).1
theorem make_is : Try.prog.make = some .cut := (lifts_of head_is head_strip).2
end Go.Proofs.Ytiddaabodkglmaa
