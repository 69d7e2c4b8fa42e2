/- Which functions each function of the translation leads to: a fact a function. Printed by gen_graph.py (mine) out of the loaded functions; Lean checks each. -/
import Derived.Test.YtfmghfghhipmhaaDoorProg
import Derived.Test.YtfmghfghhipmhaaDoorGr
import Derived.KernelRfl
namespace Go.Proofs.YtfmghfghhipmhaaDoor
open Go.Fx
theorem lead_0 : leadOf Tryd.prog 0 = [] := by unfold leadOf; rw [Tryd.func0]; kernel_rfl
theorem lead_1 : leadOf Tryd.prog 1 = [] := by unfold leadOf; rw [Tryd.func1]; kernel_rfl
theorem lead_2 : leadOf Tryd.prog 2 = [1] := by unfold leadOf; rw [Tryd.func2]; kernel_rfl
theorem lead_3 : leadOf Tryd.prog 3 = [10, 12, 11, 12, 13, 12, 14] := by unfold leadOf; rw [Tryd.func3]; kernel_rfl
theorem lead_4 : leadOf Tryd.prog 4 = [15, 16, 17, 18, 19, 20, 19] := by unfold leadOf; rw [Tryd.func4]; kernel_rfl
theorem lead_5 : leadOf Tryd.prog 5 = [10, 12, 21, 12, 22, 14, 12, 14, 23, 14, 23, 24, 12, 22, 14, 24] := by unfold leadOf; rw [Tryd.func5]; kernel_rfl
theorem lead_6 : leadOf Tryd.prog 6 = [25, 27, 26, 27, 20, 14, 27, 28, 29, 14, 23, 24, 27, 20, 14, 24] := by unfold leadOf; rw [Tryd.func6]; kernel_rfl
theorem lead_7 : leadOf Tryd.prog 7 = [15, 30, 22, 19, 18, 31, 31, 32, 32] := by unfold leadOf; rw [Tryd.func7]; kernel_rfl
theorem lead_8 : leadOf Tryd.prog 8 = [10, 25, 12, 27, 33, 12, 27, 17, 14, 34, 12, 14, 27, 28, 23, 29, 14, 34, 23, 35, 24, 36, 12, 27, 17, 14, 34, 24, 36] := by unfold leadOf; rw [Tryd.func8]; kernel_rfl
theorem lead_9 : leadOf Tryd.prog 9 = [15, 37, 13, 38, 31, 39, 17, 40, 13] := by unfold leadOf; rw [Tryd.func9]; kernel_rfl
theorem lead_10 : leadOf Tryd.prog 10 = [25] := by unfold leadOf; rw [Tryd.func10]; kernel_rfl
theorem lead_11 : leadOf Tryd.prog 11 = [38, 41, 41, 42, 42, 42] := by unfold leadOf; rw [Tryd.func11]; kernel_rfl
theorem lead_12 : leadOf Tryd.prog 12 = [27] := by unfold leadOf; rw [Tryd.func12]; kernel_rfl
theorem lead_13 : leadOf Tryd.prog 13 = [18, 43, 43, 44, 45, 46] := by unfold leadOf; rw [Tryd.func13]; kernel_rfl
theorem lead_14 : leadOf Tryd.prog 14 = [47, 47, 47, 28] := by unfold leadOf; rw [Tryd.func14]; kernel_rfl
theorem lead_15 : leadOf Tryd.prog 15 = [] := by unfold leadOf; rw [Tryd.func15]; kernel_rfl
theorem lead_16 : leadOf Tryd.prog 16 = [48, 50, 50, 49, 50, 51] := by unfold leadOf; rw [Tryd.func16]; kernel_rfl
theorem lead_17 : leadOf Tryd.prog 17 = [52, 22] := by unfold leadOf; rw [Tryd.func17]; kernel_rfl
theorem lead_18 : leadOf Tryd.prog 18 = [53, 53, 54] := by unfold leadOf; rw [Tryd.func18]; kernel_rfl
theorem lead_19 : leadOf Tryd.prog 19 = [55, 55, 55, 32] := by unfold leadOf; rw [Tryd.func19]; kernel_rfl
theorem lead_20 : leadOf Tryd.prog 20 = [39, 22] := by unfold leadOf; rw [Tryd.func20]; kernel_rfl
theorem lead_21 : leadOf Tryd.prog 21 = [56, 38, 57, 57, 58, 38, 57] := by unfold leadOf; rw [Tryd.func21]; kernel_rfl
theorem lead_22 : leadOf Tryd.prog 22 = [52, 31, 18, 59, 18, 52, 46] := by unfold leadOf; rw [Tryd.func22]; kernel_rfl
theorem lead_23 : leadOf Tryd.prog 23 = [29] := by unfold leadOf; rw [Tryd.func23]; kernel_rfl
theorem lead_24 : leadOf Tryd.prog 24 = [60] := by unfold leadOf; rw [Tryd.func24]; kernel_rfl
theorem lead_25 : leadOf Tryd.prog 25 = [] := by unfold leadOf; rw [Tryd.func25]; kernel_rfl
theorem lead_26 : leadOf Tryd.prog 26 = [49, 21] := by unfold leadOf; rw [Tryd.func26]; kernel_rfl
theorem lead_27 : leadOf Tryd.prog 27 = [] := by unfold leadOf; rw [Tryd.func27]; kernel_rfl
theorem lead_28 : leadOf Tryd.prog 28 = [] := by unfold leadOf; rw [Tryd.func28]; kernel_rfl
theorem lead_29 : leadOf Tryd.prog 29 = [61] := by unfold leadOf; rw [Tryd.func29]; kernel_rfl
theorem lead_30 : leadOf Tryd.prog 30 = [48, 62, 51] := by unfold leadOf; rw [Tryd.func30]; kernel_rfl
theorem lead_31 : leadOf Tryd.prog 31 = [63] := by unfold leadOf; rw [Tryd.func31]; kernel_rfl
theorem lead_32 : leadOf Tryd.prog 32 = [] := by unfold leadOf; rw [Tryd.func32]; kernel_rfl
theorem lead_33 : leadOf Tryd.prog 33 = [57, 21] := by unfold leadOf; rw [Tryd.func33]; kernel_rfl
theorem lead_34 : leadOf Tryd.prog 34 = [] := by unfold leadOf; rw [Tryd.func34]; kernel_rfl
theorem lead_35 : leadOf Tryd.prog 35 = [] := by unfold leadOf; rw [Tryd.func35]; kernel_rfl
theorem lead_36 : leadOf Tryd.prog 36 = [] := by unfold leadOf; rw [Tryd.func36]; kernel_rfl
theorem lead_37 : leadOf Tryd.prog 37 = [48, 62] := by unfold leadOf; rw [Tryd.func37]; kernel_rfl
theorem lead_38 : leadOf Tryd.prog 38 = [64, 64, 65] := by unfold leadOf; rw [Tryd.func38]; kernel_rfl
theorem lead_39 : leadOf Tryd.prog 39 = [18] := by unfold leadOf; rw [Tryd.func39]; kernel_rfl
theorem lead_40 : leadOf Tryd.prog 40 = [] := by unfold leadOf; rw [Tryd.func40]; kernel_rfl
theorem lead_41 : leadOf Tryd.prog 41 = [66] := by unfold leadOf; rw [Tryd.func41]; kernel_rfl
theorem lead_42 : leadOf Tryd.prog 42 = [67, 68] := by unfold leadOf; rw [Tryd.func42]; kernel_rfl
theorem lead_43 : leadOf Tryd.prog 43 = [69] := by unfold leadOf; rw [Tryd.func43]; kernel_rfl
theorem lead_44 : leadOf Tryd.prog 44 = [70, 71, 72] := by unfold leadOf; rw [Tryd.func44]; kernel_rfl
theorem lead_45 : leadOf Tryd.prog 45 = [73, 43, 43] := by unfold leadOf; rw [Tryd.func45]; kernel_rfl
theorem lead_46 : leadOf Tryd.prog 46 = [74, 75, 75, 75, 76] := by unfold leadOf; rw [Tryd.func46]; kernel_rfl
theorem lead_47 : leadOf Tryd.prog 47 = [] := by unfold leadOf; rw [Tryd.func47]; kernel_rfl
theorem lead_48 : leadOf Tryd.prog 48 = [] := by unfold leadOf; rw [Tryd.func48]; kernel_rfl
theorem lead_49 : leadOf Tryd.prog 49 = [38] := by unfold leadOf; rw [Tryd.func49]; kernel_rfl
theorem lead_50 : leadOf Tryd.prog 50 = [77, 77, 77, 77, 77] := by unfold leadOf; rw [Tryd.func50]; kernel_rfl
theorem lead_51 : leadOf Tryd.prog 51 = [50, 50, 68, 50, 68, 50, 68, 50, 41, 50, 41, 78, 50, 68] := by unfold leadOf; rw [Tryd.func51]; kernel_rfl
theorem lead_52 : leadOf Tryd.prog 52 = [79] := by unfold leadOf; rw [Tryd.func52]; kernel_rfl
theorem lead_53 : leadOf Tryd.prog 53 = [] := by unfold leadOf; rw [Tryd.func53]; kernel_rfl
theorem lead_54 : leadOf Tryd.prog 54 = [] := by unfold leadOf; rw [Tryd.func54]; kernel_rfl
theorem lead_55 : leadOf Tryd.prog 55 = [80] := by unfold leadOf; rw [Tryd.func55]; kernel_rfl
theorem lead_56 : leadOf Tryd.prog 56 = [] := by unfold leadOf; rw [Tryd.func56]; kernel_rfl
theorem lead_57 : leadOf Tryd.prog 57 = [] := by unfold leadOf; rw [Tryd.func57]; kernel_rfl
theorem lead_58 : leadOf Tryd.prog 58 = [81, 81, 82, 83] := by unfold leadOf; rw [Tryd.func58]; kernel_rfl
theorem lead_59 : leadOf Tryd.prog 59 = [84, 84, 85, 86] := by unfold leadOf; rw [Tryd.func59]; kernel_rfl
theorem lead_60 : leadOf Tryd.prog 60 = [61] := by unfold leadOf; rw [Tryd.func60]; kernel_rfl
theorem lead_61 : leadOf Tryd.prog 61 = [] := by unfold leadOf; rw [Tryd.func61]; kernel_rfl
theorem lead_62 : leadOf Tryd.prog 62 = [50, 50, 49, 50, 51, 33, 50, 87, 87, 88, 89, 50] := by unfold leadOf; rw [Tryd.func62]; kernel_rfl
theorem lead_63 : leadOf Tryd.prog 63 = [90] := by unfold leadOf; rw [Tryd.func63]; kernel_rfl
theorem lead_64 : leadOf Tryd.prog 64 = [] := by unfold leadOf; rw [Tryd.func64]; kernel_rfl
theorem lead_65 : leadOf Tryd.prog 65 = [] := by unfold leadOf; rw [Tryd.func65]; kernel_rfl
theorem lead_66 : leadOf Tryd.prog 66 = [] := by unfold leadOf; rw [Tryd.func66]; kernel_rfl
theorem lead_67 : leadOf Tryd.prog 67 = [] := by unfold leadOf; rw [Tryd.func67]; kernel_rfl
theorem lead_68 : leadOf Tryd.prog 68 = [64, 41, 41] := by unfold leadOf; rw [Tryd.func68]; kernel_rfl
theorem lead_69 : leadOf Tryd.prog 69 = [91] := by unfold leadOf; rw [Tryd.func69]; kernel_rfl
theorem lead_70 : leadOf Tryd.prog 70 = [92, 93] := by unfold leadOf; rw [Tryd.func70]; kernel_rfl
theorem lead_71 : leadOf Tryd.prog 71 = [94, 95] := by unfold leadOf; rw [Tryd.func71]; kernel_rfl
theorem lead_72 : leadOf Tryd.prog 72 = [92, 93] := by unfold leadOf; rw [Tryd.func72]; kernel_rfl
theorem lead_73 : leadOf Tryd.prog 73 = [53] := by unfold leadOf; rw [Tryd.func73]; kernel_rfl
theorem lead_74 : leadOf Tryd.prog 74 = [96, 97] := by unfold leadOf; rw [Tryd.func74]; kernel_rfl
theorem lead_75 : leadOf Tryd.prog 75 = [96] := by unfold leadOf; rw [Tryd.func75]; kernel_rfl
theorem lead_76 : leadOf Tryd.prog 76 = [] := by unfold leadOf; rw [Tryd.func76]; kernel_rfl
theorem lead_77 : leadOf Tryd.prog 77 = [] := by unfold leadOf; rw [Tryd.func77]; kernel_rfl
theorem lead_78 : leadOf Tryd.prog 78 = [50] := by unfold leadOf; rw [Tryd.func78]; kernel_rfl
theorem lead_79 : leadOf Tryd.prog 79 = [] := by unfold leadOf; rw [Tryd.func79]; kernel_rfl
theorem lead_80 : leadOf Tryd.prog 80 = [] := by unfold leadOf; rw [Tryd.func80]; kernel_rfl
theorem lead_81 : leadOf Tryd.prog 81 = [41] := by unfold leadOf; rw [Tryd.func81]; kernel_rfl
theorem lead_82 : leadOf Tryd.prog 82 = [68] := by unfold leadOf; rw [Tryd.func82]; kernel_rfl
theorem lead_83 : leadOf Tryd.prog 83 = [64] := by unfold leadOf; rw [Tryd.func83]; kernel_rfl
theorem lead_84 : leadOf Tryd.prog 84 = [43] := by unfold leadOf; rw [Tryd.func84]; kernel_rfl
theorem lead_85 : leadOf Tryd.prog 85 = [98, 45] := by unfold leadOf; rw [Tryd.func85]; kernel_rfl
theorem lead_86 : leadOf Tryd.prog 86 = [73] := by unfold leadOf; rw [Tryd.func86]; kernel_rfl
theorem lead_87 : leadOf Tryd.prog 87 = [50, 99, 50, 50] := by unfold leadOf; rw [Tryd.func87]; kernel_rfl
theorem lead_88 : leadOf Tryd.prog 88 = [50, 50] := by unfold leadOf; rw [Tryd.func88]; kernel_rfl
theorem lead_89 : leadOf Tryd.prog 89 = [100, 88, 50, 100, 50, 100] := by unfold leadOf; rw [Tryd.func89]; kernel_rfl
theorem lead_90 : leadOf Tryd.prog 90 = [101, 102, 103] := by unfold leadOf; rw [Tryd.func90]; kernel_rfl
theorem lead_91 : leadOf Tryd.prog 91 = [104] := by unfold leadOf; rw [Tryd.func91]; kernel_rfl
theorem lead_92 : leadOf Tryd.prog 92 = [] := by unfold leadOf; rw [Tryd.func92]; kernel_rfl
theorem lead_93 : leadOf Tryd.prog 93 = [] := by unfold leadOf; rw [Tryd.func93]; kernel_rfl
theorem lead_94 : leadOf Tryd.prog 94 = [] := by unfold leadOf; rw [Tryd.func94]; kernel_rfl
theorem lead_95 : leadOf Tryd.prog 95 = [72] := by unfold leadOf; rw [Tryd.func95]; kernel_rfl
theorem lead_96 : leadOf Tryd.prog 96 = [105] := by unfold leadOf; rw [Tryd.func96]; kernel_rfl
theorem lead_97 : leadOf Tryd.prog 97 = [106] := by unfold leadOf; rw [Tryd.func97]; kernel_rfl
theorem lead_98 : leadOf Tryd.prog 98 = [107] := by unfold leadOf; rw [Tryd.func98]; kernel_rfl
theorem lead_99 : leadOf Tryd.prog 99 = [50] := by unfold leadOf; rw [Tryd.func99]; kernel_rfl
theorem lead_100 : leadOf Tryd.prog 100 = [50] := by unfold leadOf; rw [Tryd.func100]; kernel_rfl
theorem lead_101 : leadOf Tryd.prog 101 = [108, 109] := by unfold leadOf; rw [Tryd.func101]; kernel_rfl
theorem lead_102 : leadOf Tryd.prog 102 = [108, 110, 103] := by unfold leadOf; rw [Tryd.func102]; kernel_rfl
theorem lead_103 : leadOf Tryd.prog 103 = [111] := by unfold leadOf; rw [Tryd.func103]; kernel_rfl
theorem lead_104 : leadOf Tryd.prog 104 = [112, 113, 114, 115] := by unfold leadOf; rw [Tryd.func104]; kernel_rfl
theorem lead_105 : leadOf Tryd.prog 105 = [] := by unfold leadOf; rw [Tryd.func105]; kernel_rfl
theorem lead_106 : leadOf Tryd.prog 106 = [] := by unfold leadOf; rw [Tryd.func106]; kernel_rfl
theorem lead_107 : leadOf Tryd.prog 107 = [116] := by unfold leadOf; rw [Tryd.func107]; kernel_rfl
theorem lead_108 : leadOf Tryd.prog 108 = [] := by unfold leadOf; rw [Tryd.func108]; kernel_rfl
theorem lead_109 : leadOf Tryd.prog 109 = [117] := by unfold leadOf; rw [Tryd.func109]; kernel_rfl
theorem lead_110 : leadOf Tryd.prog 110 = [] := by unfold leadOf; rw [Tryd.func110]; kernel_rfl
theorem lead_111 : leadOf Tryd.prog 111 = [107, 118, 107, 119, 118, 120] := by unfold leadOf; rw [Tryd.func111]; kernel_rfl
theorem lead_112 : leadOf Tryd.prog 112 = [] := by unfold leadOf; rw [Tryd.func112]; kernel_rfl
theorem lead_113 : leadOf Tryd.prog 113 = [122, 121, 123] := by unfold leadOf; rw [Tryd.func113]; kernel_rfl
theorem lead_114 : leadOf Tryd.prog 114 = [] := by unfold leadOf; rw [Tryd.func114]; kernel_rfl
theorem lead_115 : leadOf Tryd.prog 115 = [124, 125] := by unfold leadOf; rw [Tryd.func115]; kernel_rfl
theorem lead_116 : leadOf Tryd.prog 116 = [] := by unfold leadOf; rw [Tryd.func116]; kernel_rfl
theorem lead_117 : leadOf Tryd.prog 117 = [] := by unfold leadOf; rw [Tryd.func117]; kernel_rfl
theorem lead_118 : leadOf Tryd.prog 118 = [] := by unfold leadOf; rw [Tryd.func118]; kernel_rfl
theorem lead_119 : leadOf Tryd.prog 119 = [] := by unfold leadOf; rw [Tryd.func119]; kernel_rfl
theorem lead_120 : leadOf Tryd.prog 120 = [126] := by unfold leadOf; rw [Tryd.func120]; kernel_rfl
theorem lead_121 : leadOf Tryd.prog 121 = [] := by unfold leadOf; rw [Tryd.func121]; kernel_rfl
theorem lead_122 : leadOf Tryd.prog 122 = [] := by unfold leadOf; rw [Tryd.func122]; kernel_rfl
theorem lead_123 : leadOf Tryd.prog 123 = [] := by unfold leadOf; rw [Tryd.func123]; kernel_rfl
theorem lead_124 : leadOf Tryd.prog 124 = [] := by unfold leadOf; rw [Tryd.func124]; kernel_rfl
theorem lead_125 : leadOf Tryd.prog 125 = [127, 128] := by unfold leadOf; rw [Tryd.func125]; kernel_rfl
theorem lead_126 : leadOf Tryd.prog 126 = [] := by unfold leadOf; rw [Tryd.func126]; kernel_rfl
theorem lead_127 : leadOf Tryd.prog 127 = [] := by unfold leadOf; rw [Tryd.func127]; kernel_rfl
theorem lead_128 : leadOf Tryd.prog 128 = [] := by unfold leadOf; rw [Tryd.func128]; kernel_rfl
theorem lead_129 : leadOf Tryd.prog 129 = [] := by unfold leadOf; rw [Tryd.func129]; kernel_rfl
theorem lead_130 : leadOf Tryd.prog 130 = [] := by unfold leadOf; rw [Tryd.func130]; kernel_rfl
theorem lead_131 : leadOf Tryd.prog 131 = [] := by unfold leadOf; rw [Tryd.func131]; kernel_rfl
theorem lead_132 : leadOf Tryd.prog 132 = [] := by unfold leadOf; rw [Tryd.func132]; kernel_rfl
theorem lead_133 : leadOf Tryd.prog 133 = [] := by unfold leadOf; rw [Tryd.func133]; kernel_rfl
theorem lead_134 : leadOf Tryd.prog 134 = [] := by unfold leadOf; rw [Tryd.func134]; kernel_rfl
theorem lead_135 : leadOf Tryd.prog 135 = [] := by unfold leadOf; rw [Tryd.func135]; kernel_rfl
theorem lead_136 : leadOf Tryd.prog 136 = [] := by unfold leadOf; rw [Tryd.func136]; kernel_rfl
theorem lead_137 : leadOf Tryd.prog 137 = [] := by unfold leadOf; rw [Tryd.func137]; kernel_rfl
theorem lead_138 : leadOf Tryd.prog 138 = [] := by unfold leadOf; rw [Tryd.func138]; kernel_rfl
theorem lead_139 : leadOf Tryd.prog 139 = [] := by unfold leadOf; rw [Tryd.func139]; kernel_rfl
theorem lead_140 : leadOf Tryd.prog 140 = [] := by unfold leadOf; rw [Tryd.func140]; kernel_rfl
theorem lead_141 : leadOf Tryd.prog 141 = [] := by unfold leadOf; rw [Tryd.func141]; kernel_rfl
theorem lead_142 : leadOf Tryd.prog 142 = [] := by unfold leadOf; rw [Tryd.func142]; kernel_rfl
theorem lead_143 : leadOf Tryd.prog 143 = [] := by unfold leadOf; rw [Tryd.func143]; kernel_rfl
theorem lead_144 : leadOf Tryd.prog 144 = [] := by unfold leadOf; rw [Tryd.func144]; kernel_rfl
theorem lead_145 : leadOf Tryd.prog 145 = [] := by unfold leadOf; rw [Tryd.func145]; kernel_rfl
theorem lead_146 : leadOf Tryd.prog 146 = [] := by unfold leadOf; rw [Tryd.func146]; kernel_rfl
theorem lead_147 : leadOf Tryd.prog 147 = [] := by unfold leadOf; rw [Tryd.func147]; kernel_rfl
theorem lead_148 : leadOf Tryd.prog 148 = [] := by unfold leadOf; rw [Tryd.func148]; kernel_rfl
theorem lead_149 : leadOf Tryd.prog 149 = [] := by unfold leadOf; rw [Tryd.func149]; kernel_rfl
theorem lead_150 : leadOf Tryd.prog 150 = [] := by unfold leadOf; rw [Tryd.func150]; kernel_rfl
theorem lead_151 : leadOf Tryd.prog 151 = [] := by unfold leadOf; rw [Tryd.func151]; kernel_rfl
theorem lead_152 : leadOf Tryd.prog 152 = [] := by unfold leadOf; rw [Tryd.func152]; kernel_rfl
theorem lead_153 : leadOf Tryd.prog 153 = [] := by unfold leadOf; rw [Tryd.func153]; kernel_rfl
def leadT : List (List Nat) := [[], [], [1], [10, 12, 11, 12, 13, 12, 14], [15, 16, 17, 18, 19, 20, 19], [10, 12, 21, 12, 22, 14, 12, 14, 23, 14, 23, 24, 12, 22, 14, 24], [25, 27, 26, 27, 20, 14, 27, 28, 29, 14, 23, 24, 27, 20, 14, 24], [15, 30, 22, 19, 18, 31, 31, 32, 32], [10, 25, 12, 27, 33, 12, 27, 17, 14, 34, 12, 14, 27, 28, 23, 29, 14, 34, 23, 35, 24, 36, 12, 27, 17, 14, 34, 24, 36], [15, 37, 13, 38, 31, 39, 17, 40, 13], [25], [38, 41, 41, 42, 42, 42], [27], [18, 43, 43, 44, 45, 46], [47, 47, 47, 28], [], [48, 50, 50, 49, 50, 51], [52, 22], [53, 53, 54], [55, 55, 55, 32], [39, 22], [56, 38, 57, 57, 58, 38, 57], [52, 31, 18, 59, 18, 52, 46], [29], [60], [], [49, 21], [], [], [61], [48, 62, 51], [63], [], [57, 21], [], [], [], [48, 62], [64, 64, 65], [18], [], [66], [67, 68], [69], [70, 71, 72], [73, 43, 43], [74, 75, 75, 75, 76], [], [], [38], [77, 77, 77, 77, 77], [50, 50, 68, 50, 68, 50, 68, 50, 41, 50, 41, 78, 50, 68], [79], [], [], [80], [], [], [81, 81, 82, 83], [84, 84, 85, 86], [61], [], [50, 50, 49, 50, 51, 33, 50, 87, 87, 88, 89, 50], [90], [], [], [], [], [64, 41, 41], [91], [92, 93], [94, 95], [92, 93], [53], [96, 97], [96], [], [], [50], [], [], [41], [68], [64], [43], [98, 45], [73], [50, 99, 50, 50], [50, 50], [100, 88, 50, 100, 50, 100], [101, 102, 103], [104], [], [], [], [72], [105], [106], [107], [50], [50], [108, 109], [108, 110, 103], [111], [112, 113, 114, 115], [], [], [116], [], [117], [], [107, 118, 107, 119, 118, 120], [], [122, 121, 123], [], [124, 125], [], [], [], [], [126], [], [], [], [], [127, 128], [], [], [], [], [], [], [], [], [], [], [], [], [], [], [], [], [], [], [], [], [], [], [], [], [], [], [], []]
set_option maxRecDepth 100000 in
theorem lead_ok : OkT Tryd.prog 0 leadT := ⟨lead_0, lead_1, lead_2, lead_3, lead_4, lead_5, lead_6, lead_7, lead_8, lead_9, lead_10, lead_11, lead_12, lead_13, lead_14, lead_15, lead_16, lead_17, lead_18, lead_19, lead_20, lead_21, lead_22, lead_23, lead_24, lead_25, lead_26, lead_27, lead_28, lead_29, lead_30, lead_31, lead_32, lead_33, lead_34, lead_35, lead_36, lead_37, lead_38, lead_39, lead_40, lead_41, lead_42, lead_43, lead_44, lead_45, lead_46, lead_47, lead_48, lead_49, lead_50, lead_51, lead_52, lead_53, lead_54, lead_55, lead_56, lead_57, lead_58, lead_59, lead_60, lead_61, lead_62, lead_63, lead_64, lead_65, lead_66, lead_67, lead_68, lead_69, lead_70, lead_71, lead_72, lead_73, lead_74, lead_75, lead_76, lead_77, lead_78, lead_79, lead_80, lead_81, lead_82, lead_83, lead_84, lead_85, lead_86, lead_87, lead_88, lead_89, lead_90, lead_91, lead_92, lead_93, lead_94, lead_95, lead_96, lead_97, lead_98, lead_99, lead_100, lead_101, lead_102, lead_103, lead_104, lead_105, lead_106, lead_107, lead_108, lead_109, lead_110, lead_111, lead_112, lead_113, lead_114, lead_115, lead_116, lead_117, lead_118, lead_119, lead_120, lead_121, lead_122, lead_123, lead_124, lead_125, lead_126, lead_127, lead_128, lead_129, lead_130, lead_131, lead_132, lead_133, lead_134, lead_135, lead_136, lead_137, lead_138, lead_139, lead_140, lead_141, lead_142, lead_143, lead_144, lead_145, lead_146, lead_147, lead_148, lead_149, lead_150, lead_151, lead_152, lead_153, trivial⟩
theorem lead_size : Tryd.prog.funcs.size = leadT.length := by kernel_rfl
theorem closure_of (f : Nat) : Tryd.prog.closure f = clG (tabG leadT) (fuelT leadT) [f] [] := closure_tab lead_size lead_ok f
theorem recurses_of (f : Nat) : Tryd.prog.recurses f = (Tryd.prog.unfollowed f || recG leadT (Tryd.prog.closure f)) := recurses_tab lead_size lead_ok f
def headSigns : List Nat := [104, 97, 114, 110, 101, 115, 115, 32, 98, 49, 53, 53, 50, 55, 99, 50, 99, 49, 97, 49, 49, 50, 56, 98, 49, 50, 57, 56, 57, 99, 51, 56, 101, 57, 48, 49, 49, 55, 55, 50, 49, 53, 54, 55, 98, 102, 52, 101, 48, 101, 56, 100, 101, 57, 48, 54, 55, 51, 53, 53, 100, 49, 56, 102, 102, 98, 101, 98, 53, 102, 102, 57, 32, 99, 117, 116, 32, 97, 116, 32, 108, 111, 111, 112, 46, 101, 120, 97, 109, 112, 108, 101, 47, 103, 48, 51, 51, 50, 54, 47, 108, 97, 119, 115, 46, 70, 110, 69, 120, 97, 99, 116, 82, 101, 112, 111, 114, 116, 32, 108, 111, 111, 112, 46, 101, 120, 97, 109, 112, 108, 101, 47, 103, 48, 51, 51, 50, 54, 47, 108, 97, 119, 115, 46, 70, 110, 84, 117, 110, 101, 100, 32, 108, 111, 111, 112, 46, 101, 120, 97, 109, 112, 108, 101, 47, 103, 48, 51, 51, 50, 54, 47, 108, 97, 119, 115, 46, 70, 110, 69, 120, 97, 99, 116, 84, 117, 110, 101, 32, 108, 111, 111, 112, 46, 101, 120, 97, 109, 112, 108, 101, 47, 103, 48, 51, 51, 50, 54, 47, 108, 97, 119, 115, 46, 70, 110, 69, 120, 97, 99, 116, 82, 101, 116, 117, 110, 101, 32, 108, 111, 111, 112, 46, 101, 120, 97, 109, 112, 108, 101, 47, 103, 48, 51, 51, 50, 54, 47, 108, 97, 119, 115, 46, 70, 110, 84, 117, 110, 101, 79, 110, 101, 32, 108, 111, 111, 112, 46, 101, 120, 97, 109, 112, 108, 101, 47, 103, 48, 51, 51, 50, 54, 47, 108, 97, 119, 115, 46, 70, 110, 69, 120, 97, 99, 116, 84, 117, 110, 101, 65, 108, 108, 32, 108, 111, 111, 112, 46, 101, 120, 97, 109, 112, 108, 101, 47, 103, 48, 51, 51, 50, 54, 47, 108, 97, 119, 115, 46, 70, 110, 82, 101, 112, 111, 114, 116, 101, 100]
set_option maxRecDepth 100000 in
theorem head_lit : Tryd.prog.initOrder = "harness b15527c2c1a1128b12989c38e90117721567bf4e0e8de9067355d18ffbeb5ff9 cut at loop.example/g03326/laws.FnExactReport loop.example/g03326/laws.FnTuned loop.example/g03326/laws.FnExactTune loop.example/g03326/laws.FnExactRetune loop.example/g03326/laws.FnTuneOne loop.example/g03326/laws.FnExactTuneAll loop.example/g03326/laws.FnReported" := by kernel_rfl
set_option maxRecDepth 100000 in
theorem lit_signs : "harness b15527c2c1a1128b12989c38e90117721567bf4e0e8de9067355d18ffbeb5ff9 cut at loop.example/g03326/laws.FnExactReport loop.example/g03326/laws.FnTuned loop.example/g03326/laws.FnExactTune loop.example/g03326/laws.FnExactRetune loop.example/g03326/laws.FnTuneOne loop.example/g03326/laws.FnExactTuneAll loop.example/g03326/laws.FnReported" = String.ofList (headSigns.map Char.ofNat) := by kernel_rfl
theorem head_signs : Tryd.prog.initOrder.toList = headSigns.map Char.ofNat := by rw [head_lit, lit_signs]; exact String.toList_ofList
def headWords : List (List Nat) := [[104, 97, 114, 110, 101, 115, 115], [98, 49, 53, 53, 50, 55, 99, 50, 99, 49, 97, 49, 49, 50, 56, 98, 49, 50, 57, 56, 57, 99, 51, 56, 101, 57, 48, 49, 49, 55, 55, 50, 49, 53, 54, 55, 98, 102, 52, 101, 48, 101, 56, 100, 101, 57, 48, 54, 55, 51, 53, 53, 100, 49, 56, 102, 102, 98, 101, 98, 53, 102, 102, 57], [99, 117, 116], [97, 116], [108, 111, 111, 112, 46, 101, 120, 97, 109, 112, 108, 101, 47, 103, 48, 51, 51, 50, 54, 47, 108, 97, 119, 115, 46, 70, 110, 69, 120, 97, 99, 116, 82, 101, 112, 111, 114, 116], [108, 111, 111, 112, 46, 101, 120, 97, 109, 112, 108, 101, 47, 103, 48, 51, 51, 50, 54, 47, 108, 97, 119, 115, 46, 70, 110, 84, 117, 110, 101, 100], [108, 111, 111, 112, 46, 101, 120, 97, 109, 112, 108, 101, 47, 103, 48, 51, 51, 50, 54, 47, 108, 97, 119, 115, 46, 70, 110, 69, 120, 97, 99, 116, 84, 117, 110, 101], [108, 111, 111, 112, 46, 101, 120, 97, 109, 112, 108, 101, 47, 103, 48, 51, 51, 50, 54, 47, 108, 97, 119, 115, 46, 70, 110, 69, 120, 97, 99, 116, 82, 101, 116, 117, 110, 101], [108, 111, 111, 112, 46, 101, 120, 97, 109, 112, 108, 101, 47, 103, 48, 51, 51, 50, 54, 47, 108, 97, 119, 115, 46, 70, 110, 84, 117, 110, 101, 79, 110, 101], [108, 111, 111, 112, 46, 101, 120, 97, 109, 112, 108, 101, 47, 103, 48, 51, 51, 50, 54, 47, 108, 97, 119, 115, 46, 70, 110, 69, 120, 97, 99, 116, 84, 117, 110, 101, 65, 108, 108], [108, 111, 111, 112, 46, 101, 120, 97, 109, 112, 108, 101, 47, 103, 48, 51, 51, 50, 54, 47, 108, 97, 119, 115, 46, 70, 110, 82, 101, 112, 111, 114, 116, 101, 100]]
theorem head_joined : headSigns.map Char.ofNat = joinSigns (headWords.map (·.map Char.ofNat)) := by kernel_rfl
theorem head_clean : (headWords.map (·.map Char.ofNat)).all noBlank = true := by kernel_rfl
theorem head_split : wordsSigns (headSigns.map Char.ofNat) = headWords.map (·.map Char.ofNat) := by rw [head_joined]; exact wordsSigns_join head_clean (by simp [headWords])
theorem head_behind : behindMainWord (headWords.map (·.map Char.ofNat)) = (headWords.drop 2).map (·.map Char.ofNat) := by kernel_rfl
theorem head_lifts : stripLifts liftWords ((headWords.drop 2).map (·.map Char.ofNat)) = ([], (headWords.drop 2).map (·.map Char.ofNat)) := by kernel_rfl
theorem head_list : (headWords.drop 2).map (·.map Char.ofNat) = "cut".toList :: (headWords.drop 3).map (·.map Char.ofNat) := by kernel_rfl
theorem head_is : behindMainWord (wordsSigns Tryd.prog.initOrder.toList) = "cut".toList :: (headWords.drop 3).map (·.map Char.ofNat) := by rw [head_signs, head_split, head_behind, head_list]
theorem head_strip : stripLifts liftWords ("cut".toList :: (headWords.drop 3).map (·.map Char.ofNat)) = ([], "cut".toList :: (headWords.drop 3).map (·.map Char.ofNat)) := by have hl := head_lifts; rw [head_list] at hl; exact hl
theorem may_enter : Tryd.prog.mayEnter = true := may_of head_is head_strip (by kernel_rfl) (by kernel_rfl) (by kernel_rfl)
theorem lifts_final : Tryd.prog.liftsFinal = false := (lifts_of head_is head_strip).1
theorem make_is : Tryd.prog.make = some .cut := (lifts_of head_is head_strip).2
end Go.Proofs.YtfmghfghhipmhaaDoor
