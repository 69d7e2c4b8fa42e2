/- Which functions each function of the translation leads to: a fact a function. Printed by gen_graph.py (mine) out of the loaded functions; Lean checks each. -/
import Derived.Test.YtiddaabodkglmaaGreatProg
import Derived.Test.YtiddaabodkglmaaGreatGr
import Derived.KernelRfl
namespace Go.Proofs.YtiddaabodkglmaaGreat
open Go.Fx
theorem lead_0 : leadOf Tryz.prog 0 = [] := by unfold leadOf; rw [Tryz.func0]; kernel_rfl
theorem lead_1 : leadOf Tryz.prog 1 = [] := by unfold leadOf; rw [Tryz.func1]; kernel_rfl
theorem lead_2 : leadOf Tryz.prog 2 = [1] := by unfold leadOf; rw [Tryz.func2]; kernel_rfl
theorem lead_3 : leadOf Tryz.prog 3 = [4, 6, 7, 5, 6, 7, 8, 9, 6, 10, 7, 11, 12, 13, 9, 14, 15, 6, 7, 8, 9, 15] := by unfold leadOf; rw [Tryz.func3]; kernel_rfl
theorem lead_4 : leadOf Tryz.prog 4 = [16] := by unfold leadOf; rw [Tryz.func4]; kernel_rfl
theorem lead_5 : leadOf Tryz.prog 5 = [17, 18, 20, 19, 21, 21, 22, 23] := by unfold leadOf; rw [Tryz.func5]; kernel_rfl
theorem lead_6 : leadOf Tryz.prog 6 = [24] := by unfold leadOf; rw [Tryz.func6]; kernel_rfl
theorem lead_7 : leadOf Tryz.prog 7 = [] := by unfold leadOf; rw [Tryz.func7]; kernel_rfl
theorem lead_8 : leadOf Tryz.prog 8 = [25, 27, 26, 28, 29, 30] := by unfold leadOf; rw [Tryz.func8]; kernel_rfl
theorem lead_9 : leadOf Tryz.prog 9 = [31] := by unfold leadOf; rw [Tryz.func9]; kernel_rfl
theorem lead_10 : leadOf Tryz.prog 10 = [32, 32, 32, 33] := by unfold leadOf; rw [Tryz.func10]; kernel_rfl
theorem lead_11 : leadOf Tryz.prog 11 = [32] := by unfold leadOf; rw [Tryz.func11]; kernel_rfl
theorem lead_12 : leadOf Tryz.prog 12 = [34] := by unfold leadOf; rw [Tryz.func12]; kernel_rfl
theorem lead_13 : leadOf Tryz.prog 13 = [] := by unfold leadOf; rw [Tryz.func13]; kernel_rfl
theorem lead_14 : leadOf Tryz.prog 14 = [35] := by unfold leadOf; rw [Tryz.func14]; kernel_rfl
theorem lead_15 : leadOf Tryz.prog 15 = [36] := by unfold leadOf; rw [Tryz.func15]; kernel_rfl
theorem lead_16 : leadOf Tryz.prog 16 = [] := by unfold leadOf; rw [Tryz.func16]; kernel_rfl
theorem lead_17 : leadOf Tryz.prog 17 = [37, 37, 38] := by unfold leadOf; rw [Tryz.func17]; kernel_rfl
theorem lead_18 : leadOf Tryz.prog 18 = [] := by unfold leadOf; rw [Tryz.func18]; kernel_rfl
theorem lead_19 : leadOf Tryz.prog 19 = [37, 37] := by unfold leadOf; rw [Tryz.func19]; kernel_rfl
theorem lead_20 : leadOf Tryz.prog 20 = [39, 37, 37, 37] := by unfold leadOf; rw [Tryz.func20]; kernel_rfl
theorem lead_21 : leadOf Tryz.prog 21 = [40, 41] := by unfold leadOf; rw [Tryz.func21]; kernel_rfl
theorem lead_22 : leadOf Tryz.prog 22 = [42, 43, 44, 45, 46, 47] := by unfold leadOf; rw [Tryz.func22]; kernel_rfl
theorem lead_23 : leadOf Tryz.prog 23 = [48, 48, 49] := by unfold leadOf; rw [Tryz.func23]; kernel_rfl
theorem lead_24 : leadOf Tryz.prog 24 = [] := by unfold leadOf; rw [Tryz.func24]; kernel_rfl
theorem lead_25 : leadOf Tryz.prog 25 = [50, 50, 51] := by unfold leadOf; rw [Tryz.func25]; kernel_rfl
theorem lead_26 : leadOf Tryz.prog 26 = [52, 50, 53] := by unfold leadOf; rw [Tryz.func26]; kernel_rfl
theorem lead_27 : leadOf Tryz.prog 27 = [54, 52, 50, 56, 55] := by unfold leadOf; rw [Tryz.func27]; kernel_rfl
theorem lead_28 : leadOf Tryz.prog 28 = [57, 58] := by unfold leadOf; rw [Tryz.func28]; kernel_rfl
theorem lead_29 : leadOf Tryz.prog 29 = [59, 60, 61, 62, 63, 64] := by unfold leadOf; rw [Tryz.func29]; kernel_rfl
theorem lead_30 : leadOf Tryz.prog 30 = [65, 65, 66] := by unfold leadOf; rw [Tryz.func30]; kernel_rfl
theorem lead_31 : leadOf Tryz.prog 31 = [67] := by unfold leadOf; rw [Tryz.func31]; kernel_rfl
theorem lead_32 : leadOf Tryz.prog 32 = [] := by unfold leadOf; rw [Tryz.func32]; kernel_rfl
theorem lead_33 : leadOf Tryz.prog 33 = [] := by unfold leadOf; rw [Tryz.func33]; kernel_rfl
theorem lead_34 : leadOf Tryz.prog 34 = [68] := by unfold leadOf; rw [Tryz.func34]; kernel_rfl
theorem lead_35 : leadOf Tryz.prog 35 = [] := by unfold leadOf; rw [Tryz.func35]; kernel_rfl
theorem lead_36 : leadOf Tryz.prog 36 = [] := by unfold leadOf; rw [Tryz.func36]; kernel_rfl
theorem lead_37 : leadOf Tryz.prog 37 = [] := by unfold leadOf; rw [Tryz.func37]; kernel_rfl
theorem lead_38 : leadOf Tryz.prog 38 = [] := by unfold leadOf; rw [Tryz.func38]; kernel_rfl
theorem lead_39 : leadOf Tryz.prog 39 = [] := by unfold leadOf; rw [Tryz.func39]; kernel_rfl
theorem lead_40 : leadOf Tryz.prog 40 = [41, 70, 69, 71, 69] := by unfold leadOf; rw [Tryz.func40]; kernel_rfl
theorem lead_41 : leadOf Tryz.prog 41 = [18, 37, 72] := by unfold leadOf; rw [Tryz.func41]; kernel_rfl
theorem lead_42 : leadOf Tryz.prog 42 = [73, 73, 74, 75, 75, 76, 76] := by unfold leadOf; rw [Tryz.func42]; kernel_rfl
theorem lead_43 : leadOf Tryz.prog 43 = [45, 74] := by unfold leadOf; rw [Tryz.func43]; kernel_rfl
theorem lead_44 : leadOf Tryz.prog 44 = [48] := by unfold leadOf; rw [Tryz.func44]; kernel_rfl
theorem lead_45 : leadOf Tryz.prog 45 = [77, 77] := by unfold leadOf; rw [Tryz.func45]; kernel_rfl
theorem lead_46 : leadOf Tryz.prog 46 = [78] := by unfold leadOf; rw [Tryz.func46]; kernel_rfl
theorem lead_47 : leadOf Tryz.prog 47 = [78] := by unfold leadOf; rw [Tryz.func47]; kernel_rfl
theorem lead_48 : leadOf Tryz.prog 48 = [] := by unfold leadOf; rw [Tryz.func48]; kernel_rfl
theorem lead_49 : leadOf Tryz.prog 49 = [37, 79] := by unfold leadOf; rw [Tryz.func49]; kernel_rfl
theorem lead_50 : leadOf Tryz.prog 50 = [] := by unfold leadOf; rw [Tryz.func50]; kernel_rfl
theorem lead_51 : leadOf Tryz.prog 51 = [] := by unfold leadOf; rw [Tryz.func51]; kernel_rfl
theorem lead_52 : leadOf Tryz.prog 52 = [50] := by unfold leadOf; rw [Tryz.func52]; kernel_rfl
theorem lead_53 : leadOf Tryz.prog 53 = [] := by unfold leadOf; rw [Tryz.func53]; kernel_rfl
theorem lead_54 : leadOf Tryz.prog 54 = [] := by unfold leadOf; rw [Tryz.func54]; kernel_rfl
theorem lead_55 : leadOf Tryz.prog 55 = [] := by unfold leadOf; rw [Tryz.func55]; kernel_rfl
theorem lead_56 : leadOf Tryz.prog 56 = [50] := by unfold leadOf; rw [Tryz.func56]; kernel_rfl
theorem lead_57 : leadOf Tryz.prog 57 = [58, 81, 80, 82, 80] := by unfold leadOf; rw [Tryz.func57]; kernel_rfl
theorem lead_58 : leadOf Tryz.prog 58 = [83] := by unfold leadOf; rw [Tryz.func58]; kernel_rfl
theorem lead_59 : leadOf Tryz.prog 59 = [84, 84, 85, 87, 86, 87, 86] := by unfold leadOf; rw [Tryz.func59]; kernel_rfl
theorem lead_60 : leadOf Tryz.prog 60 = [62, 85, 51] := by unfold leadOf; rw [Tryz.func60]; kernel_rfl
theorem lead_61 : leadOf Tryz.prog 61 = [65] := by unfold leadOf; rw [Tryz.func61]; kernel_rfl
theorem lead_62 : leadOf Tryz.prog 62 = [88, 89] := by unfold leadOf; rw [Tryz.func62]; kernel_rfl
theorem lead_63 : leadOf Tryz.prog 63 = [64] := by unfold leadOf; rw [Tryz.func63]; kernel_rfl
theorem lead_64 : leadOf Tryz.prog 64 = [90] := by unfold leadOf; rw [Tryz.func64]; kernel_rfl
theorem lead_65 : leadOf Tryz.prog 65 = [] := by unfold leadOf; rw [Tryz.func65]; kernel_rfl
theorem lead_66 : leadOf Tryz.prog 66 = [50, 91] := by unfold leadOf; rw [Tryz.func66]; kernel_rfl
theorem lead_67 : leadOf Tryz.prog 67 = [32, 92] := by unfold leadOf; rw [Tryz.func67]; kernel_rfl
theorem lead_68 : leadOf Tryz.prog 68 = [] := by unfold leadOf; rw [Tryz.func68]; kernel_rfl
theorem lead_69 : leadOf Tryz.prog 69 = [] := by unfold leadOf; rw [Tryz.func69]; kernel_rfl
theorem lead_70 : leadOf Tryz.prog 70 = [93] := by unfold leadOf; rw [Tryz.func70]; kernel_rfl
theorem lead_71 : leadOf Tryz.prog 71 = [18, 93] := by unfold leadOf; rw [Tryz.func71]; kernel_rfl
theorem lead_72 : leadOf Tryz.prog 72 = [] := by unfold leadOf; rw [Tryz.func72]; kernel_rfl
theorem lead_73 : leadOf Tryz.prog 73 = [41, 95, 94] := by unfold leadOf; rw [Tryz.func73]; kernel_rfl
theorem lead_74 : leadOf Tryz.prog 74 = [77, 77] := by unfold leadOf; rw [Tryz.func74]; kernel_rfl
theorem lead_75 : leadOf Tryz.prog 75 = [] := by unfold leadOf; rw [Tryz.func75]; kernel_rfl
theorem lead_76 : leadOf Tryz.prog 76 = [] := by unfold leadOf; rw [Tryz.func76]; kernel_rfl
theorem lead_77 : leadOf Tryz.prog 77 = [71, 94, 41] := by unfold leadOf; rw [Tryz.func77]; kernel_rfl
theorem lead_78 : leadOf Tryz.prog 78 = [96] := by unfold leadOf; rw [Tryz.func78]; kernel_rfl
theorem lead_79 : leadOf Tryz.prog 79 = [97, 37] := by unfold leadOf; rw [Tryz.func79]; kernel_rfl
theorem lead_80 : leadOf Tryz.prog 80 = [] := by unfold leadOf; rw [Tryz.func80]; kernel_rfl
theorem lead_81 : leadOf Tryz.prog 81 = [98] := by unfold leadOf; rw [Tryz.func81]; kernel_rfl
theorem lead_82 : leadOf Tryz.prog 82 = [98] := by unfold leadOf; rw [Tryz.func82]; kernel_rfl
theorem lead_83 : leadOf Tryz.prog 83 = [99, 100] := by unfold leadOf; rw [Tryz.func83]; kernel_rfl
theorem lead_84 : leadOf Tryz.prog 84 = [58, 102, 101] := by unfold leadOf; rw [Tryz.func84]; kernel_rfl
theorem lead_85 : leadOf Tryz.prog 85 = [88, 103, 89] := by unfold leadOf; rw [Tryz.func85]; kernel_rfl
theorem lead_86 : leadOf Tryz.prog 86 = [104, 104] := by unfold leadOf; rw [Tryz.func86]; kernel_rfl
theorem lead_87 : leadOf Tryz.prog 87 = [] := by unfold leadOf; rw [Tryz.func87]; kernel_rfl
theorem lead_88 : leadOf Tryz.prog 88 = [105, 105] := by unfold leadOf; rw [Tryz.func88]; kernel_rfl
theorem lead_89 : leadOf Tryz.prog 89 = [] := by unfold leadOf; rw [Tryz.func89]; kernel_rfl
theorem lead_90 : leadOf Tryz.prog 90 = [91, 65, 91] := by unfold leadOf; rw [Tryz.func90]; kernel_rfl
theorem lead_91 : leadOf Tryz.prog 91 = [50, 106, 107] := by unfold leadOf; rw [Tryz.func91]; kernel_rfl
theorem lead_92 : leadOf Tryz.prog 92 = [32, 32] := by unfold leadOf; rw [Tryz.func92]; kernel_rfl
theorem lead_93 : leadOf Tryz.prog 93 = [41] := by unfold leadOf; rw [Tryz.func93]; kernel_rfl
theorem lead_94 : leadOf Tryz.prog 94 = [109, 75, 79] := by unfold leadOf; rw [Tryz.func94]; kernel_rfl
theorem lead_95 : leadOf Tryz.prog 95 = [18, 93] := by unfold leadOf; rw [Tryz.func95]; kernel_rfl
theorem lead_96 : leadOf Tryz.prog 96 = [79, 79] := by unfold leadOf; rw [Tryz.func96]; kernel_rfl
theorem lead_97 : leadOf Tryz.prog 97 = [110, 111] := by unfold leadOf; rw [Tryz.func97]; kernel_rfl
theorem lead_98 : leadOf Tryz.prog 98 = [58, 53] := by unfold leadOf; rw [Tryz.func98]; kernel_rfl
theorem lead_99 : leadOf Tryz.prog 99 = [112] := by unfold leadOf; rw [Tryz.func99]; kernel_rfl
theorem lead_100 : leadOf Tryz.prog 100 = [51] := by unfold leadOf; rw [Tryz.func100]; kernel_rfl
theorem lead_101 : leadOf Tryz.prog 101 = [113, 91] := by unfold leadOf; rw [Tryz.func101]; kernel_rfl
theorem lead_102 : leadOf Tryz.prog 102 = [98] := by unfold leadOf; rw [Tryz.func102]; kernel_rfl
theorem lead_103 : leadOf Tryz.prog 103 = [] := by unfold leadOf; rw [Tryz.func103]; kernel_rfl
theorem lead_104 : leadOf Tryz.prog 104 = [] := by unfold leadOf; rw [Tryz.func104]; kernel_rfl
theorem lead_105 : leadOf Tryz.prog 105 = [82, 101, 58, 89] := by unfold leadOf; rw [Tryz.func105]; kernel_rfl
theorem lead_106 : leadOf Tryz.prog 106 = [114] := by unfold leadOf; rw [Tryz.func106]; kernel_rfl
theorem lead_107 : leadOf Tryz.prog 107 = [108] := by unfold leadOf; rw [Tryz.func107]; kernel_rfl
theorem lead_108 : leadOf Tryz.prog 108 = [51, 51, 51] := by unfold leadOf; rw [Tryz.func108]; kernel_rfl
theorem lead_109 : leadOf Tryz.prog 109 = [] := by unfold leadOf; rw [Tryz.func109]; kernel_rfl
theorem lead_110 : leadOf Tryz.prog 110 = [] := by unfold leadOf; rw [Tryz.func110]; kernel_rfl
theorem lead_111 : leadOf Tryz.prog 111 = [110, 110] := by unfold leadOf; rw [Tryz.func111]; kernel_rfl
theorem lead_112 : leadOf Tryz.prog 112 = [] := by unfold leadOf; rw [Tryz.func112]; kernel_rfl
theorem lead_113 : leadOf Tryz.prog 113 = [87] := by unfold leadOf; rw [Tryz.func113]; kernel_rfl
theorem lead_114 : leadOf Tryz.prog 114 = [] := by unfold leadOf; rw [Tryz.func114]; kernel_rfl
theorem lead_115 : leadOf Tryz.prog 115 = [] := by unfold leadOf; rw [Tryz.func115]; kernel_rfl
theorem lead_116 : leadOf Tryz.prog 116 = [] := by unfold leadOf; rw [Tryz.func116]; kernel_rfl
theorem lead_117 : leadOf Tryz.prog 117 = [] := by unfold leadOf; rw [Tryz.func117]; kernel_rfl
theorem lead_118 : leadOf Tryz.prog 118 = [] := by unfold leadOf; rw [Tryz.func118]; kernel_rfl
theorem lead_119 : leadOf Tryz.prog 119 = [] := by unfold leadOf; rw [Tryz.func119]; kernel_rfl
theorem lead_120 : leadOf Tryz.prog 120 = [] := by unfold leadOf; rw [Tryz.func120]; kernel_rfl
theorem lead_121 : leadOf Tryz.prog 121 = [] := by unfold leadOf; rw [Tryz.func121]; kernel_rfl
theorem lead_122 : leadOf Tryz.prog 122 = [] := by unfold leadOf; rw [Tryz.func122]; kernel_rfl
theorem lead_123 : leadOf Tryz.prog 123 = [] := by unfold leadOf; rw [Tryz.func123]; kernel_rfl
theorem lead_124 : leadOf Tryz.prog 124 = [] := by unfold leadOf; rw [Tryz.func124]; kernel_rfl
theorem lead_125 : leadOf Tryz.prog 125 = [] := by unfold leadOf; rw [Tryz.func125]; kernel_rfl
theorem lead_126 : leadOf Tryz.prog 126 = [] := by unfold leadOf; rw [Tryz.func126]; kernel_rfl
theorem lead_127 : leadOf Tryz.prog 127 = [] := by unfold leadOf; rw [Tryz.func127]; kernel_rfl
theorem lead_128 : leadOf Tryz.prog 128 = [] := by unfold leadOf; rw [Tryz.func128]; kernel_rfl
theorem lead_129 : leadOf Tryz.prog 129 = [] := by unfold leadOf; rw [Tryz.func129]; kernel_rfl
theorem lead_130 : leadOf Tryz.prog 130 = [] := by unfold leadOf; rw [Tryz.func130]; kernel_rfl
def leadT : List (List Nat) := [[], [], [1], [4, 6, 7, 5, 6, 7, 8, 9, 6, 10, 7, 11, 12, 13, 9, 14, 15, 6, 7, 8, 9, 15], [16], [17, 18, 20, 19, 21, 21, 22, 23], [24], [], [25, 27, 26, 28, 29, 30], [31], [32, 32, 32, 33], [32], [34], [], [35], [36], [], [37, 37, 38], [], [37, 37], [39, 37, 37, 37], [40, 41], [42, 43, 44, 45, 46, 47], [48, 48, 49], [], [50, 50, 51], [52, 50, 53], [54, 52, 50, 56, 55], [57, 58], [59, 60, 61, 62, 63, 64], [65, 65, 66], [67], [], [], [68], [], [], [], [], [], [41, 70, 69, 71, 69], [18, 37, 72], [73, 73, 74, 75, 75, 76, 76], [45, 74], [48], [77, 77], [78], [78], [], [37, 79], [], [], [50], [], [], [], [50], [58, 81, 80, 82, 80], [83], [84, 84, 85, 87, 86, 87, 86], [62, 85, 51], [65], [88, 89], [64], [90], [], [50, 91], [32, 92], [], [], [93], [18, 93], [], [41, 95, 94], [77, 77], [], [], [71, 94, 41], [96], [97, 37], [], [98], [98], [99, 100], [58, 102, 101], [88, 103, 89], [104, 104], [], [105, 105], [], [91, 65, 91], [50, 106, 107], [32, 32], [41], [109, 75, 79], [18, 93], [79, 79], [110, 111], [58, 53], [112], [51], [113, 91], [98], [], [], [82, 101, 58, 89], [114], [108], [51, 51, 51], [], [], [110, 110], [], [87], [], [], [], [], [], [], [], [], [], [], [], [], [], [], [], [], []]
set_option maxRecDepth 100000 in
theorem lead_ok : OkT Tryz.prog 0 leadT := ⟨lead_0, lead_1, lead_2, lead_3, lead_4, lead_5, lead_6, lead_7, lead_8, lead_9, lead_10, lead_11, lead_12, lead_13, lead_14, lead_15, lead_16, lead_17, lead_18, lead_19, lead_20, lead_21, lead_22, lead_23, lead_24, lead_25, lead_26, lead_27, lead_28, lead_29, lead_30, lead_31, lead_32, lead_33, lead_34, lead_35, lead_36, lead_37, lead_38, lead_39, lead_40, lead_41, lead_42, lead_43, lead_44, lead_45, lead_46, lead_47, lead_48, lead_49, lead_50, lead_51, lead_52, lead_53, lead_54, lead_55, lead_56, lead_57, lead_58, lead_59, lead_60, lead_61, lead_62, lead_63, lead_64, lead_65, lead_66, lead_67, lead_68, lead_69, lead_70, lead_71, lead_72, lead_73, lead_74, lead_75, lead_76, lead_77, lead_78, lead_79, lead_80, lead_81, lead_82, lead_83, lead_84, lead_85, lead_86, lead_87, lead_88, lead_89, lead_90, lead_91, lead_92, lead_93, lead_94, lead_95, lead_96, lead_97, lead_98, lead_99, lead_100, lead_101, lead_102, lead_103, lead_104, lead_105, lead_106, lead_107, lead_108, lead_109, lead_110, lead_111, lead_112, lead_113, lead_114, lead_115, lead_116, lead_117, lead_118, lead_119, lead_120, lead_121, lead_122, lead_123, lead_124, lead_125, lead_126, lead_127, lead_128, lead_129, lead_130, trivial⟩
theorem lead_size : Tryz.prog.funcs.size = leadT.length := by kernel_rfl
theorem closure_of (f : Nat) : Tryz.prog.closure f = clG (tabG leadT) (fuelT leadT) [f] [] := closure_tab lead_size lead_ok f
theorem recurses_of (f : Nat) : Tryz.prog.recurses f = (Tryz.prog.unfollowed f || recG leadT (Tryz.prog.closure f)) := recurses_tab lead_size lead_ok f
def headSigns : List Nat := [104, 97, 114, 110, 101, 115, 115, 32, 100, 99, 99, 102, 48, 101, 53, 53, 50, 102, 50, 101, 99, 49, 49, 55, 101, 49, 98, 101, 48, 51, 50, 99, 52, 53, 57, 53, 50, 99, 101, 99, 54, 52, 56, 97, 102, 99, 53, 57, 50, 52, 48, 52, 100, 49, 100, 97, 102, 51, 48, 98, 98, 100, 53, 97, 100, 98, 48, 54, 100, 52, 102, 49, 32, 99, 117, 116, 32, 97, 116, 32, 108, 111, 111, 112, 46, 101, 120, 97, 109, 112, 108, 101, 47, 103, 48, 51, 51, 50, 54, 47, 108, 97, 119, 115, 46, 70, 110, 69, 120, 97, 99, 116, 82, 101, 99, 101, 105, 118, 101]
set_option maxRecDepth 100000 in
theorem head_lit : Tryz.prog.initOrder = "harness dccf0e552f2ec117e1be032c45952cec648afc592404d1daf30bbd5adb06d4f1 cut at loop.example/g03326/laws.FnExactReceive" := by kernel_rfl
set_option maxRecDepth 100000 in
theorem lit_signs : "harness dccf0e552f2ec117e1be032c45952cec648afc592404d1daf30bbd5adb06d4f1 cut at loop.example/g03326/laws.FnExactReceive" = String.ofList (headSigns.map Char.ofNat) := by kernel_rfl
theorem head_signs : Tryz.prog.initOrder.toList = headSigns.map Char.ofNat := by rw [head_lit, lit_signs]; exact String.toList_ofList
def headWords : List (List Nat) := [[104, 97, 114, 110, 101, 115, 115], [100, 99, 99, 102, 48, 101, 53, 53, 50, 102, 50, 101, 99, 49, 49, 55, 101, 49, 98, 101, 48, 51, 50, 99, 52, 53, 57, 53, 50, 99, 101, 99, 54, 52, 56, 97, 102, 99, 53, 57, 50, 52, 48, 52, 100, 49, 100, 97, 102, 51, 48, 98, 98, 100, 53, 97, 100, 98, 48, 54, 100, 52, 102, 49], [99, 117, 116], [97, 116], [108, 111, 111, 112, 46, 101, 120, 97, 109, 112, 108, 101, 47, 103, 48, 51, 51, 50, 54, 47, 108, 97, 119, 115, 46, 70, 110, 69, 120, 97, 99, 116, 82, 101, 99, 101, 105, 118, 101]]
theorem head_joined : headSigns.map Char.ofNat = joinSigns (headWords.map (·.map Char.ofNat)) := by kernel_rfl
theorem head_clean : (headWords.map (·.map Char.ofNat)).all noBlank = true := by kernel_rfl
theorem head_split : wordsSigns (headSigns.map Char.ofNat) = headWords.map (·.map Char.ofNat) := by rw [head_joined]; exact wordsSigns_join head_clean (by simp [headWords])
theorem head_behind : behindMainWord (headWords.map (·.map Char.ofNat)) = (headWords.drop 2).map (·.map Char.ofNat) := by kernel_rfl
theorem head_lifts : stripLifts liftWords ((headWords.drop 2).map (·.map Char.ofNat)) = ([], (headWords.drop 2).map (·.map Char.ofNat)) := by kernel_rfl
theorem head_list : (headWords.drop 2).map (·.map Char.ofNat) = "cut".toList :: (headWords.drop 3).map (·.map Char.ofNat) := by kernel_rfl
theorem head_is : behindMainWord (wordsSigns Tryz.prog.initOrder.toList) = "cut".toList :: (headWords.drop 3).map (·.map Char.ofNat) := by rw [head_signs, head_split, head_behind, head_list]
theorem head_strip : stripLifts liftWords ("cut".toList :: (headWords.drop 3).map (·.map Char.ofNat)) = ([], "cut".toList :: (headWords.drop 3).map (·.map Char.ofNat)) := by have hl := head_lifts; rw [head_list] at hl; exact hl
theorem may_enter : Tryz.prog.mayEnter = true := may_of head_is head_strip (by kernel_rfl) (by kernel_rfl) (by kernel_rfl)
theorem lifts_final : Tryz.prog.liftsFinal = false := (lifts_of head_is head_strip).1
theorem make_is : Tryz.prog.make = some .cut := (lifts_of head_is head_strip).2
end Go.Proofs.YtiddaabodkglmaaGreat
