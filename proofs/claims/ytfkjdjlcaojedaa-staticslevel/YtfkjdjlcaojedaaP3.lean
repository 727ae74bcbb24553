/- Part 3 of the proof of: On level ground, filled alike, all cylinders are equally long, but for 3; raised ground changes no length by more than 3. -/
import Derived.Test.YtfkjdjlcaojedaaP2
import Derived.Test.YtfkjdjlcaojedaaChecked
import Derived.Lib.Mul64
import Derived.Laws.Bits64b
/- Print of my own generator (wip/sy/gen2.lean). -/
namespace Go.Proofs.Ytfkjdjlcaojedaa
open Go Sy
set_option maxRecDepth 100000
/- carried: [9] -/
/- carried: [12] -/
/- carried: [11] -/
def Xn11_1 : C := regL [0, 1, 2, 3] none [⟨some 8, .mv (.const (.bool false)), none⟩]
def Xn11_3 : C := regL [0, 1, 2, 3, 9, 10] none [⟨some 28, .mv (.tmp 0), none⟩, ⟨some 29, .call 18 [.tmp 28], none⟩, ⟨some 27, .mv (.tmp 29), none⟩, ⟨some 30, .ext 0 (.tmp 27), none⟩, ⟨some 31, .ext 1 (.tmp 27), none⟩, ⟨some 9, .alc 31 (.agg #[.int .i64 0, .int .i64 0, .int .i64 0, .int .i64 0, .int .i64 0, .int .i64 0, .int .i64 0, .int .i64 0, .int .i64 0]), none⟩, ⟨none, .st 31 9 (.tmp 9) (.tmp 30), none⟩, ⟨some 10, .mv (.tmp 31), none⟩]
def Xn11_6 : C := regL [0, 1, 2, 3, 9, 10, 38] none [⟨some 32, .mv (.tmp 10), none⟩, ⟨some 33, .bin 22 .neq (.tmp 32) (.const (.int .i64 0)), none⟩, ⟨some 34, .mv (.tmp 33), none⟩, ⟨some 35, .mv (.tmp 0), some (34, false)⟩, ⟨some 36, .len (.tmp 35), some (34, false)⟩, ⟨some 37, .bin 3 .gtr (.tmp 36) (.const (.int .i64 48)), some (34, false)⟩, ⟨some 38, .pick 34 (.const (.bool true)) (.tmp 37), none⟩]
def Xn11_9 : C := regL [8] none [⟨some 39, .mv (.tmp 0), none⟩, ⟨some 40, .call 27 [.tmp 39], none⟩, ⟨some 41, .mv (.tmp 10), none⟩, ⟨some 42, .bin 22 .eql (.tmp 40) (.tmp 41), none⟩, ⟨some 43, .mv (.tmp 42), none⟩, ⟨some 44, .call 17 [], some (43, true)⟩, ⟨some 45, .pick 43 (.tmp 44) (.const (.bool false)), none⟩, ⟨some 8, .mv (.tmp 45), none⟩]
def Xn11_8 : C := .seq Xn11_9 .ret
def Xn11_7 : C := .cond (.tmp 38) Xn11_8 .skip
def Xn11_5 : C := .seq Xn11_6 Xn11_7
def Xn11_13 : C := regL [1, 2, 3, 9, 11] none [⟨some 46, .bls 62 6 0 (.agg #[.int .i64 0, .int .i64 0, .int .i64 0, .int .i64 0, .int .i64 0, .int .i64 0]) [], none⟩, ⟨some 47, .mv (.tmp 0), none⟩, ⟨some 48, .app 62 6 48 (.tmp 46) (.tmp 47), none⟩, ⟨some 11, .mv (.tmp 48), none⟩]
def Xn11_15 : C := regL [1, 2, 3, 9, 11, 12, 13, 14] none [⟨some 12, .mv (.const (.slice none 0 0)), none⟩, ⟨some 13, .mv (.const (.slice none 0 0)), none⟩, ⟨some 14, .mv (.const (.slice none 0 0)), none⟩]
def Xn11_18 : C := regL [1, 2, 3, 9, 11, 12, 13, 14, 15] none [⟨some 15, .mv (.const (.int .i64 0)), none⟩]
def Xn11_23 : C := regL [1, 2, 3, 9, 11, 12, 13, 14, 15, 52] none [⟨some 49, .mv (.tmp 15), none⟩, ⟨some 50, .mv (.tmp 11), none⟩, ⟨some 51, .len (.tmp 50), none⟩, ⟨some 52, .bin 3 .lss (.tmp 49) (.tmp 51), none⟩]
def Xn11_24 : C := .cond (.tmp 52) .skip (.exit 0)
def Xn11_22 : C := .seq Xn11_23 Xn11_24
def Xn11_30 : C := regL [1, 2, 3, 9, 11, 12, 13, 14, 15] none [⟨some 55, .mv (.tmp 11), none⟩, ⟨some 56, .mv (.tmp 15), none⟩, ⟨some 57, .ia 6 (.tmp 55) (.tmp 56), none⟩, ⟨some 58, .fa 4 (.tmp 57), none⟩, ⟨none, .st 2 1 (.tmp 58) (.const (.int .i64 0)), none⟩]
def Xn11_32 : C := regL [1, 2, 3, 9, 11, 12, 13, 14, 15] none [⟨some 59, .mv (.tmp 11), none⟩, ⟨some 60, .mv (.tmp 15), none⟩, ⟨some 61, .ia 6 (.tmp 59) (.tmp 60), none⟩, ⟨some 62, .fa 5 (.tmp 61), none⟩, ⟨none, .st 2 1 (.tmp 62) (.const (.int .i64 4096)), none⟩]
def Xn11_34 : C := regL [1, 2, 3, 9, 11, 12, 13, 14, 15, 16] none [⟨some 16, .mv (.const (.int .i64 0)), none⟩]
def Xn11_37 : C := regL [1, 2, 3, 9, 11, 12, 13, 14, 15, 16, 66] none [⟨some 63, .mv (.tmp 15), none⟩, ⟨some 64, .mv (.tmp 3), none⟩, ⟨some 65, .len (.tmp 64), none⟩, ⟨some 66, .bin 3 .lss (.tmp 63) (.tmp 65), none⟩]
def Xn11_39 : C := regL [1, 2, 3, 9, 11, 12, 13, 14, 15, 16] none [⟨some 67, .mv (.tmp 3), none⟩, ⟨some 68, .mv (.tmp 15), none⟩, ⟨some 69, .ia 1 (.tmp 67) (.tmp 68), none⟩, ⟨some 70, .ld 63 1 false (.tmp 69), none⟩, ⟨some 71, .cvt .i64 (.tmp 70), none⟩, ⟨some 72, .bin 2 .rem (.tmp 71) (.const (.int .i64 1000)), none⟩, ⟨some 16, .mv (.tmp 72), none⟩]
def Xn11_38 : C := .cond (.tmp 66) Xn11_39 .skip
def Xn11_36 : C := .seq Xn11_37 Xn11_38
def Xn11_42 : C := regL [1, 2, 3, 9, 11, 12, 13, 14, 15, 16] none [⟨some 73, .mv (.tmp 12), none⟩, ⟨some 74, .bls 2 1 1 (.int .i64 0) [(0, 1, .const (.int .i64 500))], none⟩, ⟨some 75, .app 2 1 8 (.tmp 73) (.tmp 74), none⟩, ⟨some 12, .mv (.tmp 75), none⟩]
def Xn11_44 : C := regL [1, 2, 3, 9, 11, 12, 13, 14, 15, 16] none [⟨some 76, .mv (.tmp 13), none⟩, ⟨some 77, .mv (.tmp 16), none⟩, ⟨some 78, .bls 2 1 1 (.int .i64 0) [(0, 1, .tmp 77)], none⟩, ⟨some 79, .app 2 1 8 (.tmp 76) (.tmp 78), none⟩, ⟨some 13, .mv (.tmp 79), none⟩]
def Xn11_45 : C := regL [1, 2, 3, 9, 11, 12, 13, 14, 15] none [⟨some 80, .mv (.tmp 14), none⟩, ⟨some 81, .mv (.tmp 16), none⟩, ⟨some 82, .mv (.tmp 2), none⟩, ⟨some 83, .cvt .i64 (.tmp 82), none⟩, ⟨some 84, .bin 2 .add (.tmp 81) (.tmp 83), none⟩, ⟨some 85, .bls 2 1 1 (.int .i64 0) [(0, 1, .tmp 84)], none⟩, ⟨some 86, .app 2 1 8 (.tmp 80) (.tmp 85), none⟩, ⟨some 14, .mv (.tmp 86), none⟩]
def Xn11_43 : C := .seq Xn11_44 Xn11_45
def Xn11_41 : C := .seq Xn11_42 Xn11_43
def Xn11_35 : C := seqL [1, 2, 3, 9, 11, 12, 13, 14, 15, 16] Xn11_36 Xn11_41
def Xn11_33 : C := .seq Xn11_34 Xn11_35
def Xn11_31 : C := .seq Xn11_32 Xn11_33
def Xn11_29 : C := .seq Xn11_30 Xn11_31
def Xn11_28 : C := .block 1 Xn11_29
def Xn11_46 : C := regL [1, 2, 3, 9, 11, 12, 13, 14, 15] none [⟨some 53, .mv (.tmp 15), none⟩, ⟨some 54, .bin 3 .add (.tmp 53) (.const (.int .i64 1)), none⟩, ⟨some 15, .mv (.tmp 54), none⟩]
def Xn11_27 : C := seqL [1, 2, 3, 9, 11, 12, 13, 14, 15] Xn11_28 Xn11_46
def Xn11_21 : C := seqL [1, 2, 3, 9, 11, 12, 13, 14, 15] Xn11_22 Xn11_27
/- carried: [12, 13, 14, 15] -/
def Xn11_20 : C := loopL [1, 2, 3, 9, 11, 12, 13, 14, 15] Xn11_21
def Xn11_19 : C := .block 0 Xn11_20
def Xn11_17 : C := .seq Xn11_18 Xn11_19
def Xn11_48 : C := regL [9, 11, 12, 13, 14, 17] none [⟨some 87, .mv (.tmp 1), none⟩, ⟨some 88, .cvt .i64 (.tmp 87), none⟩, ⟨some 89, .bin 2 .add (.tmp 88) (.const (.int .i64 1000)), none⟩, ⟨some 17, .mv (.tmp 89), none⟩]
def Xn11_50 : C := regL [11, 12, 13, 14, 17, 18] none [⟨some 90, .mv (.tmp 17), none⟩, ⟨some 91, .iaa 3 3 (.tmp 9) (.const (.int .i64 0)), none⟩, ⟨some 92, .iaa 3 1 (.tmp 91) (.const (.int .i64 0)), none⟩, ⟨some 93, .ld 2 1 false (.tmp 92), none⟩, ⟨some 94, .bin 2 .mul (.tmp 90) (.tmp 93), none⟩, ⟨some 95, .mv (.tmp 17), none⟩, ⟨some 96, .iaa 3 3 (.tmp 9) (.const (.int .i64 1)), none⟩, ⟨some 97, .iaa 3 1 (.tmp 96) (.const (.int .i64 0)), none⟩, ⟨some 98, .ld 2 1 false (.tmp 97), none⟩, ⟨some 99, .bin 2 .mul (.tmp 95) (.tmp 98), none⟩, ⟨some 100, .mv (.tmp 17), none⟩, ⟨some 101, .iaa 3 3 (.tmp 9) (.const (.int .i64 2)), none⟩, ⟨some 102, .iaa 3 1 (.tmp 101) (.const (.int .i64 0)), none⟩, ⟨some 103, .ld 2 1 false (.tmp 102), none⟩, ⟨some 104, .bin 2 .mul (.tmp 100) (.tmp 103), none⟩, ⟨some 105, .bld (.agg #[.int .i64 0, .int .i64 0, .int .i64 0]) [(0, 1, .tmp 94), (1, 1, .tmp 99), (2, 1, .tmp 104)], none⟩, ⟨some 18, .alc 30 (.agg #[.int .i64 0, .int .i64 0, .int .i64 0]), none⟩, ⟨none, .st 30 3 (.tmp 18) (.tmp 105), none⟩]
def Xn11_52 : C := regL [11, 13, 14, 17, 18, 19, 20] none [⟨some 107, .mv (.tmp 11), none⟩, ⟨some 108, .ld 30 3 true (.tmp 18), none⟩, ⟨some 109, .mv (.tmp 12), none⟩, ⟨some 110, .call 38 [.tmp 107, .tmp 108, .tmp 109], none⟩, ⟨some 106, .mv (.tmp 110), none⟩, ⟨some 111, .ext 0 (.tmp 106), none⟩, ⟨some 112, .ext 1 (.tmp 106), none⟩, ⟨some 19, .mv (.tmp 111), none⟩, ⟨some 20, .mv (.tmp 112), none⟩]
def Xn11_55 : C := regL [11, 13, 14, 17, 18, 19, 20, 114] none [⟨some 113, .mv (.tmp 20), none⟩, ⟨some 114, .bin 22 .eql (.tmp 113) (.const (.int .i64 4)), none⟩]
def Xn11_58 : C := regL [8] none [⟨some 115, .call 17 [], none⟩, ⟨some 8, .mv (.tmp 115), none⟩]
def Xn11_57 : C := .seq Xn11_58 .ret
def Xn11_56 : C := .cond (.tmp 114) Xn11_57 .skip
def Xn11_54 : C := .seq Xn11_55 Xn11_56
def Xn11_63 : C := regL [11, 13, 14, 17, 18, 19, 124] none [⟨some 116, .mv (.tmp 20), none⟩, ⟨some 117, .bin 22 .neq (.tmp 116) (.const (.int .i64 0)), none⟩, ⟨some 118, .mv (.tmp 117), none⟩, ⟨some 119, .mv (.tmp 19), some (118, false)⟩, ⟨some 120, .len (.tmp 119), some (118, false)⟩, ⟨some 121, .mv (.tmp 11), some (118, false)⟩, ⟨some 122, .len (.tmp 121), some (118, false)⟩, ⟨some 123, .bin 3 .neq (.tmp 120) (.tmp 122), some (118, false)⟩, ⟨some 124, .pick 118 (.const (.bool true)) (.tmp 123), none⟩]
def Xn11_66 : C := regL [8] none [⟨some 8, .mv (.const (.bool false)), none⟩]
def Xn11_65 : C := .seq Xn11_66 .ret
def Xn11_64 : C := .cond (.tmp 124) Xn11_65 .skip
def Xn11_62 : C := .seq Xn11_63 Xn11_64
def Xn11_71 : C := regL [11, 13, 14, 17, 18, 19, 21] none [⟨some 21, .mv (.const (.int .i64 0)), none⟩]
def Xn11_76 : C := regL [11, 13, 14, 17, 18, 19, 21, 128] none [⟨some 125, .mv (.tmp 21), none⟩, ⟨some 126, .mv (.tmp 19), none⟩, ⟨some 127, .len (.tmp 126), none⟩, ⟨some 128, .bin 3 .lss (.tmp 125) (.tmp 127), none⟩]
def Xn11_77 : C := .cond (.tmp 128) .skip (.exit 2)
def Xn11_75 : C := .seq Xn11_76 Xn11_77
def Xn11_83 : C := regL [11, 13, 14, 17, 18, 19, 21, 146] none [⟨some 131, .mv (.tmp 19), none⟩, ⟨some 132, .mv (.tmp 21), none⟩, ⟨some 133, .ia 1 (.tmp 131) (.tmp 132), none⟩, ⟨some 134, .ld 2 1 false (.tmp 133), none⟩, ⟨some 135, .mv (.tmp 17), none⟩, ⟨some 136, .bin 2 .add (.tmp 135) (.const (.int .i64 3)), none⟩, ⟨some 137, .bin 2 .gtr (.tmp 134) (.tmp 136), none⟩, ⟨some 138, .mv (.tmp 137), none⟩, ⟨some 139, .mv (.tmp 19), some (138, false)⟩, ⟨some 140, .mv (.tmp 21), some (138, false)⟩, ⟨some 141, .ia 1 (.tmp 139) (.tmp 140), some (138, false)⟩, ⟨some 142, .ld 2 1 false (.tmp 141), some (138, false)⟩, ⟨some 143, .mv (.tmp 17), some (138, false)⟩, ⟨some 144, .bin 2 .sub (.tmp 143) (.const (.int .i64 3)), some (138, false)⟩, ⟨some 145, .bin 2 .lss (.tmp 142) (.tmp 144), some (138, false)⟩, ⟨some 146, .pick 138 (.const (.bool true)) (.tmp 145), none⟩]
def Xn11_86 : C := regL [8] none [⟨some 8, .mv (.const (.bool false)), none⟩]
def Xn11_85 : C := .seq Xn11_86 .ret
def Xn11_84 : C := .cond (.tmp 146) Xn11_85 .skip
def Xn11_82 : C := .seq Xn11_83 Xn11_84
def Xn11_81 : C := .block 3 Xn11_82
def Xn11_89 : C := regL [11, 13, 14, 17, 18, 19, 21] none [⟨some 129, .mv (.tmp 21), none⟩, ⟨some 130, .bin 3 .add (.tmp 129) (.const (.int .i64 1)), none⟩, ⟨some 21, .mv (.tmp 130), none⟩]
def Xn11_80 : C := seqL [11, 13, 14, 17, 18, 19, 21] Xn11_81 Xn11_89
def Xn11_74 : C := seqL [11, 13, 14, 17, 18, 19, 21] Xn11_75 Xn11_80
/- carried: [21] -/
def Xn11_73 : C := loopL [11, 13, 14, 17, 18, 19, 21] Xn11_74
def Xn11_72 : C := .block 2 Xn11_73
def Xn11_70 : C := .seq Xn11_71 Xn11_72
def Xn11_91 : C := regL [11, 14, 18, 22, 23] none [⟨some 148, .mv (.tmp 11), none⟩, ⟨some 149, .ld 30 3 true (.tmp 18), none⟩, ⟨some 150, .mv (.tmp 13), none⟩, ⟨some 151, .call 38 [.tmp 148, .tmp 149, .tmp 150], none⟩, ⟨some 147, .mv (.tmp 151), none⟩, ⟨some 152, .ext 0 (.tmp 147), none⟩, ⟨some 153, .ext 1 (.tmp 147), none⟩, ⟨some 22, .mv (.tmp 152), none⟩, ⟨some 23, .mv (.tmp 153), none⟩]
def Xn11_93 : C := regL [22, 23, 24, 25] none [⟨some 155, .mv (.tmp 11), none⟩, ⟨some 156, .ld 30 3 true (.tmp 18), none⟩, ⟨some 157, .mv (.tmp 14), none⟩, ⟨some 158, .call 38 [.tmp 155, .tmp 156, .tmp 157], none⟩, ⟨some 154, .mv (.tmp 158), none⟩, ⟨some 159, .ext 0 (.tmp 154), none⟩, ⟨some 160, .ext 1 (.tmp 154), none⟩, ⟨some 24, .mv (.tmp 159), none⟩, ⟨some 25, .mv (.tmp 160), none⟩]
def Xn11_96 : C := regL [22, 23, 24, 25, 166] none [⟨some 161, .mv (.tmp 23), none⟩, ⟨some 162, .bin 22 .neq (.tmp 161) (.const (.int .i64 0)), none⟩, ⟨some 163, .mv (.tmp 162), none⟩, ⟨some 164, .mv (.tmp 25), some (163, false)⟩, ⟨some 165, .bin 22 .neq (.tmp 164) (.const (.int .i64 0)), some (163, false)⟩, ⟨some 166, .pick 163 (.const (.bool true)) (.tmp 165), none⟩]
def Xn11_99 : C := regL [8] none [⟨some 167, .mv (.tmp 23), none⟩, ⟨some 168, .bin 22 .eql (.tmp 167) (.const (.int .i64 0)), none⟩, ⟨some 169, .mv (.tmp 168), none⟩, ⟨some 170, .mv (.tmp 23), some (169, false)⟩, ⟨some 171, .bin 22 .eql (.tmp 170) (.const (.int .i64 14)), some (169, false)⟩, ⟨some 172, .pick 169 (.const (.bool true)) (.tmp 171), none⟩, ⟨some 173, .mv (.tmp 172), none⟩, ⟨some 174, .mv (.tmp 25), some (173, true)⟩, ⟨some 175, .bin 22 .eql (.tmp 174) (.const (.int .i64 0)), some (173, true)⟩, ⟨some 176, .mv (.tmp 175), some (173, true)⟩, ⟨some 177, .mv (.tmp 25), some (176, false)⟩, ⟨some 178, .bin 22 .eql (.tmp 177) (.const (.int .i64 14)), some (176, false)⟩, ⟨some 179, .pick 176 (.const (.bool true)) (.tmp 178), some (173, true)⟩, ⟨some 180, .pick 173 (.tmp 179) (.const (.bool false)), none⟩, ⟨some 181, .mv (.tmp 180), none⟩, ⟨some 182, .call 17 [], some (181, true)⟩, ⟨some 183, .pick 181 (.tmp 182) (.const (.bool false)), none⟩, ⟨some 8, .mv (.tmp 183), none⟩]
def Xn11_98 : C := .seq Xn11_99 .ret
def Xn11_97 : C := .cond (.tmp 166) Xn11_98 .skip
def Xn11_95 : C := .seq Xn11_96 Xn11_97
def Xn11_104 : C := regL [22, 24, 26] none [⟨some 26, .mv (.const (.int .i64 0)), none⟩]
def Xn11_109 : C := regL [22, 24, 26, 193] none [⟨some 184, .mv (.tmp 26), none⟩, ⟨some 185, .mv (.tmp 22), none⟩, ⟨some 186, .len (.tmp 185), none⟩, ⟨some 187, .bin 3 .lss (.tmp 184) (.tmp 186), none⟩, ⟨some 188, .mv (.tmp 187), none⟩, ⟨some 189, .mv (.tmp 26), some (188, true)⟩, ⟨some 190, .mv (.tmp 24), some (188, true)⟩, ⟨some 191, .len (.tmp 190), some (188, true)⟩, ⟨some 192, .bin 3 .lss (.tmp 189) (.tmp 191), some (188, true)⟩, ⟨some 193, .pick 188 (.tmp 192) (.const (.bool false)), none⟩]
def Xn11_110 : C := .cond (.tmp 193) .skip (.exit 4)
def Xn11_108 : C := .seq Xn11_109 Xn11_110
def Xn11_116 : C := regL [22, 24, 26, 217] (some [0, 0, 3, 7, 0, 0, 48, 112, 255, 511, 1023, 2047, 2047, 8191, 16383, 2047, 2047, 100351, 231423, 524287, 1048575, 2097151]) [⟨some 196, .mv (.tmp 22), none⟩, ⟨some 197, .mv (.tmp 26), none⟩, ⟨some 198, .ia 1 (.tmp 196) (.tmp 197), none⟩, ⟨some 199, .ld 2 1 false (.tmp 198), none⟩, ⟨some 200, .mv (.tmp 24), none⟩, ⟨some 201, .mv (.tmp 26), none⟩, ⟨some 202, .ia 1 (.tmp 200) (.tmp 201), none⟩, ⟨some 203, .ld 2 1 false (.tmp 202), none⟩, ⟨some 204, .bin 2 .sub (.tmp 199) (.tmp 203), none⟩, ⟨some 205, .bin 2 .gtr (.tmp 204) (.const (.int .i64 3)), none⟩, ⟨some 206, .mv (.tmp 205), none⟩, ⟨some 207, .mv (.tmp 24), some (206, false)⟩, ⟨some 208, .mv (.tmp 26), some (206, false)⟩, ⟨some 209, .ia 1 (.tmp 207) (.tmp 208), some (206, false)⟩, ⟨some 210, .ld 2 1 false (.tmp 209), some (206, false)⟩, ⟨some 211, .mv (.tmp 22), some (206, false)⟩, ⟨some 212, .mv (.tmp 26), some (206, false)⟩, ⟨some 213, .ia 1 (.tmp 211) (.tmp 212), some (206, false)⟩, ⟨some 214, .ld 2 1 false (.tmp 213), some (206, false)⟩, ⟨some 215, .bin 2 .sub (.tmp 210) (.tmp 214), some (206, false)⟩, ⟨some 216, .bin 2 .gtr (.tmp 215) (.const (.int .i64 3)), some (206, false)⟩, ⟨some 217, .pick 206 (.const (.bool true)) (.tmp 216), none⟩]
def Xn11_119 : C := regL [8] none [⟨some 8, .mv (.const (.bool false)), none⟩]
def Xn11_118 : C := .seq Xn11_119 .ret
def Xn11_117 : C := .cond (.tmp 217) Xn11_118 .skip
def Xn11_115 : C := .seq Xn11_116 Xn11_117
def Xn11_114 : C := .block 5 Xn11_115
def Xn11_122 : C := regL [22, 24, 26] none [⟨some 194, .mv (.tmp 26), none⟩, ⟨some 195, .bin 3 .add (.tmp 194) (.const (.int .i64 1)), none⟩, ⟨some 26, .mv (.tmp 195), none⟩]
def Xn11_113 : C := seqL [22, 24, 26] Xn11_114 Xn11_122
def Xn11_107 : C := seqL [22, 24, 26] Xn11_108 Xn11_113
/- carried: [26] -/
def Xn11_106 : C := loopL [22, 24, 26] Xn11_107
def Xn11_105 : C := .block 4 Xn11_106
def Xn11_103 : C := .seq Xn11_104 Xn11_105
def Xn11_124 : C := regL [8] none [⟨some 218, .mv (.tmp 22), none⟩, ⟨some 219, .len (.tmp 218), none⟩, ⟨some 220, .mv (.tmp 24), none⟩, ⟨some 221, .len (.tmp 220), none⟩, ⟨some 222, .bin 3 .eql (.tmp 219) (.tmp 221), none⟩, ⟨some 223, .mv (.tmp 222), none⟩, ⟨some 224, .call 17 [], some (223, true)⟩, ⟨some 225, .pick 223 (.tmp 224) (.const (.bool false)), none⟩, ⟨some 8, .mv (.tmp 225), none⟩]
def Xn11_123 : C := .seq Xn11_124 .ret
def Xn11_102 : C := seqL [22, 24] Xn11_103 Xn11_123
def Xn11_94 : C := seqL [22, 24] Xn11_95 Xn11_102
def Xn11_92 : C := .seq Xn11_93 Xn11_94
def Xn11_90 : C := .seq Xn11_91 Xn11_92
def Xn11_69 : C := seqL [11, 13, 14, 18] Xn11_70 Xn11_90
def Xn11_61 : C := seqL [11, 13, 14, 17, 18, 19] Xn11_62 Xn11_69
def Xn11_53 : C := seqL [11, 13, 14, 17, 18, 19, 20] Xn11_54 Xn11_61
def Xn11_51 : C := .seq Xn11_52 Xn11_53
def Xn11_49 : C := .seq Xn11_50 Xn11_51
def Xn11_47 : C := .seq Xn11_48 Xn11_49
def Xn11_16 : C := seqL [1, 9, 11, 12, 13, 14] Xn11_17 Xn11_47
def Xn11_14 : C := .seq Xn11_15 Xn11_16
def Xn11_12 : C := .seq Xn11_13 Xn11_14
def Xn11_4 : C := seqL [0, 1, 2, 3, 9] Xn11_5 Xn11_12
def Xn11_2 : C := .seq Xn11_3 Xn11_4
def Xn11_0 : C := .seq Xn11_1 Xn11_2
theorem Xt11 : Text Try.prog 11 Xn11_0 226 4 [.t 8] := ⟨⟨Try.f11, [], Try.func11, by kernel_rfl, by kernel_rfl, by kernel_rfl, by kernel_rfl⟩⟩
/- carried: [12] -/
/- carried: [12] -/
def Xn16_1 : C := regL [0, 1, 2, 3] none [⟨some 8, .mv (.const (.int .i64 0)), none⟩, ⟨some 9, .mv (.const (.int .i64 0)), none⟩, ⟨some 10, .mv (.const (.int .i64 0)), none⟩]
def Xn16_3 : C := regL [0, 1, 2, 3, 11] none [⟨some 11, .mv (.func 52), none⟩]
def Xn16_7 : C := regL [0, 1, 2, 3, 12] none [⟨some 13, .mv (.tmp 0), none⟩, ⟨some 14, .call 54 [.tmp 13], none⟩, ⟨some 15, .un .not (.tmp 14), none⟩, ⟨some 16, .mv (.tmp 15), none⟩, ⟨some 17, .mv (.tmp 11), some (16, false)⟩, ⟨some 18, .mv (.tmp 1), some (16, false)⟩, ⟨some 19, .callv (.tmp 17) [.tmp 18], some (16, false)⟩, ⟨some 20, .un .not (.tmp 19), some (16, false)⟩, ⟨some 21, .pick 16 (.const (.bool true)) (.tmp 20), none⟩, ⟨some 22, .mv (.tmp 21), none⟩, ⟨some 23, .mv (.tmp 11), some (22, false)⟩, ⟨some 24, .mv (.tmp 2), some (22, false)⟩, ⟨some 25, .callv (.tmp 23) [.tmp 24], some (22, false)⟩, ⟨some 26, .un .not (.tmp 25), some (22, false)⟩, ⟨some 27, .pick 22 (.const (.bool true)) (.tmp 26), none⟩, ⟨some 28, .mv (.tmp 27), none⟩, ⟨some 29, .mv (.tmp 11), some (28, false)⟩, ⟨some 30, .mv (.tmp 3), some (28, false)⟩, ⟨some 31, .callv (.tmp 29) [.tmp 30], some (28, false)⟩, ⟨some 32, .un .not (.tmp 31), some (28, false)⟩, ⟨some 33, .pick 28 (.const (.bool true)) (.tmp 32), none⟩, ⟨some 12, .mv (.tmp 33), none⟩]
def Xn16_10 : C := regL [8, 9, 10] none [⟨some 8, .mv (.const (.int .i64 0)), none⟩, ⟨some 9, .mv (.const (.int .i64 0)), none⟩, ⟨some 10, .mv (.const (.int .i64 3)), none⟩]
def Xn16_9 : C := .seq Xn16_10 .ret
def Xn16_13 : C := regL [0, 1, 2, 3, 34] none [⟨some 35, .mv (.tmp 1), none⟩, ⟨some 36, .mv (.tmp 2), none⟩, ⟨some 37, .bin 2 .geq (.tmp 35) (.tmp 36), none⟩, ⟨some 34, .mv (.tmp 37), none⟩]
def Xn16_16 : C := regL [8, 9, 10] none [⟨some 8, .mv (.const (.int .i64 0)), none⟩, ⟨some 9, .mv (.const (.int .i64 0)), none⟩, ⟨some 10, .mv (.const (.int .i64 9)), none⟩]
def Xn16_15 : C := .seq Xn16_16 .ret
def Xn16_19 : C := regL [0, 1, 2, 3, 38] none [⟨some 39, .mv (.tmp 3), none⟩, ⟨some 40, .mv (.tmp 1), none⟩, ⟨some 41, .mv (.tmp 2), none⟩, ⟨some 42, .call 53 [.tmp 39, .tmp 40, .tmp 41], none⟩, ⟨some 43, .un .not (.tmp 42), none⟩, ⟨some 38, .mv (.tmp 43), none⟩]
def Xn16_22 : C := regL [8, 9, 10] none [⟨some 8, .mv (.const (.int .i64 0)), none⟩, ⟨some 9, .mv (.const (.int .i64 0)), none⟩, ⟨some 10, .mv (.const (.int .i64 19)), none⟩]
def Xn16_21 : C := .seq Xn16_22 .ret
def Xn16_20 : C := .cond (.tmp 38) Xn16_21 .skip
def Xn16_18 : C := .seq Xn16_19 Xn16_20
def Xn16_14 : C := .cond (.tmp 34) Xn16_15 Xn16_18
def Xn16_12 : C := .seq Xn16_13 Xn16_14
def Xn16_8 : C := .cond (.tmp 12) Xn16_9 Xn16_12
def Xn16_6 : C := .seq Xn16_7 Xn16_8
def Xn16_5 : C := .block 0 Xn16_6
def Xn16_26 : C := regL [8, 9, 10] none [⟨some 44, .mv (.tmp 0), none⟩, ⟨some 45, .mv (.tmp 2), none⟩, ⟨some 46, .mv (.tmp 3), none⟩, ⟨some 47, .bin 2 .sub (.tmp 45) (.tmp 46), none⟩, ⟨some 48, .mv (.tmp 2), none⟩, ⟨some 49, .mv (.tmp 1), none⟩, ⟨some 50, .bin 2 .sub (.tmp 48) (.tmp 49), none⟩, ⟨some 51, .bld (.agg #[.int .i64 0, .int .i64 0, .int .i64 0]) [(0, 1, .tmp 44), (1, 1, .tmp 47), (2, 1, .tmp 50)], none⟩, ⟨some 52, .call 55 [.tmp 51], none⟩, ⟨some 53, .mv (.tmp 0), none⟩, ⟨some 54, .mv (.tmp 3), none⟩, ⟨some 55, .mv (.tmp 1), none⟩, ⟨some 56, .bin 2 .sub (.tmp 54) (.tmp 55), none⟩, ⟨some 57, .mv (.tmp 2), none⟩, ⟨some 58, .mv (.tmp 1), none⟩, ⟨some 59, .bin 2 .sub (.tmp 57) (.tmp 58), none⟩, ⟨some 60, .bld (.agg #[.int .i64 0, .int .i64 0, .int .i64 0]) [(0, 1, .tmp 53), (1, 1, .tmp 56), (2, 1, .tmp 59)], none⟩, ⟨some 61, .call 55 [.tmp 60], none⟩, ⟨some 8, .mv (.tmp 52), none⟩, ⟨some 9, .mv (.tmp 61), none⟩, ⟨some 10, .mv (.const (.int .i64 0)), none⟩]
def Xn16_25 : C := .seq Xn16_26 .ret
def Xn16_4 : C := seqL [0, 1, 2, 3] Xn16_5 Xn16_25
def Xn16_2 : C := .seq Xn16_3 Xn16_4
def Xn16_0 : C := .seq Xn16_1 Xn16_2
theorem Xt16 : Text Try.prog 16 Xn16_0 62 4 [.t 8, .t 9, .t 10] := ⟨⟨Try.f16, [], Try.func16, by kernel_rfl, by kernel_rfl, by kernel_rfl, by kernel_rfl⟩⟩
def Xn17_1 : C := regL [] none [⟨some 0, .mv (.const (.bool false)), none⟩]
def Xn17_3 : C := regL [1, 2] none [⟨some 9, .call 35 [], none⟩, ⟨some 10, .bld (.agg #[.int .i64 0, .int .i64 0]) [(0, 1, .const (.int .i64 2000))], none⟩, ⟨some 11, .call 21 [.tmp 9, .const (.int .i64 16000), .tmp 10], none⟩, ⟨some 8, .mv (.tmp 11), none⟩, ⟨some 12, .ext 0 (.tmp 8), none⟩, ⟨some 13, .ext 1 (.tmp 8), none⟩, ⟨some 1, .alc 30 (.agg #[.int .i64 0, .int .i64 0, .int .i64 0]), none⟩, ⟨none, .st 30 3 (.tmp 1) (.tmp 12), none⟩, ⟨some 2, .mv (.tmp 13), none⟩]
def Xn17_5 : C := regL [1, 2, 3, 4] none [⟨some 15, .call 35 [], none⟩, ⟨some 16, .bld (.agg #[.int .i64 0, .int .i64 0]) [(0, 1, .const (.int .i64 5000))], none⟩, ⟨some 17, .call 19 [.tmp 15, .tmp 16], none⟩, ⟨some 14, .mv (.tmp 17), none⟩, ⟨some 18, .ext 0 (.tmp 14), none⟩, ⟨some 19, .ext 1 (.tmp 14), none⟩, ⟨some 3, .mv (.tmp 18), none⟩, ⟨some 4, .mv (.tmp 19), none⟩]
def Xn17_7 : C := regL [1, 2, 3, 4, 5, 6, 7] none [⟨some 21, .call 16 [.const (.int .i64 1000), .const (.int .i64 0), .const (.int .i64 3), .const (.int .i64 1)], none⟩, ⟨some 20, .mv (.tmp 21), none⟩, ⟨some 22, .ext 0 (.tmp 20), none⟩, ⟨some 23, .ext 1 (.tmp 20), none⟩, ⟨some 24, .ext 2 (.tmp 20), none⟩, ⟨some 5, .mv (.tmp 22), none⟩, ⟨some 6, .mv (.tmp 23), none⟩, ⟨some 7, .mv (.tmp 24), none⟩]
def Xn17_9 : C := regL [0] none [⟨some 25, .mv (.tmp 2), none⟩, ⟨some 26, .mv (.tmp 4), none⟩, ⟨some 27, .bin 22 .add (.tmp 25) (.tmp 26), none⟩, ⟨some 28, .mv (.tmp 7), none⟩, ⟨some 29, .bin 22 .add (.tmp 27) (.tmp 28), none⟩, ⟨some 30, .bin 22 .eql (.tmp 29) (.const (.int .i64 0)), none⟩, ⟨some 31, .mv (.tmp 30), none⟩, ⟨some 32, .ld 30 3 true (.tmp 1), some (31, true)⟩, ⟨some 33, .bld (.agg #[.int .i64 0, .int .i64 0, .int .i64 0]) [(0, 1, .const (.int .i64 4000)), (1, 1, .const (.int .i64 3000)), (2, 1, .const (.int .i64 5000))], some (31, true)⟩, ⟨some 34, .eqb 21 false (.tmp 32) (.tmp 33), some (31, true)⟩, ⟨some 35, .pick 31 (.tmp 34) (.const (.bool false)), none⟩, ⟨some 36, .mv (.tmp 35), none⟩, ⟨some 37, .mv (.tmp 3), some (36, true)⟩, ⟨some 38, .bin 3 .eql (.tmp 37) (.const (.int .i64 0)), some (36, true)⟩, ⟨some 39, .pick 36 (.tmp 38) (.const (.bool false)), none⟩, ⟨some 40, .mv (.tmp 39), none⟩, ⟨some 41, .mv (.tmp 5), some (40, true)⟩, ⟨some 42, .bin 2 .eql (.tmp 41) (.const (.int .i64 667)), some (40, true)⟩, ⟨some 43, .pick 40 (.tmp 42) (.const (.bool false)), none⟩, ⟨some 44, .mv (.tmp 43), none⟩, ⟨some 45, .mv (.tmp 6), some (44, true)⟩, ⟨some 46, .bin 2 .eql (.tmp 45) (.const (.int .i64 334)), some (44, true)⟩, ⟨some 47, .pick 44 (.tmp 46) (.const (.bool false)), none⟩, ⟨some 0, .mv (.tmp 47), none⟩]
def Xn17_8 : C := .seq Xn17_9 .ret
def Xn17_6 : C := .seq Xn17_7 Xn17_8
def Xn17_4 : C := .seq Xn17_5 Xn17_6
def Xn17_2 : C := .seq Xn17_3 Xn17_4
def Xn17_0 : C := .seq Xn17_1 Xn17_2
theorem Xt17 : Text Try.prog 17 Xn17_0 48 0 [.t 0] := ⟨⟨Try.f17, [], Try.func17, by kernel_rfl, by kernel_rfl, by kernel_rfl, by kernel_rfl⟩⟩
def Xn18_1 : C := regL [0, 2] none [⟨some 2, .alc 31 (.agg #[.int .i64 0, .int .i64 0, .int .i64 0, .int .i64 0, .int .i64 0, .int .i64 0, .int .i64 0, .int .i64 0, .int .i64 0]), none⟩, ⟨some 3, .mv (.const (.int .i64 0)), none⟩]
def Xn18_3 : C := regL [2, 4, 5] none [⟨some 7, .mv (.tmp 0), none⟩, ⟨some 8, .call 56 [.tmp 7], none⟩, ⟨some 6, .mv (.tmp 8), none⟩, ⟨some 9, .ext 0 (.tmp 6), none⟩, ⟨some 10, .ext 1 (.tmp 6), none⟩, ⟨some 4, .mv (.tmp 9), none⟩, ⟨some 5, .mv (.tmp 10), none⟩]
def Xn18_6 : C := regL [2, 4, 5, 12] none [⟨some 11, .mv (.tmp 5), none⟩, ⟨some 12, .bin 22 .neq (.tmp 11) (.const (.int .i64 0)), none⟩]
def Xn18_9 : C := regL [2, 3] none [⟨some 13, .bld (.agg #[.int .i64 0, .int .i64 0, .int .i64 0, .int .i64 0, .int .i64 0, .int .i64 0, .int .i64 0, .int .i64 0, .int .i64 0]) [], none⟩, ⟨some 14, .mv (.tmp 5), none⟩, ⟨none, .st 31 9 (.tmp 2) (.tmp 13), none⟩, ⟨some 3, .mv (.tmp 14), none⟩]
def Xn18_8 : C := .seq Xn18_9 .ret
def Xn18_7 : C := .cond (.tmp 12) Xn18_8 .skip
def Xn18_5 : C := .seq Xn18_6 Xn18_7
def Xn18_13 : C := regL [2, 3] none [⟨some 15, .mv (.tmp 4), none⟩, ⟨some 16, .nilc (.tmp 15), none⟩, ⟨some 17, .fa 1 (.tmp 16), none⟩, ⟨some 18, .ld 94 9 true (.tmp 17), none⟩, ⟨none, .st 31 9 (.tmp 2) (.tmp 18), none⟩, ⟨some 3, .mv (.const (.int .i64 0)), none⟩]
def Xn18_12 : C := .seq Xn18_13 .ret
def Xn18_4 : C := seqL [2, 4] Xn18_5 Xn18_12
def Xn18_2 : C := .seq Xn18_3 Xn18_4
def Xn18_0 : C := .seq Xn18_1 Xn18_2
theorem Xt18 : Text Try.prog 18 Xn18_0 19 1 [.c 2 9 true, .t 3] := ⟨⟨Try.f18, [], Try.func18, by kernel_rfl, by kernel_rfl, by kernel_rfl, by kernel_rfl⟩⟩
def Xn19_1 : C := regL [0, 3] none [⟨some 3, .box true 29 (.tmp 1), none⟩, ⟨some 4, .mv (.const (.int .i64 0)), none⟩, ⟨some 5, .mv (.const (.int .i64 0)), none⟩]
def Xn19_3 : C := regL [3, 6, 7] none [⟨some 10, .mv (.tmp 0), none⟩, ⟨some 11, .call 56 [.tmp 10], none⟩, ⟨some 9, .mv (.tmp 11), none⟩, ⟨some 12, .ext 0 (.tmp 9), none⟩, ⟨some 13, .ext 1 (.tmp 9), none⟩, ⟨some 6, .mv (.tmp 12), none⟩, ⟨some 7, .mv (.tmp 13), none⟩]
def Xn19_6 : C := regL [3, 6, 7, 15] none [⟨some 14, .mv (.tmp 7), none⟩, ⟨some 15, .bin 22 .neq (.tmp 14) (.const (.int .i64 0)), none⟩]
def Xn19_9 : C := regL [4, 5] none [⟨some 16, .mv (.tmp 7), none⟩, ⟨some 4, .mv (.const (.int .i64 0)), none⟩, ⟨some 5, .mv (.tmp 16), none⟩]
def Xn19_8 : C := .seq Xn19_9 .ret
def Xn19_7 : C := .cond (.tmp 15) Xn19_8 .skip
def Xn19_5 : C := .seq Xn19_6 Xn19_7
def Xn19_14 : C := regL [3, 6, 19] none [⟨some 17, .ld 29 2 true (.tmp 3), none⟩, ⟨some 18, .call 57 [.tmp 17], none⟩, ⟨some 19, .un .not (.tmp 18), none⟩]
def Xn19_17 : C := regL [4, 5] none [⟨some 4, .mv (.const (.int .i64 0)), none⟩, ⟨some 5, .mv (.const (.int .i64 3)), none⟩]
def Xn19_16 : C := .seq Xn19_17 .ret
def Xn19_15 : C := .cond (.tmp 19) Xn19_16 .skip
def Xn19_13 : C := .seq Xn19_14 Xn19_15
def Xn19_22 : C := regL [8] none [⟨some 20, .mv (.tmp 6), none⟩, ⟨some 21, .ld 29 2 true (.tmp 3), none⟩, ⟨some 22, .call 58 [.tmp 20, .tmp 21], none⟩, ⟨some 8, .mv (.tmp 22), none⟩]
def Xn19_24 : C := regL [8, 24] none [⟨some 23, .mv (.tmp 8), none⟩, ⟨some 24, .bin 3 .geq (.tmp 23) (.const (.int .i64 0)), none⟩]
def Xn19_27 : C := regL [4, 5] none [⟨some 25, .mv (.tmp 8), none⟩, ⟨some 4, .mv (.tmp 25), none⟩, ⟨some 5, .mv (.const (.int .i64 0)), none⟩]
def Xn19_26 : C := .seq Xn19_27 .ret
def Xn19_25 : C := .cond (.tmp 24) Xn19_26 .skip
def Xn19_23 : C := .seq Xn19_24 Xn19_25
def Xn19_21 : C := .seq Xn19_22 Xn19_23
def Xn19_31 : C := regL [4, 5] none [⟨some 4, .mv (.const (.int .i64 0)), none⟩, ⟨some 5, .mv (.const (.int .i64 5)), none⟩]
def Xn19_30 : C := .seq Xn19_31 .ret
def Xn19_20 : C := seqL [] Xn19_21 Xn19_30
def Xn19_12 : C := seqL [3, 6] Xn19_13 Xn19_20
def Xn19_4 : C := seqL [3, 6] Xn19_5 Xn19_12
def Xn19_2 : C := .seq Xn19_3 Xn19_4
def Xn19_0 : C := .seq Xn19_1 Xn19_2
theorem Xt19 : Text Try.prog 19 Xn19_0 26 2 [.t 4, .t 5] := ⟨⟨Try.f19, [3], Try.func19, by kernel_rfl, by kernel_rfl, by kernel_rfl, by kernel_rfl⟩⟩
def Xn21_1 : C := regL [0, 1, 5, 6] none [⟨some 5, .box true 29 (.tmp 2), none⟩, ⟨some 6, .alc 30 (.agg #[.int .i64 0, .int .i64 0, .int .i64 0]), none⟩, ⟨some 7, .mv (.const (.int .i64 0)), none⟩]
def Xn21_3 : C := regL [1, 5, 6, 8, 9] none [⟨some 11, .mv (.tmp 0), none⟩, ⟨some 12, .call 56 [.tmp 11], none⟩, ⟨some 10, .mv (.tmp 12), none⟩, ⟨some 13, .ext 0 (.tmp 10), none⟩, ⟨some 14, .ext 1 (.tmp 10), none⟩, ⟨some 8, .mv (.tmp 13), none⟩, ⟨some 9, .mv (.tmp 14), none⟩]
def Xn21_6 : C := regL [1, 5, 6, 8, 9, 16] none [⟨some 15, .mv (.tmp 9), none⟩, ⟨some 16, .bin 22 .neq (.tmp 15) (.const (.int .i64 0)), none⟩]
def Xn21_9 : C := regL [6, 7] none [⟨some 17, .bld (.agg #[.int .i64 0, .int .i64 0, .int .i64 0]) [], none⟩, ⟨some 18, .mv (.tmp 9), none⟩, ⟨none, .st 30 3 (.tmp 6) (.tmp 17), none⟩, ⟨some 7, .mv (.tmp 18), none⟩]
def Xn21_8 : C := .seq Xn21_9 .ret
def Xn21_7 : C := .cond (.tmp 16) Xn21_8 .skip
def Xn21_5 : C := .seq Xn21_6 Xn21_7
def Xn21_13 : C := regL [6, 7] none [⟨some 19, .mv (.tmp 8), none⟩, ⟨some 20, .mv (.tmp 1), none⟩, ⟨some 21, .ld 29 2 true (.tmp 5), none⟩, ⟨some 22, .call 59 [.tmp 19, .tmp 20, .tmp 21], none⟩, ⟨some 23, .ext 0 (.tmp 22), none⟩, ⟨some 24, .ext 1 (.tmp 22), none⟩, ⟨none, .st 30 3 (.tmp 6) (.tmp 23), none⟩, ⟨some 7, .mv (.tmp 24), none⟩]
def Xn21_12 : C := .seq Xn21_13 .ret
def Xn21_4 : C := seqL [1, 5, 6, 8] Xn21_5 Xn21_12
def Xn21_2 : C := .seq Xn21_3 Xn21_4
def Xn21_0 : C := .seq Xn21_1 Xn21_2
theorem Xt21 : Text Try.prog 21 Xn21_0 25 3 [.c 6 3 true, .t 7] := ⟨⟨Try.f21, [5], Try.func21, by kernel_rfl, by kernel_rfl, by kernel_rfl, by kernel_rfl⟩⟩
def Xn27_1 : C := regL [0] none [⟨some 2, .mv (.const (.int .i64 0)), none⟩]
def Xn27_3 : C := regL [4] none [⟨some 6, .mv (.tmp 0), none⟩, ⟨some 7, .call 56 [.tmp 6], none⟩, ⟨some 5, .mv (.tmp 7), none⟩, ⟨some 8, .ext 0 (.tmp 5), none⟩, ⟨some 9, .ext 1 (.tmp 5), none⟩, ⟨some 3, .mv (.tmp 8), none⟩, ⟨some 4, .mv (.tmp 9), none⟩]
def Xn27_5 : C := regL [2] none [⟨some 10, .mv (.tmp 4), none⟩, ⟨some 2, .mv (.tmp 10), none⟩]
def Xn27_4 : C := .seq Xn27_5 .ret
def Xn27_2 : C := .seq Xn27_3 Xn27_4
def Xn27_0 : C := .seq Xn27_1 Xn27_2
theorem Xt27 : Text Try.prog 27 Xn27_0 11 1 [.t 2] := ⟨⟨Try.f27, [], Try.func27, by kernel_rfl, by kernel_rfl, by kernel_rfl, by kernel_rfl⟩⟩
/- carried: [3] -/
/- carried: [10] -/
/- carried: [8] -/
def Xn35_1 : C := regL [] none [⟨some 0, .mv (.const (.slice none 0 0)), none⟩]
def Xn35_3 : C := regL [0] none [⟨some 1, .bld (.agg #[.int .i64 0, .int .i64 0, .int .i64 0, .int .i64 0, .int .i64 0, .int .i64 0]) [(3, 1, .const (.int .i64 10000)), (4, 1, .const (.int .i64 100)), (5, 1, .const (.int .i64 900))], none⟩, ⟨some 2, .bld (.agg #[.int .i64 0, .int .i64 0, .int .i64 0, .int .i64 0, .int .i64 0, .int .i64 0]) [(0, 1, .const (.int .i64 4000)), (1, 1, .const (.int .i64 2000)), (2, 1, .const (.int .i64 1)), (3, 1, .const (.int .i64 10000)), (4, 1, .const (.int .i64 100)), (5, 1, .const (.int .i64 900))], none⟩, ⟨some 3, .bld (.agg #[.int .i64 0, .int .i64 0, .int .i64 0, .int .i64 0, .int .i64 0, .int .i64 0]) [(0, 1, .const (.int .i64 4000)), (1, 1, .const (.int .i64 (-2000))), (2, 1, .const (.int .i64 2)), (3, 1, .const (.int .i64 10000)), (4, 1, .const (.int .i64 100)), (5, 1, .const (.int .i64 900))], none⟩, ⟨some 4, .bld (.agg #[.int .i64 0, .int .i64 0, .int .i64 0, .int .i64 0, .int .i64 0, .int .i64 0]) [(1, 1, .const (.int .i64 1000)), (3, 1, .const (.int .i64 10000)), (4, 1, .const (.int .i64 100)), (5, 1, .const (.int .i64 900))], none⟩, ⟨some 5, .bls 62 6 4 (.agg #[.int .i64 0, .int .i64 0, .int .i64 0, .int .i64 0, .int .i64 0, .int .i64 0]) [(0, 6, .tmp 1), (6, 6, .tmp 2), (12, 6, .tmp 3), (18, 6, .tmp 4)], none⟩, ⟨some 0, .mv (.tmp 5), none⟩]
def Xn35_2 : C := .seq Xn35_3 .ret
def Xn35_0 : C := .seq Xn35_1 Xn35_2
theorem Xt35 : Text Try.prog 35 Xn35_0 6 0 [.t 0] := ⟨⟨Try.f35, [], Try.func35, by kernel_rfl, by kernel_rfl, by kernel_rfl, by kernel_rfl⟩⟩
def Xn38_1 : C := regL [0, 2, 4] none [⟨some 4, .box true 30 (.tmp 1), none⟩, ⟨some 6, .mv (.const (.slice none 0 0)), none⟩, ⟨some 7, .mv (.const (.int .i64 0)), none⟩]
def Xn38_3 : C := regL [0, 2, 8, 9, 10] none [⟨some 18, .mv (.tmp 0), none⟩, ⟨some 19, .ld 30 3 true (.tmp 4), none⟩, ⟨some 20, .mv (.tmp 2), none⟩, ⟨some 21, .call 76 [.tmp 18, .tmp 19, .tmp 20], none⟩, ⟨some 17, .mv (.tmp 21), none⟩, ⟨some 22, .ext 0 (.tmp 17), none⟩, ⟨some 23, .ext 1 (.tmp 17), none⟩, ⟨some 24, .ext 2 (.tmp 17), none⟩, ⟨some 9, .alc 30 (.agg #[.int .i64 0, .int .i64 0, .int .i64 0]), none⟩, ⟨some 8, .mv (.tmp 22), none⟩, ⟨none, .st 30 3 (.tmp 9) (.tmp 23), none⟩, ⟨some 10, .mv (.tmp 24), none⟩]
def Xn38_6 : C := regL [0, 2, 8, 9, 10, 26] none [⟨some 25, .mv (.tmp 10), none⟩, ⟨some 26, .bin 22 .neq (.tmp 25) (.const (.int .i64 0)), none⟩]
def Xn38_9 : C := regL [6, 7] none [⟨some 27, .mv (.tmp 10), none⟩, ⟨some 6, .mv (.const (.slice none 0 0)), none⟩, ⟨some 7, .mv (.tmp 27), none⟩]
def Xn38_8 : C := .seq Xn38_9 .ret
def Xn38_7 : C := .cond (.tmp 26) Xn38_8 .skip
def Xn38_5 : C := .seq Xn38_6 Xn38_7
def Xn38_13 : C := regL [0, 2, 8, 9, 11] none [⟨some 11, .mv (.const (.slice none 0 0)), none⟩]
def Xn38_16 : C := regL [2, 8, 9, 11, 28, 29, 30] none [⟨some 28, .mv (.tmp 0), none⟩, ⟨some 29, .len (.tmp 28), none⟩, ⟨some 30, .mv (.const (.int .i64 0)), none⟩]
def Xn38_20 : C := regL [2, 8, 9, 11, 28, 29, 30, 31] none [⟨some 31, .bin 3 .lss (.tmp 30) (.tmp 29), none⟩]
def Xn38_22 : C := .cond (.tmp 31) .skip (.exit 0)
def Xn38_28 : C := regL [2, 8, 9, 11, 12, 13, 28, 29, 30] none [⟨some 32, .mv (.tmp 30), none⟩, ⟨some 33, .ia 6 (.tmp 28) (.tmp 30), none⟩, ⟨some 34, .ld 62 6 true (.tmp 33), none⟩, ⟨some 13, .alc 62 (.agg #[.int .i64 0, .int .i64 0, .int .i64 0, .int .i64 0, .int .i64 0, .int .i64 0]), none⟩, ⟨some 12, .mv (.tmp 32), none⟩, ⟨none, .st 62 6 (.tmp 13) (.tmp 34), none⟩]
def Xn38_30 : C := regL [2, 8, 9, 11, 12, 13, 14, 15, 28, 29, 30] none [⟨some 36, .mv (.tmp 8), none⟩, ⟨some 37, .ld 30 3 true (.tmp 9), none⟩, ⟨some 38, .fa 0 (.tmp 13), none⟩, ⟨some 39, .ld 2 1 false (.tmp 38), none⟩, ⟨some 40, .fa 1 (.tmp 13), none⟩, ⟨some 41, .ld 2 1 false (.tmp 40), none⟩, ⟨some 42, .bld (.agg #[.int .i64 0, .int .i64 0]) [(0, 1, .tmp 39), (1, 1, .tmp 41)], none⟩, ⟨some 43, .call 77 [.tmp 36, .tmp 37, .tmp 42], none⟩, ⟨some 35, .mv (.tmp 43), none⟩, ⟨some 44, .ext 0 (.tmp 35), none⟩, ⟨some 45, .ext 1 (.tmp 35), none⟩, ⟨some 14, .mv (.tmp 44), none⟩, ⟨some 15, .mv (.tmp 45), none⟩]
def Xn38_33 : C := regL [2, 8, 9, 11, 12, 13, 14, 15, 28, 29, 30, 47] none [⟨some 46, .mv (.tmp 15), none⟩, ⟨some 47, .bin 22 .neq (.tmp 46) (.const (.int .i64 0)), none⟩]
def Xn38_36 : C := regL [6, 7] none [⟨some 48, .mv (.tmp 15), none⟩, ⟨some 6, .mv (.const (.slice none 0 0)), none⟩, ⟨some 7, .mv (.tmp 48), none⟩]
def Xn38_35 : C := .seq Xn38_36 .ret
def Xn38_34 : C := .cond (.tmp 47) Xn38_35 .skip
def Xn38_32 : C := .seq Xn38_33 Xn38_34
def Xn38_40 : C := regL [2, 8, 9, 11, 13, 16, 28, 29, 30] none [⟨some 49, .mv (.tmp 14), none⟩, ⟨some 50, .mv (.tmp 2), none⟩, ⟨some 51, .mv (.tmp 12), none⟩, ⟨some 52, .ia 1 (.tmp 50) (.tmp 51), none⟩, ⟨some 53, .ld 2 1 false (.tmp 52), none⟩, ⟨some 54, .bin 2 .sub (.tmp 49) (.tmp 53), none⟩, ⟨some 16, .mv (.tmp 54), none⟩]
def Xn38_43 : C := regL [2, 8, 9, 11, 16, 28, 29, 30, 61] none [⟨some 55, .mv (.tmp 16), none⟩, ⟨some 56, .fa 4 (.tmp 13), none⟩, ⟨some 57, .ld 2 1 false (.tmp 56), none⟩, ⟨some 58, .fa 5 (.tmp 13), none⟩, ⟨some 59, .ld 2 1 false (.tmp 58), none⟩, ⟨some 60, .call 53 [.tmp 55, .tmp 57, .tmp 59], none⟩, ⟨some 61, .un .not (.tmp 60), none⟩]
def Xn38_46 : C := regL [6, 7] none [⟨some 6, .mv (.const (.slice none 0 0)), none⟩, ⟨some 7, .mv (.const (.int .i64 14)), none⟩]
def Xn38_45 : C := .seq Xn38_46 .ret
def Xn38_44 : C := .cond (.tmp 61) Xn38_45 .skip
def Xn38_42 : C := .seq Xn38_43 Xn38_44
def Xn38_49 : C := regL [2, 8, 9, 11, 28, 29, 30] none [⟨some 62, .mv (.tmp 11), none⟩, ⟨some 63, .mv (.tmp 16), none⟩, ⟨some 64, .bls 2 1 1 (.int .i64 0) [(0, 1, .tmp 63)], none⟩, ⟨some 65, .app 2 1 8 (.tmp 62) (.tmp 64), none⟩, ⟨some 11, .mv (.tmp 65), none⟩]
def Xn38_41 : C := seqL [2, 8, 9, 11, 16, 28, 29, 30] Xn38_42 Xn38_49
def Xn38_39 : C := .seq Xn38_40 Xn38_41
def Xn38_31 : C := seqL [2, 8, 9, 11, 12, 13, 14, 28, 29, 30] Xn38_32 Xn38_39
def Xn38_29 : C := .seq Xn38_30 Xn38_31
def Xn38_27 : C := .seq Xn38_28 Xn38_29
def Xn38_26 : C := .block 1 Xn38_27
def Xn38_50 : C := regL [2, 8, 9, 11, 28, 29, 30] none [⟨some 66, .bin 3 .add (.tmp 30) (.const (.int .i64 1)), none⟩, ⟨some 30, .mv (.tmp 66), none⟩]
def Xn38_25 : C := seqL [2, 8, 9, 11, 28, 29, 30] Xn38_26 Xn38_50
def Xn38_21 : C := seqL [2, 8, 9, 11, 28, 29, 30] Xn38_22 Xn38_25
def Xn38_19 : C := .seq Xn38_20 Xn38_21
/- carried: [11, 30] -/
def Xn38_18 : C := loopL [2, 8, 9, 11, 28, 29, 30] Xn38_19
def Xn38_17 : C := .block 0 Xn38_18
def Xn38_15 : C := .seq Xn38_16 Xn38_17
def Xn38_52 : C := regL [6, 7] none [⟨some 67, .mv (.tmp 11), none⟩, ⟨some 6, .mv (.tmp 67), none⟩, ⟨some 7, .mv (.const (.int .i64 0)), none⟩]
def Xn38_51 : C := .seq Xn38_52 .ret
def Xn38_14 : C := seqL [11] Xn38_15 Xn38_51
def Xn38_12 : C := .seq Xn38_13 Xn38_14
def Xn38_4 : C := seqL [0, 2, 8, 9] Xn38_5 Xn38_12
def Xn38_2 : C := .seq Xn38_3 Xn38_4
def Xn38_0 : C := .seq Xn38_1 Xn38_2
theorem Xt38 : Text Try.prog 38 Xn38_0 68 3 [.t 6, .t 7] := ⟨⟨Try.f38, [4], Try.func38, by kernel_rfl, by kernel_rfl, by kernel_rfl, by kernel_rfl⟩⟩
/- carried: [8, 9] -/
/- carried: [5] -/
/- carried: [3] -/
/- carried: [12, 69] -/
/- carried: [17] -/
/- carried: [13, 14] -/
/- carried: [10] -/
/- carried: [5] -/
end Go.Proofs.Ytfkjdjlcaojedaa

/- Print of my own generator (wip/sy/gen2.lean). -/
namespace Go.Proofs.Ytfkjdjlcaojedaa
open Go Sy
set_option maxRecDepth 100000
/- carried: [6] -/
/- carried: [4, 5] -/
def Xn52_1 : C := regL [0] none [⟨some 2, .mv (.const (.bool false)), none⟩]
def Xn52_3 : C := regL [2] none [⟨some 3, .mv (.tmp 0), none⟩, ⟨some 4, .call 53 [.tmp 3, .const (.int .i64 (-16777216)), .const (.int .i64 16777216)], none⟩, ⟨some 2, .mv (.tmp 4), none⟩]
def Xn52_2 : C := .seq Xn52_3 .ret
def Xn52_0 : C := .seq Xn52_1 Xn52_2
theorem Xt52 : Text Try.prog 52 Xn52_0 5 1 [.t 2] := ⟨⟨Try.f52, [], Try.func52, by kernel_rfl, by kernel_rfl, by kernel_rfl, by kernel_rfl⟩⟩
def Xn53_1 : C := regL [0, 1, 2] none [⟨some 6, .mv (.const (.bool false)), none⟩]
def Xn53_3 : C := regL [6] none [⟨some 7, .mv (.tmp 0), none⟩, ⟨some 8, .mv (.tmp 1), none⟩, ⟨some 9, .bin 2 .geq (.tmp 7) (.tmp 8), none⟩, ⟨some 10, .mv (.tmp 9), none⟩, ⟨some 11, .mv (.tmp 0), some (10, true)⟩, ⟨some 12, .mv (.tmp 2), some (10, true)⟩, ⟨some 13, .bin 2 .leq (.tmp 11) (.tmp 12), some (10, true)⟩, ⟨some 14, .pick 10 (.tmp 13) (.const (.bool false)), none⟩, ⟨some 6, .mv (.tmp 14), none⟩]
def Xn53_2 : C := .seq Xn53_3 .ret
def Xn53_0 : C := .seq Xn53_1 Xn53_2
theorem Xt53 : Text Try.prog 53 Xn53_0 15 3 [.t 6] := ⟨⟨Try.f53, [], Try.func53, by kernel_rfl, by kernel_rfl, by kernel_rfl, by kernel_rfl⟩⟩
def Xn54_1 : C := regL [0] none [⟨some 2, .mv (.const (.bool false)), none⟩]
def Xn54_3 : C := regL [2] none [⟨some 3, .mv (.tmp 0), none⟩, ⟨some 4, .call 53 [.tmp 3, .const (.int .i64 1), .const (.int .i64 16777216)], none⟩, ⟨some 2, .mv (.tmp 4), none⟩]
def Xn54_2 : C := .seq Xn54_3 .ret
def Xn54_0 : C := .seq Xn54_1 Xn54_2
theorem Xt54 : Text Try.prog 54 Xn54_0 5 1 [.t 2] := ⟨⟨Try.f54, [], Try.func54, by kernel_rfl, by kernel_rfl, by kernel_rfl, by kernel_rfl⟩⟩
def Xn55_1 : C := regL [1] none [⟨some 1, .box true 89 (.tmp 0), none⟩, ⟨some 2, .mv (.const (.int .i64 0)), none⟩]
def Xn55_3 : C := regL [2] none [⟨some 3, .fa 0 (.tmp 1), none⟩, ⟨some 4, .ld 2 1 false (.tmp 3), none⟩, ⟨some 5, .un .neg (.tmp 4), none⟩, ⟨some 6, .fa 1 (.tmp 1), none⟩, ⟨some 7, .ld 2 1 false (.tmp 6), none⟩, ⟨some 8, .fa 2 (.tmp 1), none⟩, ⟨some 9, .ld 2 1 false (.tmp 8), none⟩, ⟨some 10, .bld (.agg #[.int .i64 0, .int .i64 0, .int .i64 0]) [(0, 1, .tmp 5), (1, 1, .tmp 7), (2, 1, .tmp 9)], none⟩, ⟨some 11, .call 94 [.tmp 10], none⟩, ⟨some 12, .un .neg (.tmp 11), none⟩, ⟨some 2, .mv (.tmp 12), none⟩]
def Xn55_2 : C := .seq Xn55_3 .ret
def Xn55_0 : C := .seq Xn55_1 Xn55_2
theorem Xt55 : Text Try.prog 55 Xn55_0 13 1 [.t 2] := ⟨⟨Try.f55, [1], Try.func55, by kernel_rfl, by kernel_rfl, by kernel_rfl, by kernel_rfl⟩⟩
def Xn56_1 : C := regL [0] none [⟨some 2, .mv (.const (.pointer none)), none⟩, ⟨some 3, .mv (.const (.int .i64 0)), none⟩]
def Xn56_4 : C := regL [0, 17] none [⟨some 10, .mv (.tmp 0), none⟩, ⟨some 11, .len (.tmp 10), none⟩, ⟨some 12, .bin 3 .lss (.tmp 11) (.const (.int .i64 3)), none⟩, ⟨some 13, .mv (.tmp 12), none⟩, ⟨some 14, .mv (.tmp 0), some (13, false)⟩, ⟨some 15, .len (.tmp 14), some (13, false)⟩, ⟨some 16, .bin 3 .gtr (.tmp 15) (.const (.int .i64 48)), some (13, false)⟩, ⟨some 17, .pick 13 (.const (.bool true)) (.tmp 16), none⟩]
def Xn56_7 : C := regL [2, 3] none [⟨some 2, .mv (.const (.pointer none)), none⟩, ⟨some 3, .mv (.const (.int .i64 6)), none⟩]
def Xn56_6 : C := .seq Xn56_7 .ret
def Xn56_5 : C := .cond (.tmp 17) Xn56_6 .skip
def Xn56_3 : C := .seq Xn56_4 Xn56_5
def Xn56_11 : C := regL [0, 4] none [⟨some 18, .mv (.tmp 0), none⟩, ⟨some 19, .bld (.agg #[.slice none 0 0, .int .i64 0, .int .i64 0, .int .i64 0, .int .i64 0, .int .i64 0, .int .i64 0, .int .i64 0, .int .i64 0, .int .i64 0, .int .i64 0]) [(0, 1, .tmp 18)], none⟩, ⟨some 20, .box false 96 (.tmp 19), none⟩, ⟨some 4, .mv (.tmp 20), none⟩]
def Xn56_14 : C := regL [4, 21, 22, 23] none [⟨some 21, .mv (.tmp 0), none⟩, ⟨some 22, .len (.tmp 21), none⟩, ⟨some 23, .mv (.const (.int .i64 0)), none⟩]
def Xn56_18 : C := regL [4, 21, 22, 23, 24] none [⟨some 24, .bin 3 .lss (.tmp 23) (.tmp 22), none⟩]
def Xn56_20 : C := .cond (.tmp 24) .skip (.exit 0)
def Xn56_26 : C := regL [4, 6, 21, 22, 23] none [⟨some 25, .ia 6 (.tmp 21) (.tmp 23), none⟩, ⟨some 26, .ld 62 6 true (.tmp 25), none⟩, ⟨some 6, .alc 62 (.agg #[.int .i64 0, .int .i64 0, .int .i64 0, .int .i64 0, .int .i64 0, .int .i64 0]), none⟩, ⟨none, .st 62 6 (.tmp 6) (.tmp 26), none⟩]
def Xn56_28 : C := regL [4, 6, 7, 21, 22, 23] none [⟨some 27, .fa 0 (.tmp 6), none⟩, ⟨some 28, .ld 2 1 false (.tmp 27), none⟩, ⟨some 29, .call 53 [.tmp 28, .const (.int .i64 (-131072)), .const (.int .i64 131072)], none⟩, ⟨some 30, .mv (.tmp 29), none⟩, ⟨some 31, .fa 1 (.tmp 6), some (30, true)⟩, ⟨some 32, .ld 2 1 false (.tmp 31), some (30, true)⟩, ⟨some 33, .call 53 [.tmp 32, .const (.int .i64 (-131072)), .const (.int .i64 131072)], some (30, true)⟩, ⟨some 34, .pick 30 (.tmp 33) (.const (.bool false)), none⟩, ⟨some 35, .mv (.tmp 34), none⟩, ⟨some 36, .fa 2 (.tmp 6), some (35, true)⟩, ⟨some 37, .ld 3 1 false (.tmp 36), some (35, true)⟩, ⟨some 38, .bin 3 .geq (.tmp 37) (.const (.int .i64 0)), some (35, true)⟩, ⟨some 39, .pick 35 (.tmp 38) (.const (.bool false)), none⟩, ⟨some 40, .mv (.tmp 39), none⟩, ⟨some 41, .fa 2 (.tmp 6), some (40, true)⟩, ⟨some 42, .ld 3 1 false (.tmp 41), some (40, true)⟩, ⟨some 43, .bin 3 .leq (.tmp 42) (.const (.int .i64 2)), some (40, true)⟩, ⟨some 44, .pick 40 (.tmp 43) (.const (.bool false)), none⟩, ⟨some 7, .mv (.tmp 44), none⟩]
def Xn56_31 : C := regL [4, 6, 21, 22, 23, 69] none [⟨some 45, .mv (.tmp 7), none⟩, ⟨some 46, .un .not (.tmp 45), none⟩, ⟨some 47, .mv (.tmp 46), none⟩, ⟨some 48, .fa 3 (.tmp 6), some (47, false)⟩, ⟨some 49, .ld 2 1 false (.tmp 48), some (47, false)⟩, ⟨some 50, .call 53 [.tmp 49, .const (.int .i64 1), .const (.int .i64 1048576)], some (47, false)⟩, ⟨some 51, .un .not (.tmp 50), some (47, false)⟩, ⟨some 52, .pick 47 (.const (.bool true)) (.tmp 51), none⟩, ⟨some 53, .mv (.tmp 52), none⟩, ⟨some 54, .fa 4 (.tmp 6), some (53, false)⟩, ⟨some 55, .ld 2 1 false (.tmp 54), some (53, false)⟩, ⟨some 56, .bin 2 .lss (.tmp 55) (.const (.int .i64 0)), some (53, false)⟩, ⟨some 57, .pick 53 (.const (.bool true)) (.tmp 56), none⟩, ⟨some 58, .mv (.tmp 57), none⟩, ⟨some 59, .fa 4 (.tmp 6), some (58, false)⟩, ⟨some 60, .ld 2 1 false (.tmp 59), some (58, false)⟩, ⟨some 61, .fa 5 (.tmp 6), some (58, false)⟩, ⟨some 62, .ld 2 1 false (.tmp 61), some (58, false)⟩, ⟨some 63, .bin 2 .gtr (.tmp 60) (.tmp 62), some (58, false)⟩, ⟨some 64, .pick 58 (.const (.bool true)) (.tmp 63), none⟩, ⟨some 65, .mv (.tmp 64), none⟩, ⟨some 66, .fa 5 (.tmp 6), some (65, false)⟩, ⟨some 67, .ld 2 1 false (.tmp 66), some (65, false)⟩, ⟨some 68, .bin 2 .gtr (.tmp 67) (.const (.int .i64 4096)), some (65, false)⟩, ⟨some 69, .pick 65 (.const (.bool true)) (.tmp 68), none⟩]
def Xn56_34 : C := regL [2, 3] none [⟨some 2, .mv (.const (.pointer none)), none⟩, ⟨some 3, .mv (.const (.int .i64 2)), none⟩]
def Xn56_33 : C := .seq Xn56_34 .ret
def Xn56_32 : C := .cond (.tmp 69) Xn56_33 .skip
def Xn56_30 : C := .seq Xn56_31 Xn56_32
def Xn56_38 : C := regL [4, 6, 21, 22, 23, 74, 75] none [⟨some 70, .fa 0 (.tmp 6), none⟩, ⟨some 71, .ld 2 1 false (.tmp 70), none⟩, ⟨some 72, .fa 1 (.tmp 6), none⟩, ⟨some 73, .ld 2 1 false (.tmp 72), none⟩, ⟨some 74, .bld (.agg #[.int .i64 0, .int .i64 0, .int .i64 0]) [(0, 1, .const (.int .i64 1)), (1, 1, .tmp 71), (2, 1, .tmp 73)], none⟩, ⟨some 75, .mv (.const (.int .i64 0)), none⟩]
def Xn56_42 : C := regL [4, 6, 21, 22, 23, 74, 75, 76] none [⟨some 76, .bin 3 .lss (.tmp 75) (.const (.int .i64 3)), none⟩]
def Xn56_44 : C := .cond (.tmp 76) .skip (.exit 2)
def Xn56_50 : C := regL [4, 6, 8, 9, 21, 22, 23, 74, 75] none [⟨some 77, .mv (.tmp 75), none⟩, ⟨some 78, .idx 3 1 false (.tmp 74) (.tmp 75), none⟩, ⟨some 8, .mv (.tmp 77), none⟩, ⟨some 9, .mv (.tmp 78), none⟩]
def Xn56_51 : C := regL [4, 6, 21, 22, 23, 74, 75] (some [0, 0, 2, 0, 1, 17, 55, 127, 255, 0, 1023, 1, 2049, 6151, 16383, 32767]) [⟨some 79, .mv (.tmp 4), none⟩, ⟨some 80, .fa 2 (.tmp 6), none⟩, ⟨some 81, .ld 3 1 false (.tmp 80), none⟩, ⟨some 82, .mv (.tmp 8), none⟩, ⟨some 83, .nilc (.tmp 79), none⟩, ⟨some 84, .fa 1 (.tmp 83), none⟩, ⟨some 85, .iaa 3 3 (.tmp 84) (.tmp 81), none⟩, ⟨some 86, .iaa 3 1 (.tmp 85) (.tmp 82), none⟩, ⟨some 87, .ld 2 1 false (.tmp 86), none⟩, ⟨some 88, .mv (.tmp 9), none⟩, ⟨some 89, .bin 2 .add (.tmp 87) (.tmp 88), none⟩, ⟨some 90, .nilc (.tmp 79), none⟩, ⟨some 91, .fa 1 (.tmp 90), none⟩, ⟨some 92, .iaa 3 3 (.tmp 91) (.tmp 81), none⟩, ⟨some 93, .iaa 3 1 (.tmp 92) (.tmp 82), none⟩, ⟨none, .st 2 1 (.tmp 93) (.tmp 89), none⟩]
def Xn56_49 : C := .seq Xn56_50 Xn56_51
def Xn56_48 : C := .block 3 Xn56_49
def Xn56_52 : C := regL [4, 6, 21, 22, 23, 74, 75] none [⟨some 94, .bin 3 .add (.tmp 75) (.const (.int .i64 1)), none⟩, ⟨some 75, .mv (.tmp 94), none⟩]
def Xn56_47 : C := seqL [4, 6, 21, 22, 23, 74, 75] Xn56_48 Xn56_52
def Xn56_43 : C := seqL [4, 6, 21, 22, 23, 74, 75] Xn56_44 Xn56_47
def Xn56_41 : C := .seq Xn56_42 Xn56_43
/- carried: [75] -/
def Xn56_40 : C := loopL [4, 6, 21, 22, 23, 74, 75] Xn56_41
def Xn56_39 : C := .block 2 Xn56_40
def Xn56_37 : C := .seq Xn56_38 Xn56_39
def Xn56_29 : C := seqL [4, 6, 21, 22, 23] Xn56_30 Xn56_37
def Xn56_27 : C := .seq Xn56_28 Xn56_29
def Xn56_25 : C := .seq Xn56_26 Xn56_27
def Xn56_24 : C := .block 1 Xn56_25
def Xn56_53 : C := regL [4, 21, 22, 23] none [⟨some 95, .bin 3 .add (.tmp 23) (.const (.int .i64 1)), none⟩, ⟨some 23, .mv (.tmp 95), none⟩]
def Xn56_23 : C := seqL [4, 21, 22, 23] Xn56_24 Xn56_53
def Xn56_19 : C := seqL [4, 21, 22, 23] Xn56_20 Xn56_23
def Xn56_17 : C := .seq Xn56_18 Xn56_19
/- carried: [23] -/
def Xn56_16 : C := loopL [4, 21, 22, 23] Xn56_17
def Xn56_15 : C := .block 0 Xn56_16
def Xn56_13 : C := .seq Xn56_14 Xn56_15
def Xn56_56 : C := regL [4] none [⟨some 96, .mv (.tmp 4), none⟩, ⟨some 97, .mv (.tmp 4), none⟩, ⟨some 98, .nilc (.tmp 97), none⟩, ⟨some 99, .fa 1 (.tmp 98), none⟩, ⟨some 100, .ld 94 9 true (.tmp 99), none⟩, ⟨some 101, .call 95 [.tmp 100], none⟩, ⟨some 102, .nilc (.tmp 96), none⟩, ⟨some 103, .fa 10 (.tmp 102), none⟩, ⟨none, .st 2 1 (.tmp 103) (.tmp 101), none⟩]
def Xn56_58 : C := regL [4, 108] none [⟨some 104, .mv (.tmp 4), none⟩, ⟨some 105, .nilc (.tmp 104), none⟩, ⟨some 106, .fa 10 (.tmp 105), none⟩, ⟨some 107, .ld 2 1 false (.tmp 106), none⟩, ⟨some 108, .bin 2 .eql (.tmp 107) (.const (.int .i64 0)), none⟩]
def Xn56_61 : C := regL [2, 3] none [⟨some 2, .mv (.const (.pointer none)), none⟩, ⟨some 3, .mv (.const (.int .i64 9)), none⟩]
def Xn56_60 : C := .seq Xn56_61 .ret
def Xn56_59 : C := .cond (.tmp 108) Xn56_60 .skip
def Xn56_57 : C := .seq Xn56_58 Xn56_59
def Xn56_55 : C := .seq Xn56_56 Xn56_57
def Xn56_65 : C := regL [2, 3] none [⟨some 109, .mv (.tmp 4), none⟩, ⟨some 2, .mv (.tmp 109), none⟩, ⟨some 3, .mv (.const (.int .i64 0)), none⟩]
def Xn56_64 : C := .seq Xn56_65 .ret
def Xn56_54 : C := seqL [4] Xn56_55 Xn56_64
def Xn56_12 : C := seqL [4] Xn56_13 Xn56_54
def Xn56_10 : C := .seq Xn56_11 Xn56_12
def Xn56_2 : C := seqL [0] Xn56_3 Xn56_10
def Xn56_0 : C := .seq Xn56_1 Xn56_2
theorem Xt56 : Text Try.prog 56 Xn56_0 110 1 [.t 2, .t 3] := ⟨⟨Try.f56, [], Try.func56, by kernel_rfl, by kernel_rfl, by kernel_rfl, by kernel_rfl⟩⟩
def Xn57_1 : C := regL [1] none [⟨some 1, .box true 29 (.tmp 0), none⟩, ⟨some 2, .mv (.const (.bool false)), none⟩]
def Xn57_3 : C := regL [2] none [⟨some 3, .fa 0 (.tmp 1), none⟩, ⟨some 4, .ld 2 1 false (.tmp 3), none⟩, ⟨some 5, .call 53 [.tmp 4, .const (.int .i64 (-262144)), .const (.int .i64 262144)], none⟩, ⟨some 6, .mv (.tmp 5), none⟩, ⟨some 7, .fa 1 (.tmp 1), some (6, true)⟩, ⟨some 8, .ld 2 1 false (.tmp 7), some (6, true)⟩, ⟨some 9, .call 53 [.tmp 8, .const (.int .i64 (-262144)), .const (.int .i64 262144)], some (6, true)⟩, ⟨some 10, .pick 6 (.tmp 9) (.const (.bool false)), none⟩, ⟨some 2, .mv (.tmp 10), none⟩]
def Xn57_2 : C := .seq Xn57_3 .ret
def Xn57_0 : C := .seq Xn57_1 Xn57_2
theorem Xt57 : Text Try.prog 57 Xn57_0 11 1 [.t 2] := ⟨⟨Try.f57, [1], Try.func57, by kernel_rfl, by kernel_rfl, by kernel_rfl, by kernel_rfl⟩⟩
def Xn58_1 : C := regL [0, 3] none [⟨some 3, .box true 29 (.tmp 1), none⟩, ⟨some 4, .mv (.const (.int .i64 0)), none⟩]
def Xn58_3 : C := regL [5] none [⟨some 8, .mv (.tmp 0), none⟩, ⟨some 9, .ld 29 2 true (.tmp 3), none⟩, ⟨some 10, .call 60 [.tmp 8, .tmp 9], none⟩, ⟨some 7, .mv (.tmp 10), none⟩, ⟨some 11, .ext 0 (.tmp 7), none⟩, ⟨some 12, .ext 1 (.tmp 7), none⟩, ⟨some 5, .alc 30 (.agg #[.int .i64 0, .int .i64 0, .int .i64 0]), none⟩, ⟨none, .st 30 3 (.tmp 5) (.tmp 11), none⟩, ⟨some 6, .mv (.tmp 12), none⟩]
def Xn58_5 : C := regL [4] none [⟨some 13, .sla 30 3 1 (.tmp 5), none⟩, ⟨some 14, .call 96 [.tmp 13, .func 97], none⟩, ⟨some 4, .mv (.tmp 14), none⟩]
def Xn58_4 : C := .seq Xn58_5 .ret
def Xn58_2 : C := .seq Xn58_3 Xn58_4
def Xn58_0 : C := .seq Xn58_1 Xn58_2
theorem Xt58 : Text Try.prog 58 Xn58_0 15 2 [.t 4] := ⟨⟨Try.f58, [3], Try.func58, by kernel_rfl, by kernel_rfl, by kernel_rfl, by kernel_rfl⟩⟩
def Xn59_1 : C := regL [0, 1, 5, 6] none [⟨some 5, .box true 29 (.tmp 2), none⟩, ⟨some 6, .alc 30 (.agg #[.int .i64 0, .int .i64 0, .int .i64 0]), none⟩, ⟨some 7, .mv (.const (.int .i64 0)), none⟩]
def Xn59_4 : C := regL [0, 1, 5, 6, 21] none [⟨some 14, .mv (.tmp 1), none⟩, ⟨some 15, .call 54 [.tmp 14], none⟩, ⟨some 16, .un .not (.tmp 15), none⟩, ⟨some 17, .mv (.tmp 16), none⟩, ⟨some 18, .ld 29 2 true (.tmp 5), some (17, false)⟩, ⟨some 19, .call 57 [.tmp 18], some (17, false)⟩, ⟨some 20, .un .not (.tmp 19), some (17, false)⟩, ⟨some 21, .pick 17 (.const (.bool true)) (.tmp 20), none⟩]
def Xn59_7 : C := regL [6, 7] none [⟨some 22, .ld 30 3 true (.tmp 6), none⟩, ⟨none, .st 30 3 (.tmp 6) (.tmp 22), none⟩, ⟨some 7, .mv (.const (.int .i64 3)), none⟩]
def Xn59_6 : C := .seq Xn59_7 .ret
def Xn59_5 : C := .cond (.tmp 21) Xn59_6 .skip
def Xn59_3 : C := .seq Xn59_4 Xn59_5
def Xn59_12 : C := regL [0, 1, 5, 6, 26] none [⟨some 23, .mv (.tmp 0), none⟩, ⟨some 24, .ld 29 2 true (.tmp 5), none⟩, ⟨some 25, .call 58 [.tmp 23, .tmp 24], none⟩, ⟨some 26, .bin 3 .geq (.tmp 25) (.const (.int .i64 0)), none⟩]
def Xn59_15 : C := regL [6, 7] none [⟨some 27, .ld 30 3 true (.tmp 6), none⟩, ⟨none, .st 30 3 (.tmp 6) (.tmp 27), none⟩, ⟨some 7, .mv (.const (.int .i64 19)), none⟩]
def Xn59_14 : C := .seq Xn59_15 .ret
def Xn59_13 : C := .cond (.tmp 26) Xn59_14 .skip
def Xn59_11 : C := .seq Xn59_12 Xn59_13
def Xn59_19 : C := regL [0, 1, 6, 8, 9] none [⟨some 29, .mv (.tmp 0), none⟩, ⟨some 30, .ld 29 2 true (.tmp 5), none⟩, ⟨some 31, .call 60 [.tmp 29, .tmp 30], none⟩, ⟨some 28, .mv (.tmp 31), none⟩, ⟨some 32, .ext 0 (.tmp 28), none⟩, ⟨some 33, .ext 1 (.tmp 28), none⟩, ⟨some 8, .alc 30 (.agg #[.int .i64 0, .int .i64 0, .int .i64 0]), none⟩, ⟨none, .st 30 3 (.tmp 8) (.tmp 32), none⟩, ⟨some 9, .mv (.tmp 33), none⟩]
def Xn59_22 : C := regL [0, 1, 6, 8, 9, 34] none [⟨some 34, .mv (.const (.int .i64 0)), none⟩]
def Xn59_26 : C := regL [0, 1, 6, 8, 9, 34, 35] none [⟨some 35, .bin 3 .lss (.tmp 34) (.const (.int .i64 3)), none⟩]
def Xn59_28 : C := .cond (.tmp 35) .skip (.exit 0)
def Xn59_34 : C := regL [0, 1, 6, 8, 9, 10, 34] none [⟨some 36, .mv (.tmp 34), none⟩, ⟨some 10, .mv (.tmp 36), none⟩]
def Xn59_36 : C := regL [0, 1, 6, 8, 9, 10, 11, 34] none [⟨some 37, .mv (.tmp 1), none⟩, ⟨some 38, .mv (.tmp 10), none⟩, ⟨some 39, .iaa 3 1 (.tmp 8) (.tmp 38), none⟩, ⟨some 40, .ld 2 1 false (.tmp 39), none⟩, ⟨some 41, .mv (.tmp 9), none⟩, ⟨some 42, .bld (.agg #[.int .i64 0, .int .i64 0, .int .i64 0]) [(0, 1, .tmp 37), (1, 1, .tmp 40), (2, 1, .tmp 41)], none⟩, ⟨some 43, .mkf 55 [.tmp 42] [], none⟩, ⟨some 11, .mv (.tmp 43), none⟩]
def Xn59_37 : C := regL [0, 1, 6, 8, 9, 34] none [⟨some 44, .mv (.tmp 10), none⟩, ⟨some 45, .mv (.tmp 11), none⟩, ⟨some 46, .callv (.tmp 45) [], none⟩, ⟨some 47, .iaa 3 1 (.tmp 6) (.tmp 44), none⟩, ⟨none, .st 2 1 (.tmp 47) (.tmp 46), none⟩]
def Xn59_35 : C := .seq Xn59_36 Xn59_37
def Xn59_33 : C := .seq Xn59_34 Xn59_35
def Xn59_32 : C := .block 1 Xn59_33
def Xn59_38 : C := regL [0, 1, 6, 8, 9, 34] none [⟨some 48, .bin 3 .add (.tmp 34) (.const (.int .i64 1)), none⟩, ⟨some 34, .mv (.tmp 48), none⟩]
def Xn59_31 : C := seqL [0, 1, 6, 8, 9, 34] Xn59_32 Xn59_38
def Xn59_27 : C := seqL [0, 1, 6, 8, 9, 34] Xn59_28 Xn59_31
def Xn59_25 : C := .seq Xn59_26 Xn59_27
/- carried: [34] -/
def Xn59_24 : C := loopL [0, 1, 6, 8, 9, 34] Xn59_25
def Xn59_23 : C := .block 0 Xn59_24
def Xn59_21 : C := .seq Xn59_22 Xn59_23
def Xn59_41 : C := regL [6, 52, 53, 54] none [⟨some 49, .mv (.tmp 0), none⟩, ⟨some 50, .nilc (.tmp 49), none⟩, ⟨some 51, .fa 0 (.tmp 50), none⟩, ⟨some 52, .ld 27 1 false (.tmp 51), none⟩, ⟨some 53, .len (.tmp 52), none⟩, ⟨some 54, .mv (.const (.int .i64 0)), none⟩]
def Xn59_45 : C := regL [6, 52, 53, 54, 55] none [⟨some 55, .bin 3 .lss (.tmp 54) (.tmp 53), none⟩]
def Xn59_47 : C := .cond (.tmp 55) .skip (.exit 2)
def Xn59_53 : C := regL [6, 13, 52, 53, 54] none [⟨some 56, .ia 6 (.tmp 52) (.tmp 54), none⟩, ⟨some 57, .ld 62 6 true (.tmp 56), none⟩, ⟨some 13, .alc 62 (.agg #[.int .i64 0, .int .i64 0, .int .i64 0, .int .i64 0, .int .i64 0, .int .i64 0]), none⟩, ⟨none, .st 62 6 (.tmp 13) (.tmp 57), none⟩]
def Xn59_55 : C := regL [6, 52, 53, 54, 64] (some [0, 1, 3, 7, 0, 16, 63]) [⟨some 58, .fa 2 (.tmp 13), none⟩, ⟨some 59, .ld 3 1 false (.tmp 58), none⟩, ⟨some 60, .iaa 3 1 (.tmp 6) (.tmp 59), none⟩, ⟨some 61, .ld 2 1 false (.tmp 60), none⟩, ⟨some 62, .fa 3 (.tmp 13), none⟩, ⟨some 63, .ld 2 1 false (.tmp 62), none⟩, ⟨some 64, .bin 2 .gtr (.tmp 61) (.tmp 63), none⟩]
def Xn59_58 : C := regL [6, 7] none [⟨some 65, .bld (.agg #[.int .i64 0, .int .i64 0, .int .i64 0]) [], none⟩, ⟨none, .st 30 3 (.tmp 6) (.tmp 65), none⟩, ⟨some 7, .mv (.const (.int .i64 14)), none⟩]
def Xn59_57 : C := .seq Xn59_58 .ret
def Xn59_56 : C := .cond (.tmp 64) Xn59_57 .skip
def Xn59_54 : C := .seq Xn59_55 Xn59_56
def Xn59_52 : C := .seq Xn59_53 Xn59_54
def Xn59_51 : C := .block 3 Xn59_52
def Xn59_61 : C := regL [6, 52, 53, 54] none [⟨some 66, .bin 3 .add (.tmp 54) (.const (.int .i64 1)), none⟩, ⟨some 54, .mv (.tmp 66), none⟩]
def Xn59_50 : C := seqL [6, 52, 53, 54] Xn59_51 Xn59_61
def Xn59_46 : C := seqL [6, 52, 53, 54] Xn59_47 Xn59_50
def Xn59_44 : C := .seq Xn59_45 Xn59_46
/- carried: [54] -/
def Xn59_43 : C := loopL [6, 52, 53, 54] Xn59_44
def Xn59_42 : C := .block 2 Xn59_43
def Xn59_40 : C := .seq Xn59_41 Xn59_42
def Xn59_63 : C := regL [6, 7] none [⟨some 67, .ld 30 3 true (.tmp 6), none⟩, ⟨none, .st 30 3 (.tmp 6) (.tmp 67), none⟩, ⟨some 7, .mv (.const (.int .i64 0)), none⟩]
def Xn59_62 : C := .seq Xn59_63 .ret
def Xn59_39 : C := seqL [6] Xn59_40 Xn59_62
def Xn59_20 : C := seqL [0, 6] Xn59_21 Xn59_39
def Xn59_18 : C := .seq Xn59_19 Xn59_20
def Xn59_10 : C := seqL [0, 1, 5, 6] Xn59_11 Xn59_18
def Xn59_2 : C := seqL [0, 1, 5, 6] Xn59_3 Xn59_10
def Xn59_0 : C := .seq Xn59_1 Xn59_2
theorem Xt59 : Text Try.prog 59 Xn59_0 68 3 [.c 6 3 true, .t 7] := ⟨⟨Try.f59, [5], Try.func59, by kernel_rfl, by kernel_rfl, by kernel_rfl, by kernel_rfl⟩⟩
def Xn60_1 : C := regL [0, 3, 4] none [⟨some 3, .box true 29 (.tmp 1), none⟩, ⟨some 4, .alc 30 (.agg #[.int .i64 0, .int .i64 0, .int .i64 0]), none⟩, ⟨some 5, .mv (.const (.int .i64 0)), none⟩]
def Xn60_3 : C := regL [0, 3, 4, 6] none [⟨some 6, .mv (.const (.int .i64 1)), none⟩]
def Xn60_6 : C := regL [0, 3, 4, 6, 13] none [⟨some 9, .mv (.tmp 0), none⟩, ⟨some 10, .nilc (.tmp 9), none⟩, ⟨some 11, .fa 10 (.tmp 10), none⟩, ⟨some 12, .ld 2 1 false (.tmp 11), none⟩, ⟨some 13, .bin 2 .lss (.tmp 12) (.const (.int .i64 0)), none⟩]
def Xn60_8 : C := regL [0, 3, 4, 6] none [⟨some 6, .mv (.const (.int .i64 (-1))), none⟩]
def Xn60_7 : C := .cond (.tmp 13) Xn60_8 .skip
def Xn60_5 : C := .seq Xn60_6 Xn60_7
def Xn60_12 : C := regL [0, 3, 4, 6, 14] none [⟨some 14, .mv (.const (.int .i64 0)), none⟩]
def Xn60_16 : C := regL [0, 3, 4, 6, 14, 15] none [⟨some 15, .bin 3 .lss (.tmp 14) (.const (.int .i64 3)), none⟩]
def Xn60_18 : C := .cond (.tmp 15) .skip (.exit 0)
def Xn60_24 : C := regL [0, 3, 4, 6, 7, 14] none [⟨some 16, .mv (.tmp 14), none⟩, ⟨some 7, .mv (.tmp 16), none⟩]
def Xn60_26 : C := regL [0, 3, 4, 6, 7, 8, 14] none [⟨some 17, .mv (.tmp 0), none⟩, ⟨some 18, .nilc (.tmp 17), none⟩, ⟨some 19, .fa 1 (.tmp 18), none⟩, ⟨some 20, .ld 94 9 true (.tmp 19), none⟩, ⟨some 8, .alc 94 (.agg #[.int .i64 0, .int .i64 0, .int .i64 0, .int .i64 0, .int .i64 0, .int .i64 0, .int .i64 0, .int .i64 0, .int .i64 0]), none⟩, ⟨none, .st 94 9 (.tmp 8) (.tmp 20), none⟩]
def Xn60_28 : C := regL [0, 3, 4, 6, 7, 8, 14] none [⟨some 21, .mv (.tmp 7), none⟩, ⟨some 22, .fa 0 (.tmp 3), none⟩, ⟨some 23, .ld 2 1 false (.tmp 22), none⟩, ⟨some 24, .fa 1 (.tmp 3), none⟩, ⟨some 25, .ld 2 1 false (.tmp 24), none⟩, ⟨some 26, .bld (.agg #[.int .i64 0, .int .i64 0, .int .i64 0]) [(0, 1, .const (.int .i64 1)), (1, 1, .tmp 23), (2, 1, .tmp 25)], none⟩, ⟨some 27, .iaa 3 3 (.tmp 8) (.tmp 21), none⟩, ⟨none, .st 30 3 (.tmp 27) (.tmp 26), none⟩]
def Xn60_29 : C := regL [0, 3, 4, 6, 14] none [⟨some 28, .mv (.tmp 7), none⟩, ⟨some 29, .mv (.tmp 6), none⟩, ⟨some 30, .ld 94 9 true (.tmp 8), none⟩, ⟨some 31, .call 95 [.tmp 30], none⟩, ⟨some 32, .bin 2 .mul (.tmp 29) (.tmp 31), none⟩, ⟨some 33, .iaa 3 1 (.tmp 4) (.tmp 28), none⟩, ⟨none, .st 2 1 (.tmp 33) (.tmp 32), none⟩]
def Xn60_27 : C := .seq Xn60_28 Xn60_29
def Xn60_25 : C := .seq Xn60_26 Xn60_27
def Xn60_23 : C := .seq Xn60_24 Xn60_25
def Xn60_22 : C := .block 1 Xn60_23
def Xn60_30 : C := regL [0, 3, 4, 6, 14] none [⟨some 34, .bin 3 .add (.tmp 14) (.const (.int .i64 1)), none⟩, ⟨some 14, .mv (.tmp 34), none⟩]
def Xn60_21 : C := seqL [0, 3, 4, 6, 14] Xn60_22 Xn60_30
def Xn60_17 : C := seqL [0, 3, 4, 6, 14] Xn60_18 Xn60_21
def Xn60_15 : C := .seq Xn60_16 Xn60_17
/- carried: [14] -/
def Xn60_14 : C := loopL [0, 3, 4, 6, 14] Xn60_15
def Xn60_13 : C := .block 0 Xn60_14
def Xn60_11 : C := .seq Xn60_12 Xn60_13
def Xn60_32 : C := regL [4, 5] (some [0, 0, 0, 4, 12, 28, 62, 1, 255]) [⟨some 35, .ld 30 3 true (.tmp 4), none⟩, ⟨some 36, .mv (.tmp 6), none⟩, ⟨some 37, .mv (.tmp 0), none⟩, ⟨some 38, .nilc (.tmp 37), none⟩, ⟨some 39, .fa 10 (.tmp 38), none⟩, ⟨some 40, .ld 2 1 false (.tmp 39), none⟩, ⟨some 41, .bin 2 .mul (.tmp 36) (.tmp 40), none⟩, ⟨none, .st 30 3 (.tmp 4) (.tmp 35), none⟩, ⟨some 5, .mv (.tmp 41), none⟩]
def Xn60_31 : C := .seq Xn60_32 .ret
def Xn60_10 : C := seqL [0, 4, 6] Xn60_11 Xn60_31
def Xn60_4 : C := seqL [0, 3, 4, 6] Xn60_5 Xn60_10
def Xn60_2 : C := .seq Xn60_3 Xn60_4
def Xn60_0 : C := .seq Xn60_1 Xn60_2
theorem Xt60 : Text Try.prog 60 Xn60_0 42 2 [.c 4 3 true, .t 5] := ⟨⟨Try.f60, [3], Try.func60, by kernel_rfl, by kernel_rfl, by kernel_rfl, by kernel_rfl⟩⟩
/- carried: [4] -/
/- carried: [9] -/
/- carried: [9] -/
/- carried: [7] -/
/- carried: [3] -/
def Xn76_1 : C := regL [0, 2, 4, 7] none [⟨some 4, .box false 30 (.tmp 1), none⟩, ⟨some 6, .mv (.const (.pointer none)), none⟩, ⟨some 7, .alc 30 (.agg #[.int .i64 0, .int .i64 0, .int .i64 0]), none⟩, ⟨some 8, .mv (.const (.int .i64 0)), none⟩]
def Xn76_3 : C := regL [0, 2, 4, 7, 9, 10] none [⟨some 18, .mv (.tmp 0), none⟩, ⟨some 19, .call 56 [.tmp 18], none⟩, ⟨some 17, .mv (.tmp 19), none⟩, ⟨some 20, .ext 0 (.tmp 17), none⟩, ⟨some 21, .ext 1 (.tmp 17), none⟩, ⟨some 9, .mv (.tmp 20), none⟩, ⟨some 10, .mv (.tmp 21), none⟩]
def Xn76_6 : C := regL [0, 2, 4, 7, 9, 10, 23] none [⟨some 22, .mv (.tmp 10), none⟩, ⟨some 23, .bin 22 .neq (.tmp 22) (.const (.int .i64 0)), none⟩]
def Xn76_9 : C := regL [6, 7, 8] (some [0, 0, 0, 5, 15]) [⟨some 24, .ld 30 3 true (.tmp 4), none⟩, ⟨some 25, .mv (.tmp 10), none⟩, ⟨some 6, .mv (.const (.pointer none)), none⟩, ⟨none, .st 30 3 (.tmp 7) (.tmp 24), none⟩, ⟨some 8, .mv (.tmp 25), none⟩]
def Xn76_8 : C := .seq Xn76_9 .ret
def Xn76_7 : C := .cond (.tmp 23) Xn76_8 .skip
def Xn76_5 : C := .seq Xn76_6 Xn76_7
def Xn76_14 : C := regL [0, 2, 4, 7, 9, 30] none [⟨some 26, .mv (.tmp 2), none⟩, ⟨some 27, .len (.tmp 26), none⟩, ⟨some 28, .mv (.tmp 0), none⟩, ⟨some 29, .len (.tmp 28), none⟩, ⟨some 30, .bin 3 .neq (.tmp 27) (.tmp 29), none⟩]
def Xn76_17 : C := regL [6, 7, 8] (some [0, 0, 3, 7]) [⟨some 31, .ld 30 3 true (.tmp 4), none⟩, ⟨some 6, .mv (.const (.pointer none)), none⟩, ⟨none, .st 30 3 (.tmp 7) (.tmp 31), none⟩, ⟨some 8, .mv (.const (.int .i64 17)), none⟩]
def Xn76_16 : C := .seq Xn76_17 .ret
def Xn76_15 : C := .cond (.tmp 30) Xn76_16 .skip
def Xn76_13 : C := .seq Xn76_14 Xn76_15
def Xn76_22 : C := regL [0, 2, 4, 7, 9, 32, 33, 34] none [⟨some 32, .mv (.tmp 2), none⟩, ⟨some 33, .len (.tmp 32), none⟩, ⟨some 34, .mv (.const (.int .i64 0)), none⟩]
def Xn76_26 : C := regL [0, 2, 4, 7, 9, 32, 33, 34, 35] none [⟨some 35, .bin 3 .lss (.tmp 34) (.tmp 33), none⟩]
def Xn76_28 : C := .cond (.tmp 35) .skip (.exit 0)
def Xn76_34 : C := regL [0, 2, 4, 7, 9, 12, 32, 33, 34] none [⟨some 36, .ia 1 (.tmp 32) (.tmp 34), none⟩, ⟨some 37, .ld 2 1 false (.tmp 36), none⟩, ⟨some 12, .mv (.tmp 37), none⟩]
def Xn76_36 : C := regL [0, 2, 4, 7, 9, 32, 33, 34, 40] none [⟨some 38, .mv (.tmp 12), none⟩, ⟨some 39, .call 53 [.tmp 38, .const (.int .i64 (-16384)), .const (.int .i64 16384)], none⟩, ⟨some 40, .un .not (.tmp 39), none⟩]
def Xn76_39 : C := regL [6, 7, 8] (some [0, 0, 3, 7]) [⟨some 41, .ld 30 3 true (.tmp 4), none⟩, ⟨some 6, .mv (.const (.pointer none)), none⟩, ⟨none, .st 30 3 (.tmp 7) (.tmp 41), none⟩, ⟨some 8, .mv (.const (.int .i64 3)), none⟩]
def Xn76_38 : C := .seq Xn76_39 .ret
def Xn76_37 : C := .cond (.tmp 40) Xn76_38 .skip
def Xn76_35 : C := .seq Xn76_36 Xn76_37
def Xn76_33 : C := .seq Xn76_34 Xn76_35
def Xn76_32 : C := .block 1 Xn76_33
def Xn76_42 : C := regL [0, 2, 4, 7, 9, 32, 33, 34] none [⟨some 42, .bin 3 .add (.tmp 34) (.const (.int .i64 1)), none⟩, ⟨some 34, .mv (.tmp 42), none⟩]
def Xn76_31 : C := seqL [0, 2, 4, 7, 9, 32, 33, 34] Xn76_32 Xn76_42
def Xn76_27 : C := seqL [0, 2, 4, 7, 9, 32, 33, 34] Xn76_28 Xn76_31
def Xn76_25 : C := .seq Xn76_26 Xn76_27
/- carried: [34] -/
def Xn76_24 : C := loopL [0, 2, 4, 7, 9, 32, 33, 34] Xn76_25
def Xn76_23 : C := .block 0 Xn76_24
def Xn76_21 : C := .seq Xn76_22 Xn76_23
def Xn76_45 : C := regL [0, 2, 4, 7, 9, 43, 44] none [⟨some 43, .ld 30 3 true (.tmp 4), none⟩, ⟨some 44, .mv (.const (.int .i64 0)), none⟩]
def Xn76_49 : C := regL [0, 2, 4, 7, 9, 43, 44, 45] none [⟨some 45, .bin 3 .lss (.tmp 44) (.const (.int .i64 3)), none⟩]
def Xn76_51 : C := .cond (.tmp 45) .skip (.exit 2)
def Xn76_57 : C := regL [0, 2, 4, 7, 9, 14, 43, 44] none [⟨some 46, .idx 3 1 false (.tmp 43) (.tmp 44), none⟩, ⟨some 14, .mv (.tmp 46), none⟩]
def Xn76_59 : C := regL [0, 2, 4, 7, 9, 43, 44, 49] none [⟨some 47, .mv (.tmp 14), none⟩, ⟨some 48, .call 53 [.tmp 47, .const (.int .i64 0), .const (.int .i64 196608)], none⟩, ⟨some 49, .un .not (.tmp 48), none⟩]
def Xn76_62 : C := regL [6, 7, 8] (some [0, 0, 3, 7]) [⟨some 50, .ld 30 3 true (.tmp 4), none⟩, ⟨some 6, .mv (.const (.pointer none)), none⟩, ⟨none, .st 30 3 (.tmp 7) (.tmp 50), none⟩, ⟨some 8, .mv (.const (.int .i64 3)), none⟩]
def Xn76_61 : C := .seq Xn76_62 .ret
def Xn76_60 : C := .cond (.tmp 49) Xn76_61 .skip
def Xn76_58 : C := .seq Xn76_59 Xn76_60
def Xn76_56 : C := .seq Xn76_57 Xn76_58
def Xn76_55 : C := .block 3 Xn76_56
def Xn76_65 : C := regL [0, 2, 4, 7, 9, 43, 44] none [⟨some 51, .bin 3 .add (.tmp 44) (.const (.int .i64 1)), none⟩, ⟨some 44, .mv (.tmp 51), none⟩]
def Xn76_54 : C := seqL [0, 2, 4, 7, 9, 43, 44] Xn76_55 Xn76_65
def Xn76_50 : C := seqL [0, 2, 4, 7, 9, 43, 44] Xn76_51 Xn76_54
def Xn76_48 : C := .seq Xn76_49 Xn76_50
/- carried: [44] -/
def Xn76_47 : C := loopL [0, 2, 4, 7, 9, 43, 44] Xn76_48
def Xn76_46 : C := .block 2 Xn76_47
def Xn76_44 : C := .seq Xn76_45 Xn76_46
def Xn76_68 : C := regL [2, 4, 7, 9, 52, 53, 54] none [⟨some 52, .mv (.tmp 0), none⟩, ⟨some 53, .len (.tmp 52), none⟩, ⟨some 54, .mv (.const (.int .i64 0)), none⟩]
def Xn76_72 : C := regL [2, 4, 7, 9, 52, 53, 54, 55] none [⟨some 55, .bin 3 .lss (.tmp 54) (.tmp 53), none⟩]
def Xn76_74 : C := .cond (.tmp 55) .skip (.exit 4)
def Xn76_80 : C := regL [2, 4, 7, 9, 15, 16, 52, 53, 54] none [⟨some 56, .mv (.tmp 54), none⟩, ⟨some 57, .ia 6 (.tmp 52) (.tmp 54), none⟩, ⟨some 58, .ld 62 6 true (.tmp 57), none⟩, ⟨some 16, .alc 62 (.agg #[.int .i64 0, .int .i64 0, .int .i64 0, .int .i64 0, .int .i64 0, .int .i64 0]), none⟩, ⟨some 15, .mv (.tmp 56), none⟩, ⟨none, .st 62 6 (.tmp 16) (.tmp 58), none⟩]
def Xn76_81 : C := regL [2, 4, 7, 9, 52, 53, 54] (some [0, 1, 3, 7, 0, 0, 48, 112, 255, 511, 1023]) [⟨some 59, .fa 2 (.tmp 16), none⟩, ⟨some 60, .ld 3 1 false (.tmp 59), none⟩, ⟨some 61, .iaa 3 1 (.tmp 4) (.tmp 60), none⟩, ⟨some 62, .ld 2 1 false (.tmp 61), none⟩, ⟨some 63, .mv (.tmp 2), none⟩, ⟨some 64, .mv (.tmp 15), none⟩, ⟨some 65, .ia 1 (.tmp 63) (.tmp 64), none⟩, ⟨some 66, .ld 2 1 false (.tmp 65), none⟩, ⟨some 67, .bin 2 .add (.tmp 62) (.tmp 66), none⟩, ⟨some 68, .iaa 3 1 (.tmp 4) (.tmp 60), none⟩, ⟨none, .st 2 1 (.tmp 68) (.tmp 67), none⟩]
def Xn76_79 : C := .seq Xn76_80 Xn76_81
def Xn76_78 : C := .block 5 Xn76_79
def Xn76_82 : C := regL [2, 4, 7, 9, 52, 53, 54] none [⟨some 69, .bin 3 .add (.tmp 54) (.const (.int .i64 1)), none⟩, ⟨some 54, .mv (.tmp 69), none⟩]
def Xn76_77 : C := seqL [2, 4, 7, 9, 52, 53, 54] Xn76_78 Xn76_82
def Xn76_73 : C := seqL [2, 4, 7, 9, 52, 53, 54] Xn76_74 Xn76_77
def Xn76_71 : C := .seq Xn76_72 Xn76_73
/- carried: [54] -/
def Xn76_70 : C := loopL [2, 4, 7, 9, 52, 53, 54] Xn76_71
def Xn76_69 : C := .block 4 Xn76_70
def Xn76_67 : C := .seq Xn76_68 Xn76_69
def Xn76_84 : C := regL [6, 7, 8] (some [0, 0, 1, 7, 15]) [⟨some 70, .mv (.tmp 9), none⟩, ⟨some 71, .ld 30 3 true (.tmp 4), none⟩, ⟨some 6, .mv (.tmp 70), none⟩, ⟨none, .st 30 3 (.tmp 7) (.tmp 71), none⟩, ⟨some 8, .mv (.const (.int .i64 0)), none⟩]
def Xn76_83 : C := .seq Xn76_84 .ret
def Xn76_66 : C := seqL [4, 7, 9] Xn76_67 Xn76_83
def Xn76_43 : C := seqL [0, 2, 4, 7, 9] Xn76_44 Xn76_66
def Xn76_20 : C := seqL [0, 2, 4, 7, 9] Xn76_21 Xn76_43
def Xn76_12 : C := seqL [0, 2, 4, 7, 9] Xn76_13 Xn76_20
def Xn76_4 : C := seqL [0, 2, 4, 7, 9] Xn76_5 Xn76_12
def Xn76_2 : C := .seq Xn76_3 Xn76_4
def Xn76_0 : C := .seq Xn76_1 Xn76_2
theorem Xt76 : Text Try.prog 76 Xn76_0 72 3 [.t 6, .c 7 3 true, .t 8] := ⟨⟨Try.f76, [], Try.func76, by kernel_rfl, by kernel_rfl, by kernel_rfl, by kernel_rfl⟩⟩
def Xn77_1 : C := regL [0, 4, 5, 6] none [⟨some 4, .box true 30 (.tmp 1), none⟩, ⟨some 5, .box true 29 (.tmp 2), none⟩, ⟨some 6, .mv (.const (.int .i64 0)), none⟩, ⟨some 7, .mv (.const (.int .i64 0)), none⟩]
def Xn77_3 : C := regL [4, 6, 8, 9] none [⟨some 13, .mv (.tmp 0), none⟩, ⟨some 14, .ld 29 2 true (.tmp 5), none⟩, ⟨some 15, .call 60 [.tmp 13, .tmp 14], none⟩, ⟨some 12, .mv (.tmp 15), none⟩, ⟨some 16, .ext 0 (.tmp 12), none⟩, ⟨some 17, .ext 1 (.tmp 12), none⟩, ⟨some 8, .alc 30 (.agg #[.int .i64 0, .int .i64 0, .int .i64 0]), none⟩, ⟨none, .st 30 3 (.tmp 8) (.tmp 16), none⟩, ⟨some 9, .mv (.tmp 17), none⟩]
def Xn77_6 : C := regL [6, 8, 9, 18, 19] none [⟨some 18, .ld 30 3 true (.tmp 4), none⟩, ⟨some 19, .mv (.const (.int .i64 0)), none⟩]
def Xn77_10 : C := regL [6, 8, 9, 18, 19, 20] none [⟨some 20, .bin 3 .lss (.tmp 19) (.const (.int .i64 3)), none⟩]
def Xn77_12 : C := .cond (.tmp 20) .skip (.exit 0)
def Xn77_18 : C := regL [6, 8, 9, 10, 11, 18, 19] none [⟨some 21, .mv (.tmp 19), none⟩, ⟨some 22, .idx 3 1 false (.tmp 18) (.tmp 19), none⟩, ⟨some 10, .mv (.tmp 21), none⟩, ⟨some 11, .mv (.tmp 22), none⟩]
def Xn77_21 : C := regL [6, 8, 9, 10, 11, 18, 19, 34] (some [0, 1, 3, 0, 8, 24, 56, 127, 255, 511, 0, 2047]) [⟨some 23, .mv (.tmp 10), none⟩, ⟨some 24, .iaa 3 1 (.tmp 8) (.tmp 23), none⟩, ⟨some 25, .ld 2 1 false (.tmp 24), none⟩, ⟨some 26, .mv (.tmp 10), none⟩, ⟨some 27, .iaa 3 1 (.tmp 8) (.tmp 26), none⟩, ⟨some 28, .ld 2 1 false (.tmp 27), none⟩, ⟨some 29, .un .neg (.tmp 28), none⟩, ⟨some 30, .mx [.tmp 25, .tmp 29], none⟩, ⟨some 31, .bin 2 .add (.tmp 30) (.const (.int .i64 1023)), none⟩, ⟨some 32, .bin 2 .quo (.tmp 31) (.const (.int .i64 1024)), none⟩, ⟨some 33, .mv (.tmp 9), none⟩, ⟨some 34, .bin 2 .gtr (.tmp 32) (.tmp 33), none⟩]
def Xn77_24 : C := regL [6, 7] none [⟨some 6, .mv (.const (.int .i64 0)), none⟩, ⟨some 7, .mv (.const (.int .i64 4)), none⟩]
def Xn77_23 : C := .seq Xn77_24 .ret
def Xn77_22 : C := .cond (.tmp 34) Xn77_23 .skip
def Xn77_20 : C := .seq Xn77_21 Xn77_22
def Xn77_27 : C := regL [6, 8, 9, 18, 19] none [⟨some 35, .mv (.tmp 6), none⟩, ⟨some 36, .mv (.tmp 11), none⟩, ⟨some 37, .mv (.tmp 10), none⟩, ⟨some 38, .iaa 3 1 (.tmp 8) (.tmp 37), none⟩, ⟨some 39, .ld 2 1 false (.tmp 38), none⟩, ⟨some 40, .mv (.tmp 9), none⟩, ⟨some 41, .bld (.agg #[.int .i64 0, .int .i64 0, .int .i64 0]) [(0, 1, .tmp 36), (1, 1, .tmp 39), (2, 1, .tmp 40)], none⟩, ⟨some 42, .call 94 [.tmp 41], none⟩, ⟨some 43, .bin 2 .add (.tmp 35) (.tmp 42), none⟩, ⟨some 6, .mv (.tmp 43), none⟩]
def Xn77_19 : C := seqL [6, 8, 9, 10, 11, 18, 19] Xn77_20 Xn77_27
def Xn77_17 : C := .seq Xn77_18 Xn77_19
def Xn77_16 : C := .block 1 Xn77_17
def Xn77_28 : C := regL [6, 8, 9, 18, 19] none [⟨some 44, .bin 3 .add (.tmp 19) (.const (.int .i64 1)), none⟩, ⟨some 19, .mv (.tmp 44), none⟩]
def Xn77_15 : C := seqL [6, 8, 9, 18, 19] Xn77_16 Xn77_28
def Xn77_11 : C := seqL [6, 8, 9, 18, 19] Xn77_12 Xn77_15
def Xn77_9 : C := .seq Xn77_10 Xn77_11
/- carried: [6, 19] -/
def Xn77_8 : C := loopL [6, 8, 9, 18, 19] Xn77_9
def Xn77_7 : C := .block 0 Xn77_8
def Xn77_5 : C := .seq Xn77_6 Xn77_7
def Xn77_30 : C := regL [6, 7] none [⟨some 45, .mv (.tmp 6), none⟩, ⟨some 6, .mv (.tmp 45), none⟩, ⟨some 7, .mv (.const (.int .i64 0)), none⟩]
def Xn77_29 : C := .seq Xn77_30 .ret
def Xn77_4 : C := seqL [6] Xn77_5 Xn77_29
def Xn77_2 : C := .seq Xn77_3 Xn77_4
def Xn77_0 : C := .seq Xn77_1 Xn77_2
theorem Xt77 : Text Try.prog 77 Xn77_0 46 3 [.t 6, .t 7] := ⟨⟨Try.f77, [4, 5], Try.func77, by kernel_rfl, by kernel_rfl, by kernel_rfl, by kernel_rfl⟩⟩
/- carried: [7] -/
/- carried: [8] -/
/- carried: [7] -/
/- carried: [13, 14] -/
/- carried: [11, 12] -/
/- carried: [3] -/
/- carried: [4] -/
/- carried: [19] -/
/- carried: [7] -/
/- carried: [5] -/
/- carried: [3, 4] -/
/- carried: [6, 8] -/
/- carried: [6, 9] -/
/- carried: [10] -/
def Xn94_1 : C := regL [1] none [⟨some 1, .box true 89 (.tmp 0), none⟩, ⟨some 2, .mv (.const (.int .i64 0)), none⟩]
def Xn94_3 : C := regL [3, 4, 5] none [⟨some 7, .ld 89 3 true (.tmp 1), none⟩, ⟨some 8, .call 123 [.tmp 7], none⟩, ⟨some 6, .mv (.tmp 8), none⟩, ⟨some 9, .ext 0 (.tmp 6), none⟩, ⟨some 10, .ext 1 (.tmp 6), none⟩, ⟨some 11, .ext 2 (.tmp 6), none⟩, ⟨some 3, .mv (.tmp 9), none⟩, ⟨some 4, .mv (.tmp 10), none⟩, ⟨some 5, .mv (.tmp 11), none⟩]
def Xn94_6 : C := regL [3, 4, 13] none [⟨some 12, .mv (.tmp 5), none⟩, ⟨some 13, .un .not (.tmp 12), none⟩]
def Xn94_9 : C := regL [2] none [⟨some 14, .mv (.tmp 3), none⟩, ⟨some 2, .mv (.tmp 14), none⟩]
def Xn94_8 : C := .seq Xn94_9 .ret
def Xn94_7 : C := .cond (.tmp 13) Xn94_8 .skip
def Xn94_5 : C := .seq Xn94_6 Xn94_7
def Xn94_14 : C := regL [3, 15] none [⟨some 15, .mv (.tmp 4), none⟩]
def Xn94_16 : C := regL [3] none [⟨some 16, .mv (.tmp 3), none⟩, ⟨some 17, .bin 2 .add (.tmp 16) (.const (.int .i64 1)), none⟩, ⟨some 3, .mv (.tmp 17), none⟩]
def Xn94_15 : C := .cond (.tmp 15) Xn94_16 .skip
def Xn94_13 : C := .seq Xn94_14 Xn94_15
def Xn94_19 : C := regL [2] none [⟨some 18, .mv (.tmp 3), none⟩, ⟨some 19, .un .neg (.tmp 18), none⟩, ⟨some 2, .mv (.tmp 19), none⟩]
def Xn94_18 : C := .seq Xn94_19 .ret
def Xn94_12 : C := seqL [3] Xn94_13 Xn94_18
def Xn94_4 : C := seqL [3, 4] Xn94_5 Xn94_12
def Xn94_2 : C := .seq Xn94_3 Xn94_4
def Xn94_0 : C := .seq Xn94_1 Xn94_2
theorem Xt94 : Text Try.prog 94 Xn94_0 20 1 [.t 2] := ⟨⟨Try.f94, [1], Try.func94, by kernel_rfl, by kernel_rfl, by kernel_rfl, by kernel_rfl⟩⟩
def Xn95_1 : C := regL [1] none [⟨some 1, .box true 94 (.tmp 0), none⟩, ⟨some 2, .mv (.const (.int .i64 0)), none⟩]
def Xn95_3 : C := regL [1, 3] none [⟨some 4, .mkf 124 [] [.tmp 1], none⟩, ⟨some 3, .mv (.tmp 4), none⟩]
def Xn95_5 : C := regL [2] (some [0, 1, 3, 0, 8, 31, 0, 64, 192, 0, 536, 2008, 4095, 0, 8192, 24576, 0, 67096, 255512, 524287, 1048575]) [⟨some 5, .iaa 3 3 (.tmp 1) (.const (.int .i64 0)), none⟩, ⟨some 6, .iaa 3 1 (.tmp 5) (.const (.int .i64 0)), none⟩, ⟨some 7, .ld 2 1 false (.tmp 6), none⟩, ⟨some 8, .mv (.tmp 3), none⟩, ⟨some 9, .callv (.tmp 8) [.const (.int .i64 1), .const (.int .i64 2)], none⟩, ⟨some 10, .bin 2 .mul (.tmp 7) (.tmp 9), none⟩, ⟨some 11, .iaa 3 3 (.tmp 1) (.const (.int .i64 0)), none⟩, ⟨some 12, .iaa 3 1 (.tmp 11) (.const (.int .i64 1)), none⟩, ⟨some 13, .ld 2 1 false (.tmp 12), none⟩, ⟨some 14, .mv (.tmp 3), none⟩, ⟨some 15, .callv (.tmp 14) [.const (.int .i64 0), .const (.int .i64 2)], none⟩, ⟨some 16, .bin 2 .mul (.tmp 13) (.tmp 15), none⟩, ⟨some 17, .bin 2 .sub (.tmp 10) (.tmp 16), none⟩, ⟨some 18, .iaa 3 3 (.tmp 1) (.const (.int .i64 0)), none⟩, ⟨some 19, .iaa 3 1 (.tmp 18) (.const (.int .i64 2)), none⟩, ⟨some 20, .ld 2 1 false (.tmp 19), none⟩, ⟨some 21, .mv (.tmp 3), none⟩, ⟨some 22, .callv (.tmp 21) [.const (.int .i64 0), .const (.int .i64 1)], none⟩, ⟨some 23, .bin 2 .mul (.tmp 20) (.tmp 22), none⟩, ⟨some 24, .bin 2 .add (.tmp 17) (.tmp 23), none⟩, ⟨some 2, .mv (.tmp 24), none⟩]
def Xn95_4 : C := .seq Xn95_5 .ret
def Xn95_2 : C := .seq Xn95_3 Xn95_4
def Xn95_0 : C := .seq Xn95_1 Xn95_2
theorem Xt95 : Text Try.prog 95 Xn95_0 25 1 [.t 2] := ⟨⟨Try.f95, [1], Try.func95, by kernel_rfl, by kernel_rfl, by kernel_rfl, by kernel_rfl⟩⟩
def Xn96_1 : C := regL [0, 1] none [⟨some 4, .mv (.const (.int .i64 0)), none⟩]
def Xn96_4 : C := regL [0, 1, 7, 8] none [⟨some 6, .mv (.tmp 0), none⟩, ⟨some 7, .len (.tmp 6), none⟩, ⟨some 8, .mv (.const (.int .i64 0)), none⟩]
def Xn96_8 : C := regL [0, 1, 7, 8, 9] none [⟨some 9, .bin 3 .lss (.tmp 8) (.tmp 7), none⟩]
def Xn96_10 : C := .cond (.tmp 9) .skip (.exit 0)
def Xn96_16 : C := regL [0, 1, 5, 7, 8] none [⟨some 10, .mv (.tmp 8), none⟩, ⟨some 5, .mv (.tmp 10), none⟩]
def Xn96_18 : C := regL [0, 1, 5, 7, 8, 16] none [⟨some 11, .mv (.tmp 1), none⟩, ⟨some 12, .mv (.tmp 0), none⟩, ⟨some 13, .mv (.tmp 5), none⟩, ⟨some 14, .ia 1 (.tmp 12) (.tmp 13), none⟩, ⟨some 15, .ld 2 1 false (.tmp 14), none⟩, ⟨some 16, .callv (.tmp 11) [.tmp 15], none⟩]
def Xn96_21 : C := regL [4] none [⟨some 17, .mv (.tmp 5), none⟩, ⟨some 4, .mv (.tmp 17), none⟩]
def Xn96_20 : C := .seq Xn96_21 .ret
def Xn96_19 : C := .cond (.tmp 16) Xn96_20 .skip
def Xn96_17 : C := .seq Xn96_18 Xn96_19
def Xn96_15 : C := .seq Xn96_16 Xn96_17
def Xn96_14 : C := .block 1 Xn96_15
def Xn96_24 : C := regL [0, 1, 7, 8] none [⟨some 18, .bin 3 .add (.tmp 8) (.const (.int .i64 1)), none⟩, ⟨some 8, .mv (.tmp 18), none⟩]
def Xn96_13 : C := seqL [0, 1, 7, 8] Xn96_14 Xn96_24
def Xn96_9 : C := seqL [0, 1, 7, 8] Xn96_10 Xn96_13
def Xn96_7 : C := .seq Xn96_8 Xn96_9
/- carried: [8] -/
def Xn96_6 : C := loopL [0, 1, 7, 8] Xn96_7
def Xn96_5 : C := .block 0 Xn96_6
def Xn96_3 : C := .seq Xn96_4 Xn96_5
def Xn96_26 : C := regL [4] none [⟨some 4, .mv (.const (.int .i64 (-1))), none⟩]
def Xn96_25 : C := .seq Xn96_26 .ret
def Xn96_2 : C := seqL [] Xn96_3 Xn96_25
def Xn96_0 : C := .seq Xn96_1 Xn96_2
theorem Xt96 : Text Try.prog 96 Xn96_0 19 2 [.t 4] := ⟨⟨Try.f96, [], Try.func96, by kernel_rfl, by kernel_rfl, by kernel_rfl, by kernel_rfl⟩⟩
def Xn97_1 : C := regL [0] none [⟨some 2, .mv (.const (.bool false)), none⟩]
def Xn97_3 : C := regL [2] none [⟨some 3, .mv (.tmp 0), none⟩, ⟨some 4, .bin 2 .lss (.tmp 3) (.const (.int .i64 0)), none⟩, ⟨some 2, .mv (.tmp 4), none⟩]
def Xn97_2 : C := .seq Xn97_3 .ret
def Xn97_0 : C := .seq Xn97_1 Xn97_2
theorem Xt97 : Text Try.prog 97 Xn97_0 5 1 [.t 2] := ⟨⟨Try.f97, [], Try.func97, by kernel_rfl, by kernel_rfl, by kernel_rfl, by kernel_rfl⟩⟩
/- carried: [10] -/
/- carried: [9, 10] -/
/- carried: [9, 10, 11] -/
/- carried: [4, 74] -/
/- carried: [8] -/
/- carried: [3] -/
/- carried: [3, 4] -/
/- carried: [36] -/
/- carried: [47] -/
/- carried: [7] -/
/- carried: [3, 4] -/
/- carried: [5] -/
/- carried: [4] -/
/- carried: [3, 4] -/
/- carried: [11] -/
/- carried: [5] -/
/- carried: [8] -/
/- carried: [6, 7, 15] -/
/- carried: [37] -/
def Xn123_1 : C := regL [1] none [⟨some 1, .box true 89 (.tmp 0), none⟩, ⟨some 2, .mv (.const (.int .i64 0)), none⟩, ⟨some 3, .mv (.const (.bool false)), none⟩, ⟨some 4, .mv (.const (.bool false)), none⟩]
def Xn123_3 : C := regL [1, 4] none [⟨some 9, .fa 0 (.tmp 1), none⟩, ⟨some 10, .ld 2 1 false (.tmp 9), none⟩, ⟨some 11, .bin 2 .lss (.tmp 10) (.const (.int .i64 0)), none⟩, ⟨some 12, .fa 1 (.tmp 1), none⟩, ⟨some 13, .ld 2 1 false (.tmp 12), none⟩, ⟨some 14, .bin 2 .lss (.tmp 13) (.const (.int .i64 0)), none⟩, ⟨some 15, .eqb 4 true (.tmp 11) (.tmp 14), none⟩, ⟨some 4, .mv (.tmp 15), none⟩]
def Xn123_5 : C := regL [1, 4, 5, 6] none [⟨some 17, .fa 0 (.tmp 1), none⟩, ⟨some 18, .ld 2 1 false (.tmp 17), none⟩, ⟨some 19, .fa 0 (.tmp 1), none⟩, ⟨some 20, .ld 2 1 false (.tmp 19), none⟩, ⟨some 21, .un .neg (.tmp 20), none⟩, ⟨some 22, .mx [.tmp 18, .tmp 21], none⟩, ⟨some 23, .cvt .u64 (.tmp 22), none⟩, ⟨some 24, .fa 1 (.tmp 1), none⟩, ⟨some 25, .ld 2 1 false (.tmp 24), none⟩, ⟨some 26, .fa 1 (.tmp 1), none⟩, ⟨some 27, .ld 2 1 false (.tmp 26), none⟩, ⟨some 28, .un .neg (.tmp 27), none⟩, ⟨some 29, .mx [.tmp 25, .tmp 28], none⟩, ⟨some 30, .cvt .u64 (.tmp 29), none⟩, ⟨some 31, .call 143 [.tmp 23, .tmp 30], none⟩, ⟨some 16, .mv (.tmp 31), none⟩, ⟨some 32, .ext 0 (.tmp 16), none⟩, ⟨some 33, .ext 1 (.tmp 16), none⟩, ⟨some 5, .mv (.tmp 32), none⟩, ⟨some 6, .mv (.tmp 33), none⟩]
def Xn123_7 : C := regL [4, 7, 8] none [⟨some 35, .mv (.tmp 5), none⟩, ⟨some 36, .mv (.tmp 6), none⟩, ⟨some 37, .fa 2 (.tmp 1), none⟩, ⟨some 38, .ld 2 1 false (.tmp 37), none⟩, ⟨some 39, .cvt .u64 (.tmp 38), none⟩, ⟨some 40, .call 144 [.tmp 35, .tmp 36, .tmp 39], none⟩, ⟨some 34, .mv (.tmp 40), none⟩, ⟨some 41, .ext 0 (.tmp 34), none⟩, ⟨some 42, .ext 1 (.tmp 34), none⟩, ⟨some 7, .mv (.tmp 41), none⟩, ⟨some 8, .mv (.tmp 42), none⟩]
def Xn123_9 : C := regL [2, 3, 4] none [⟨some 43, .mv (.tmp 7), none⟩, ⟨some 44, .cvt .i64 (.tmp 43), none⟩, ⟨some 45, .mv (.tmp 8), none⟩, ⟨some 46, .bin 170 .gtr (.tmp 45) (.const (.int .u64 0)), none⟩, ⟨some 47, .mv (.tmp 4), none⟩, ⟨some 2, .mv (.tmp 44), none⟩, ⟨some 3, .mv (.tmp 46), none⟩, ⟨some 4, .mv (.tmp 47), none⟩]
def Xn123_8 : C := .seq Xn123_9 .ret
def Xn123_6 : C := .seq Xn123_7 Xn123_8
def Xn123_4 : C := .seq Xn123_5 Xn123_6
def Xn123_2 : C := .seq Xn123_3 Xn123_4
def Xn123_0 : C := .seq Xn123_1 Xn123_2
theorem Xt123 : Text Try.prog 123 Xn123_0 48 1 [.t 2, .t 3, .t 4] := ⟨⟨Try.f123, [1], Try.func123, by kernel_rfl, by kernel_rfl, by kernel_rfl, by kernel_rfl⟩⟩
def Xn124_1 : C := regL [0, 1, 2] none [⟨some 5, .mv (.const (.int .i64 0)), none⟩]
def Xn124_3 : C := regL [5] (some [0, 0, 3, 7, 0, 0, 48, 112, 255, 0, 0, 1536, 3584, 0, 0, 24576, 57344, 130560, 262143, 524287]) [⟨some 6, .mv (.tmp 0), none⟩, ⟨some 7, .iaa 3 3 (.tmp 2) (.const (.int .i64 1)), none⟩, ⟨some 8, .iaa 3 1 (.tmp 7) (.tmp 6), none⟩, ⟨some 9, .ld 2 1 false (.tmp 8), none⟩, ⟨some 10, .mv (.tmp 1), none⟩, ⟨some 11, .iaa 3 3 (.tmp 2) (.const (.int .i64 2)), none⟩, ⟨some 12, .iaa 3 1 (.tmp 11) (.tmp 10), none⟩, ⟨some 13, .ld 2 1 false (.tmp 12), none⟩, ⟨some 14, .bin 2 .mul (.tmp 9) (.tmp 13), none⟩, ⟨some 15, .mv (.tmp 0), none⟩, ⟨some 16, .iaa 3 3 (.tmp 2) (.const (.int .i64 2)), none⟩, ⟨some 17, .iaa 3 1 (.tmp 16) (.tmp 15), none⟩, ⟨some 18, .ld 2 1 false (.tmp 17), none⟩, ⟨some 19, .mv (.tmp 1), none⟩, ⟨some 20, .iaa 3 3 (.tmp 2) (.const (.int .i64 1)), none⟩, ⟨some 21, .iaa 3 1 (.tmp 20) (.tmp 19), none⟩, ⟨some 22, .ld 2 1 false (.tmp 21), none⟩, ⟨some 23, .bin 2 .mul (.tmp 18) (.tmp 22), none⟩, ⟨some 24, .bin 2 .sub (.tmp 14) (.tmp 23), none⟩, ⟨some 5, .mv (.tmp 24), none⟩]
def Xn124_2 : C := .seq Xn124_3 .ret
def Xn124_0 : C := .seq Xn124_1 Xn124_2
theorem Xt124 : Text Try.prog 124 Xn124_0 25 3 [.t 5] := ⟨⟨Try.f124, [], Try.func124, by kernel_rfl, by kernel_rfl, by kernel_rfl, by kernel_rfl⟩⟩
/- carried: [8] -/
/- carried: [] -/
/- carried: [22] -/
end Go.Proofs.Ytfkjdjlcaojedaa

/- Print of my own generator (wip/sy/gen2.lean). -/
namespace Go.Proofs.Ytfkjdjlcaojedaa
open Go Sy
set_option maxRecDepth 100000
/- carried: [17] -/
/- carried: [3] -/
/- carried: [7, 8] -/
/- carried: [7, 8] -/
/- carried: [6] -/
def Xn143_1 : C := regL [0, 1] none [⟨some 4, .mv (.const (.int .u64 0)), none⟩, ⟨some 5, .mv (.const (.int .u64 0)), none⟩]
def Xn143_3 : C := regL [0, 1, 6] none [⟨some 14, .mv (.tmp 0), none⟩, ⟨some 15, .bin 170 .and (.tmp 14) (.const (.int .u64 4294967295)), none⟩, ⟨some 6, .mv (.tmp 15), none⟩]
def Xn143_5 : C := regL [0, 1, 6, 7] none [⟨some 16, .mv (.tmp 0), none⟩, ⟨some 17, .bin 170 .shr (.tmp 16) (.const (.int .u64 32)), none⟩, ⟨some 7, .mv (.tmp 17), none⟩]
def Xn143_7 : C := regL [0, 1, 6, 7, 8] none [⟨some 18, .mv (.tmp 1), none⟩, ⟨some 19, .bin 170 .and (.tmp 18) (.const (.int .u64 4294967295)), none⟩, ⟨some 8, .mv (.tmp 19), none⟩]
def Xn143_9 : C := regL [0, 1, 6, 7, 8, 9] none [⟨some 20, .mv (.tmp 1), none⟩, ⟨some 21, .bin 170 .shr (.tmp 20) (.const (.int .u64 32)), none⟩, ⟨some 9, .mv (.tmp 21), none⟩]
def Xn143_11 : C := regL [0, 1, 6, 7, 8, 9, 10] none [⟨some 22, .mv (.tmp 6), none⟩, ⟨some 23, .mv (.tmp 8), none⟩, ⟨some 24, .bin 170 .mul (.tmp 22) (.tmp 23), none⟩, ⟨some 10, .mv (.tmp 24), none⟩]
def Xn143_13 : C := regL [0, 1, 6, 7, 9, 11] none [⟨some 25, .mv (.tmp 7), none⟩, ⟨some 26, .mv (.tmp 8), none⟩, ⟨some 27, .bin 170 .mul (.tmp 25) (.tmp 26), none⟩, ⟨some 28, .mv (.tmp 10), none⟩, ⟨some 29, .bin 170 .shr (.tmp 28) (.const (.int .u64 32)), none⟩, ⟨some 30, .bin 170 .add (.tmp 27) (.tmp 29), none⟩, ⟨some 11, .mv (.tmp 30), none⟩]
def Xn143_15 : C := regL [0, 1, 6, 7, 9, 11, 12] none [⟨some 31, .mv (.tmp 11), none⟩, ⟨some 32, .bin 170 .and (.tmp 31) (.const (.int .u64 4294967295)), none⟩, ⟨some 12, .mv (.tmp 32), none⟩]
def Xn143_17 : C := regL [0, 1, 6, 7, 9, 12, 13] none [⟨some 33, .mv (.tmp 11), none⟩, ⟨some 34, .bin 170 .shr (.tmp 33) (.const (.int .u64 32)), none⟩, ⟨some 13, .mv (.tmp 34), none⟩]
def Xn143_19 : C := regL [0, 1, 7, 9, 12, 13] none [⟨some 35, .mv (.tmp 12), none⟩, ⟨some 36, .mv (.tmp 6), none⟩, ⟨some 37, .mv (.tmp 9), none⟩, ⟨some 38, .bin 170 .mul (.tmp 36) (.tmp 37), none⟩, ⟨some 39, .bin 170 .add (.tmp 35) (.tmp 38), none⟩, ⟨some 12, .mv (.tmp 39), none⟩]
def Xn143_21 : C := regL [0, 1, 4] none [⟨some 40, .mv (.tmp 7), none⟩, ⟨some 41, .mv (.tmp 9), none⟩, ⟨some 42, .bin 170 .mul (.tmp 40) (.tmp 41), none⟩, ⟨some 43, .mv (.tmp 13), none⟩, ⟨some 44, .bin 170 .add (.tmp 42) (.tmp 43), none⟩, ⟨some 45, .mv (.tmp 12), none⟩, ⟨some 46, .bin 170 .shr (.tmp 45) (.const (.int .u64 32)), none⟩, ⟨some 47, .bin 170 .add (.tmp 44) (.tmp 46), none⟩, ⟨some 4, .mv (.tmp 47), none⟩]
def Xn143_23 : C := regL [4, 5] none [⟨some 48, .mv (.tmp 0), none⟩, ⟨some 49, .mv (.tmp 1), none⟩, ⟨some 50, .bin 170 .mul (.tmp 48) (.tmp 49), none⟩, ⟨some 5, .mv (.tmp 50), none⟩]
def Xn143_22 : C := .seq Xn143_23 .ret
def Xn143_20 : C := .seq Xn143_21 Xn143_22
def Xn143_18 : C := .seq Xn143_19 Xn143_20
def Xn143_16 : C := .seq Xn143_17 Xn143_18
def Xn143_14 : C := .seq Xn143_15 Xn143_16
def Xn143_12 : C := .seq Xn143_13 Xn143_14
def Xn143_10 : C := .seq Xn143_11 Xn143_12
def Xn143_8 : C := .seq Xn143_9 Xn143_10
def Xn143_6 : C := .seq Xn143_7 Xn143_8
def Xn143_4 : C := .seq Xn143_5 Xn143_6
def Xn143_2 : C := .seq Xn143_3 Xn143_4
def Xn143_0 : C := .seq Xn143_1 Xn143_2
theorem Xt143 : Text Try.prog 143 Xn143_0 51 2 [.t 4, .t 5] := ⟨⟨Try.f143, [], Try.func143, by kernel_rfl, by kernel_rfl, by kernel_rfl, by kernel_rfl⟩⟩
def Xn144_1 : C := regL [0, 1, 2] none [⟨some 6, .mv (.const (.int .u64 0)), none⟩, ⟨some 7, .mv (.const (.int .u64 0)), none⟩]
def Xn144_4 : C := regL [0, 1, 2, 20] none [⟨some 19, .mv (.tmp 2), none⟩, ⟨some 20, .bin 170 .eql (.tmp 19) (.const (.int .u64 0)), none⟩]
def Xn144_6 : C := regL [0, 1, 2] none [⟨some 21, .ld 183 1 false (.global 0), none⟩, ⟨none, .dead, none⟩]
def Xn144_5 : C := .cond (.tmp 20) Xn144_6 .skip
def Xn144_3 : C := .seq Xn144_4 Xn144_5
def Xn144_10 : C := regL [0, 1, 2, 24] none [⟨some 22, .mv (.tmp 2), none⟩, ⟨some 23, .mv (.tmp 0), none⟩, ⟨some 24, .bin 170 .leq (.tmp 22) (.tmp 23), none⟩]
def Xn144_12 : C := regL [0, 1, 2] none [⟨some 25, .ld 183 1 false (.global 1), none⟩, ⟨none, .dead, none⟩]
def Xn144_11 : C := .cond (.tmp 24) Xn144_12 .skip
def Xn144_9 : C := .seq Xn144_10 Xn144_11
def Xn144_16 : C := regL [0, 1, 2, 27] none [⟨some 26, .mv (.tmp 0), none⟩, ⟨some 27, .bin 170 .eql (.tmp 26) (.const (.int .u64 0)), none⟩]
def Xn144_19 : C := regL [6, 7] (some [0, 0, 3, 0, 0, 24, 7, 127]) [⟨some 28, .mv (.tmp 1), none⟩, ⟨some 29, .mv (.tmp 2), none⟩, ⟨some 30, .bin 170 .quo (.tmp 28) (.tmp 29), none⟩, ⟨some 31, .mv (.tmp 1), none⟩, ⟨some 32, .mv (.tmp 2), none⟩, ⟨some 33, .bin 170 .rem (.tmp 31) (.tmp 32), none⟩, ⟨some 6, .mv (.tmp 30), none⟩, ⟨some 7, .mv (.tmp 33), none⟩]
def Xn144_18 : C := .seq Xn144_19 .ret
def Xn144_17 : C := .cond (.tmp 27) Xn144_18 .skip
def Xn144_15 : C := .seq Xn144_16 Xn144_17
def Xn144_23 : C := regL [0, 1, 2, 8] none [⟨some 34, .mv (.tmp 2), none⟩, ⟨some 35, .call 150 [.tmp 34], none⟩, ⟨some 36, .cvt .u64 (.tmp 35), none⟩, ⟨some 8, .mv (.tmp 36), none⟩]
def Xn144_25 : C := regL [0, 1, 2, 8] none [⟨some 37, .mv (.tmp 2), none⟩, ⟨some 38, .mv (.tmp 8), none⟩, ⟨some 39, .bin 170 .shl (.tmp 37) (.tmp 38), none⟩, ⟨some 2, .mv (.tmp 39), none⟩]
def Xn144_27 : C := regL [0, 1, 2, 8, 9] none [⟨some 40, .mv (.tmp 2), none⟩, ⟨some 41, .bin 170 .shr (.tmp 40) (.const (.int .u64 32)), none⟩, ⟨some 9, .mv (.tmp 41), none⟩]
def Xn144_29 : C := regL [0, 1, 2, 8, 9, 10] none [⟨some 42, .mv (.tmp 2), none⟩, ⟨some 43, .bin 170 .and (.tmp 42) (.const (.int .u64 4294967295)), none⟩, ⟨some 10, .mv (.tmp 43), none⟩]
def Xn144_31 : C := regL [1, 2, 8, 9, 10, 11] none [⟨some 44, .mv (.tmp 0), none⟩, ⟨some 45, .mv (.tmp 8), none⟩, ⟨some 46, .bin 170 .shl (.tmp 44) (.tmp 45), none⟩, ⟨some 47, .mv (.tmp 1), none⟩, ⟨some 48, .mv (.tmp 8), none⟩, ⟨some 49, .bin 157 .sub (.const (.int .u64 64)) (.tmp 48), none⟩, ⟨some 50, .bin 170 .shr (.tmp 47) (.tmp 49), none⟩, ⟨some 51, .bin 170 .or (.tmp 46) (.tmp 50), none⟩, ⟨some 11, .mv (.tmp 51), none⟩]
def Xn144_33 : C := regL [2, 8, 9, 10, 11, 12] none [⟨some 52, .mv (.tmp 1), none⟩, ⟨some 53, .mv (.tmp 8), none⟩, ⟨some 54, .bin 170 .shl (.tmp 52) (.tmp 53), none⟩, ⟨some 12, .mv (.tmp 54), none⟩]
def Xn144_35 : C := regL [2, 8, 9, 10, 11, 12, 13] none [⟨some 55, .mv (.tmp 12), none⟩, ⟨some 56, .bin 170 .shr (.tmp 55) (.const (.int .u64 32)), none⟩, ⟨some 13, .mv (.tmp 56), none⟩]
def Xn144_37 : C := regL [2, 8, 9, 10, 11, 13, 14] none [⟨some 57, .mv (.tmp 12), none⟩, ⟨some 58, .bin 170 .and (.tmp 57) (.const (.int .u64 4294967295)), none⟩, ⟨some 14, .mv (.tmp 58), none⟩]
def Xn144_39 : C := regL [2, 8, 9, 10, 11, 13, 14, 15] none [⟨some 59, .mv (.tmp 11), none⟩, ⟨some 60, .mv (.tmp 9), none⟩, ⟨some 61, .bin 170 .quo (.tmp 59) (.tmp 60), none⟩, ⟨some 15, .mv (.tmp 61), none⟩]
def Xn144_41 : C := regL [2, 8, 9, 10, 11, 13, 14, 15, 16] none [⟨some 62, .mv (.tmp 11), none⟩, ⟨some 63, .mv (.tmp 15), none⟩, ⟨some 64, .mv (.tmp 9), none⟩, ⟨some 65, .bin 170 .mul (.tmp 63) (.tmp 64), none⟩, ⟨some 66, .bin 170 .sub (.tmp 62) (.tmp 65), none⟩, ⟨some 16, .mv (.tmp 66), none⟩]
def Xn144_47 : C := regL [2, 8, 9, 10, 11, 13, 14, 15, 16, 78] none [⟨some 67, .mv (.tmp 15), none⟩, ⟨some 68, .bin 170 .geq (.tmp 67) (.const (.int .u64 4294967296)), none⟩, ⟨some 69, .mv (.tmp 68), none⟩, ⟨some 70, .mv (.tmp 15), some (69, false)⟩, ⟨some 71, .mv (.tmp 10), some (69, false)⟩, ⟨some 72, .bin 170 .mul (.tmp 70) (.tmp 71), some (69, false)⟩, ⟨some 73, .mv (.tmp 16), some (69, false)⟩, ⟨some 74, .bin 170 .mul (.const (.int .u64 4294967296)) (.tmp 73), some (69, false)⟩, ⟨some 75, .mv (.tmp 13), some (69, false)⟩, ⟨some 76, .bin 170 .add (.tmp 74) (.tmp 75), some (69, false)⟩, ⟨some 77, .bin 170 .gtr (.tmp 72) (.tmp 76), some (69, false)⟩, ⟨some 78, .pick 69 (.const (.bool true)) (.tmp 77), none⟩]
def Xn144_48 : C := .cond (.tmp 78) .skip (.exit 0)
def Xn144_46 : C := .seq Xn144_47 Xn144_48
def Xn144_53 : C := regL [2, 8, 9, 10, 11, 13, 14, 15, 16] none [⟨some 79, .mv (.tmp 15), none⟩, ⟨some 80, .bin 170 .sub (.tmp 79) (.const (.int .u64 1)), none⟩, ⟨some 15, .mv (.tmp 80), none⟩]
def Xn144_55 : C := regL [2, 8, 9, 10, 11, 13, 14, 15, 16] none [⟨some 81, .mv (.tmp 16), none⟩, ⟨some 82, .mv (.tmp 9), none⟩, ⟨some 83, .bin 170 .add (.tmp 81) (.tmp 82), none⟩, ⟨some 16, .mv (.tmp 83), none⟩]
def Xn144_57 : C := regL [2, 8, 9, 10, 11, 13, 14, 15, 16, 85] none [⟨some 84, .mv (.tmp 16), none⟩, ⟨some 85, .bin 170 .geq (.tmp 84) (.const (.int .u64 4294967296)), none⟩]
def Xn144_58 : C := .cond (.tmp 85) (.exit 0) .skip
def Xn144_56 : C := .seq Xn144_57 Xn144_58
def Xn144_54 : C := .seq Xn144_55 Xn144_56
def Xn144_52 : C := .seq Xn144_53 Xn144_54
def Xn144_51 : C := .block 1 Xn144_52
def Xn144_45 : C := seqL [2, 8, 9, 10, 11, 13, 14, 15, 16] Xn144_46 Xn144_51
/- carried: [15, 16] -/
def Xn144_44 : C := loopL [2, 8, 9, 10, 11, 13, 14, 15, 16] Xn144_45
def Xn144_43 : C := .block 0 Xn144_44
def Xn144_62 : C := regL [2, 8, 9, 10, 14, 15, 17] none [⟨some 86, .mv (.tmp 11), none⟩, ⟨some 87, .bin 170 .mul (.tmp 86) (.const (.int .u64 4294967296)), none⟩, ⟨some 88, .mv (.tmp 13), none⟩, ⟨some 89, .bin 170 .add (.tmp 87) (.tmp 88), none⟩, ⟨some 90, .mv (.tmp 15), none⟩, ⟨some 91, .mv (.tmp 2), none⟩, ⟨some 92, .bin 170 .mul (.tmp 90) (.tmp 91), none⟩, ⟨some 93, .bin 170 .sub (.tmp 89) (.tmp 92), none⟩, ⟨some 17, .mv (.tmp 93), none⟩]
def Xn144_64 : C := regL [2, 8, 9, 10, 14, 15, 17, 18] none [⟨some 94, .mv (.tmp 17), none⟩, ⟨some 95, .mv (.tmp 9), none⟩, ⟨some 96, .bin 170 .quo (.tmp 94) (.tmp 95), none⟩, ⟨some 18, .mv (.tmp 96), none⟩]
def Xn144_66 : C := regL [2, 8, 9, 10, 14, 15, 16, 17, 18] none [⟨some 97, .mv (.tmp 17), none⟩, ⟨some 98, .mv (.tmp 18), none⟩, ⟨some 99, .mv (.tmp 9), none⟩, ⟨some 100, .bin 170 .mul (.tmp 98) (.tmp 99), none⟩, ⟨some 101, .bin 170 .sub (.tmp 97) (.tmp 100), none⟩, ⟨some 16, .mv (.tmp 101), none⟩]
def Xn144_72 : C := regL [2, 8, 9, 10, 14, 15, 16, 17, 18, 113] none [⟨some 102, .mv (.tmp 18), none⟩, ⟨some 103, .bin 170 .geq (.tmp 102) (.const (.int .u64 4294967296)), none⟩, ⟨some 104, .mv (.tmp 103), none⟩, ⟨some 105, .mv (.tmp 18), some (104, false)⟩, ⟨some 106, .mv (.tmp 10), some (104, false)⟩, ⟨some 107, .bin 170 .mul (.tmp 105) (.tmp 106), some (104, false)⟩, ⟨some 108, .mv (.tmp 16), some (104, false)⟩, ⟨some 109, .bin 170 .mul (.const (.int .u64 4294967296)) (.tmp 108), some (104, false)⟩, ⟨some 110, .mv (.tmp 14), some (104, false)⟩, ⟨some 111, .bin 170 .add (.tmp 109) (.tmp 110), some (104, false)⟩, ⟨some 112, .bin 170 .gtr (.tmp 107) (.tmp 111), some (104, false)⟩, ⟨some 113, .pick 104 (.const (.bool true)) (.tmp 112), none⟩]
def Xn144_73 : C := .cond (.tmp 113) .skip (.exit 2)
def Xn144_71 : C := .seq Xn144_72 Xn144_73
def Xn144_78 : C := regL [2, 8, 9, 10, 14, 15, 16, 17, 18] none [⟨some 114, .mv (.tmp 18), none⟩, ⟨some 115, .bin 170 .sub (.tmp 114) (.const (.int .u64 1)), none⟩, ⟨some 18, .mv (.tmp 115), none⟩]
def Xn144_80 : C := regL [2, 8, 9, 10, 14, 15, 16, 17, 18] none [⟨some 116, .mv (.tmp 16), none⟩, ⟨some 117, .mv (.tmp 9), none⟩, ⟨some 118, .bin 170 .add (.tmp 116) (.tmp 117), none⟩, ⟨some 16, .mv (.tmp 118), none⟩]
def Xn144_82 : C := regL [2, 8, 9, 10, 14, 15, 16, 17, 18, 120] none [⟨some 119, .mv (.tmp 16), none⟩, ⟨some 120, .bin 170 .geq (.tmp 119) (.const (.int .u64 4294967296)), none⟩]
def Xn144_83 : C := .cond (.tmp 120) (.exit 2) .skip
def Xn144_81 : C := .seq Xn144_82 Xn144_83
def Xn144_79 : C := .seq Xn144_80 Xn144_81
def Xn144_77 : C := .seq Xn144_78 Xn144_79
def Xn144_76 : C := .block 3 Xn144_77
def Xn144_70 : C := seqL [2, 8, 9, 10, 14, 15, 16, 17, 18] Xn144_71 Xn144_76
/- carried: [16, 18] -/
def Xn144_69 : C := loopL [2, 8, 9, 10, 14, 15, 16, 17, 18] Xn144_70
def Xn144_68 : C := .block 2 Xn144_69
def Xn144_87 : C := regL [6, 7] none [⟨some 121, .mv (.tmp 15), none⟩, ⟨some 122, .bin 170 .mul (.tmp 121) (.const (.int .u64 4294967296)), none⟩, ⟨some 123, .mv (.tmp 18), none⟩, ⟨some 124, .bin 170 .add (.tmp 122) (.tmp 123), none⟩, ⟨some 125, .mv (.tmp 17), none⟩, ⟨some 126, .bin 170 .mul (.tmp 125) (.const (.int .u64 4294967296)), none⟩, ⟨some 127, .mv (.tmp 14), none⟩, ⟨some 128, .bin 170 .add (.tmp 126) (.tmp 127), none⟩, ⟨some 129, .mv (.tmp 18), none⟩, ⟨some 130, .mv (.tmp 2), none⟩, ⟨some 131, .bin 170 .mul (.tmp 129) (.tmp 130), none⟩, ⟨some 132, .bin 170 .sub (.tmp 128) (.tmp 131), none⟩, ⟨some 133, .mv (.tmp 8), none⟩, ⟨some 134, .bin 170 .shr (.tmp 132) (.tmp 133), none⟩, ⟨some 6, .mv (.tmp 124), none⟩, ⟨some 7, .mv (.tmp 134), none⟩]
def Xn144_86 : C := .seq Xn144_87 .ret
def Xn144_67 : C := seqL [2, 8, 14, 15, 17, 18] Xn144_68 Xn144_86
def Xn144_65 : C := .seq Xn144_66 Xn144_67
def Xn144_63 : C := .seq Xn144_64 Xn144_65
def Xn144_61 : C := .seq Xn144_62 Xn144_63
def Xn144_42 : C := seqL [2, 8, 9, 10, 11, 13, 14, 15] Xn144_43 Xn144_61
def Xn144_40 : C := .seq Xn144_41 Xn144_42
def Xn144_38 : C := .seq Xn144_39 Xn144_40
def Xn144_36 : C := .seq Xn144_37 Xn144_38
def Xn144_34 : C := .seq Xn144_35 Xn144_36
def Xn144_32 : C := .seq Xn144_33 Xn144_34
def Xn144_30 : C := .seq Xn144_31 Xn144_32
def Xn144_28 : C := .seq Xn144_29 Xn144_30
def Xn144_26 : C := .seq Xn144_27 Xn144_28
def Xn144_24 : C := .seq Xn144_25 Xn144_26
def Xn144_22 : C := .seq Xn144_23 Xn144_24
def Xn144_14 : C := seqL [0, 1, 2] Xn144_15 Xn144_22
def Xn144_8 : C := seqL [0, 1, 2] Xn144_9 Xn144_14
def Xn144_2 : C := seqL [0, 1, 2] Xn144_3 Xn144_8
def Xn144_0 : C := .seq Xn144_1 Xn144_2
theorem Xt144 : Text Try.prog 144 Xn144_0 135 3 [.t 6, .t 7] := ⟨⟨Try.f144, [], Try.func144, by kernel_rfl, by kernel_rfl, by kernel_rfl, by kernel_rfl⟩⟩
/- carried: [9] -/
/- carried: [8] -/
/- carried: [10, 11] -/
/- carried: [13] -/
/- carried: [14, 15] -/
/- carried: [17] -/
/- carried: [20, 21] -/
/- carried: [8] -/
def Xn150_1 : C := regL [0] none [⟨some 2, .mv (.const (.int .i64 0)), none⟩]
def Xn150_3 : C := regL [2] none [⟨some 3, .mv (.tmp 0), none⟩, ⟨some 4, .call 153 [.tmp 3], none⟩, ⟨some 5, .bin 3 .sub (.const (.int .i64 64)) (.tmp 4), none⟩, ⟨some 2, .mv (.tmp 5), none⟩]
def Xn150_2 : C := .seq Xn150_3 .ret
def Xn150_0 : C := .seq Xn150_1 Xn150_2
theorem Xt150 : Text Try.prog 150 Xn150_0 6 1 [.t 2] := ⟨⟨Try.f150, [], Try.func150, by kernel_rfl, by kernel_rfl, by kernel_rfl, by kernel_rfl⟩⟩
/- carried: [] -/
/- carried: [10, 11] -/
def Xn153_1 : C := regL [0, 2] none [⟨some 2, .mv (.const (.int .i64 0)), none⟩]
def Xn153_4 : C := regL [0, 2, 4] none [⟨some 3, .mv (.tmp 0), none⟩, ⟨some 4, .bin 170 .geq (.tmp 3) (.const (.int .u64 4294967296)), none⟩]
def Xn153_7 : C := regL [0] none [⟨some 5, .mv (.tmp 0), none⟩, ⟨some 6, .bin 170 .shr (.tmp 5) (.const (.int .u64 32)), none⟩, ⟨some 0, .mv (.tmp 6), none⟩]
def Xn153_8 : C := regL [0, 2] none [⟨some 2, .mv (.const (.int .i64 32)), none⟩]
def Xn153_6 : C := .seq Xn153_7 Xn153_8
def Xn153_5 : C := .cond (.tmp 4) Xn153_6 .skip
def Xn153_3 : C := .seq Xn153_4 Xn153_5
def Xn153_12 : C := regL [0, 2, 8] none [⟨some 7, .mv (.tmp 0), none⟩, ⟨some 8, .bin 170 .geq (.tmp 7) (.const (.int .u64 65536)), none⟩]
def Xn153_15 : C := regL [0, 2] none [⟨some 9, .mv (.tmp 0), none⟩, ⟨some 10, .bin 170 .shr (.tmp 9) (.const (.int .u64 16)), none⟩, ⟨some 0, .mv (.tmp 10), none⟩]
def Xn153_16 : C := regL [0, 2] none [⟨some 11, .mv (.tmp 2), none⟩, ⟨some 12, .bin 3 .add (.tmp 11) (.const (.int .i64 16)), none⟩, ⟨some 2, .mv (.tmp 12), none⟩]
def Xn153_14 : C := .seq Xn153_15 Xn153_16
def Xn153_13 : C := .cond (.tmp 8) Xn153_14 .skip
def Xn153_11 : C := .seq Xn153_12 Xn153_13
def Xn153_20 : C := regL [0, 2, 14] none [⟨some 13, .mv (.tmp 0), none⟩, ⟨some 14, .bin 170 .geq (.tmp 13) (.const (.int .u64 256)), none⟩]
def Xn153_23 : C := regL [0, 2] none [⟨some 15, .mv (.tmp 0), none⟩, ⟨some 16, .bin 170 .shr (.tmp 15) (.const (.int .u64 8)), none⟩, ⟨some 0, .mv (.tmp 16), none⟩]
def Xn153_24 : C := regL [0, 2] none [⟨some 17, .mv (.tmp 2), none⟩, ⟨some 18, .bin 3 .add (.tmp 17) (.const (.int .i64 8)), none⟩, ⟨some 2, .mv (.tmp 18), none⟩]
def Xn153_22 : C := .seq Xn153_23 Xn153_24
def Xn153_21 : C := .cond (.tmp 14) Xn153_22 .skip
def Xn153_19 : C := .seq Xn153_20 Xn153_21
def Xn153_27 : C := regL [2] none [⟨some 19, .mv (.tmp 2), none⟩, ⟨some 20, .mv (.tmp 0), none⟩, ⟨some 21, .cvt .u8 (.tmp 20), none⟩, ⟨some 22, .sidx (.const (.string ⟨#[0, 1, 2, 2, 3, 3, 3, 3, 4, 4, 4, 4, 4, 4, 4, 4, 5, 5, 5, 5, 5, 5, 5, 5, 5, 5, 5, 5, 5, 5, 5, 5, 6, 6, 6, 6, 6, 6, 6, 6, 6, 6, 6, 6, 6, 6, 6, 6, 6, 6, 6, 6, 6, 6, 6, 6, 6, 6, 6, 6, 6, 6, 6, 6, 7, 7, 7, 7, 7, 7, 7, 7, 7, 7, 7, 7, 7, 7, 7, 7, 7, 7, 7, 7, 7, 7, 7, 7, 7, 7, 7, 7, 7, 7, 7, 7, 7, 7, 7, 7, 7, 7, 7, 7, 7, 7, 7, 7, 7, 7, 7, 7, 7, 7, 7, 7, 7, 7, 7, 7, 7, 7, 7, 7, 7, 7, 7, 7, 8, 8, 8, 8, 8, 8, 8, 8, 8, 8, 8, 8, 8, 8, 8, 8, 8, 8, 8, 8, 8, 8, 8, 8, 8, 8, 8, 8, 8, 8, 8, 8, 8, 8, 8, 8, 8, 8, 8, 8, 8, 8, 8, 8, 8, 8, 8, 8, 8, 8, 8, 8, 8, 8, 8, 8, 8, 8, 8, 8, 8, 8, 8, 8, 8, 8, 8, 8, 8, 8, 8, 8, 8, 8, 8, 8, 8, 8, 8, 8, 8, 8, 8, 8, 8, 8, 8, 8, 8, 8, 8, 8, 8, 8, 8, 8, 8, 8, 8, 8, 8, 8, 8, 8, 8, 8, 8, 8, 8, 8, 8, 8, 8, 8, 8, 8, 8, 8, 8, 8, 8, 8, 8, 8, 8, 8, 8, 8]⟩)) (.tmp 21), none⟩, ⟨some 23, .cvt .i64 (.tmp 22), none⟩, ⟨some 24, .bin 3 .add (.tmp 19) (.tmp 23), none⟩, ⟨some 2, .mv (.tmp 24), none⟩]
def Xn153_26 : C := .seq Xn153_27 .ret
def Xn153_18 : C := seqL [0, 2] Xn153_19 Xn153_26
def Xn153_10 : C := seqL [0, 2] Xn153_11 Xn153_18
def Xn153_2 : C := seqL [0, 2] Xn153_3 Xn153_10
def Xn153_0 : C := .seq Xn153_1 Xn153_2
theorem Xt153 : Text Try.prog 153 Xn153_0 25 1 [.t 2] := ⟨⟨Try.f153, [], Try.func153, by kernel_rfl, by kernel_rfl, by kernel_rfl, by kernel_rfl⟩⟩
/- carried: [10] -/
end Go.Proofs.Ytfkjdjlcaojedaa

/- Words of 64 bits: products. -/
namespace Go.Proofs.Ytfkjdjlcaojedaa
open Go Sy
set_option maxRecDepth 100000
set_option maxHeartbeats 4000000
set_option linter.unusedVariables false
set_option linter.unusedSimpArgs false

theorem mixed : Try.prog.follows .mixedOrders = true := by kernel_rfl
abbrev iv (n : Int) : AV := .v (.int .i64 n)
abbrev bv (b : Bool) : AV := .v (.bool b)
abbrev uv (n : Nat) : AV := .v (.int .u64 n)
theorem maskN (a : Nat) (ha : a < 18446744073709551616) : bits .and .u64 (a : Int) 4294967295 = ((a % 4294967296 : Nat) : Int) := by
  have h := bits_and_u64_nat a 4294967295 ha (by omega)
  have e : a &&& 4294967295 = a % 4294967296 := Nat.and_two_pow_sub_one_eq_mod a 32
  rw [e] at h
  exact h
theorem shrC (a : Int) (s : Nat) (b : Int) (h : (2 : Int) ^ min s IntKind.u64.bits = b) (hb : 0 ≤ b) : a.fdiv (2 ^ min s IntKind.u64.bits) = a / b := by
  rw [h, Int.fdiv_eq_ediv_of_nonneg _ hb]
theorem shr32 (a : Int) : a.fdiv (2 ^ min 32 IntKind.u64.bits) = a / 4294967296 := shrC a 32 _ (by decide) (by decide)
theorem shr16 (a : Int) : a.fdiv (2 ^ min 16 IntKind.u64.bits) = a / 65536 := shrC a 16 _ (by decide) (by decide)
theorem shr8 (a : Int) : a.fdiv (2 ^ min 8 IntKind.u64.bits) = a / 256 := shrC a 8 _ (by decide) (by decide)
theorem divN (a : Nat) : (a : Int) / 4294967296 = ((a / 4294967296 : Nat) : Int) := by omega
theorem mulN (a b : Nat) : (a : Int) * (b : Int) = ((a * b : Nat) : Int) := (Int.natCast_mul a b).symm
theorem addN (a b : Nat) : (a : Int) + (b : Int) = ((a + b : Nat) : Int) := (Int.natCast_add a b).symm
theorem wrapN (a : Nat) (ha : a < 18446744073709551616) : IntKind.u64.wrap (a : Int) = (a : Int) := by rw [IntKind.wrap_u64]; omega
theorem wrapM (a : Nat) : IntKind.u64.wrap (a : Int) = ((a % 18446744073709551616 : Nat) : Int) := by rw [IntKind.wrap_u64]; omega
theorem fn143 (x y : Nat) (hx : x < 18446744073709551616) (hy : y < 18446744073709551616) : Sy.Fn Try.prog 143 [uv x, uv y] (.tup [uv (x * y / 18446744073709551616), uv (x * y % 18446744073709551616)]) := by
  refine Fn_of_W mixed Xt143 rfl ?_
  obtain ⟨bd, bt, bw, hhi⟩ := Lib.mul64_hi x y hx hy
  have ba := Lib.half_mul_le (a := x / 4294967296) (b := y / 4294967296) (by omega) (by omega)
  have bb := Lib.half_mul_le (a := x / 4294967296) (b := y % 4294967296) (by omega) (by omega)
  have bc := Lib.half_mul_le (a := x % 4294967296) (b := y / 4294967296) (by omega) (by omega)
  have ba' : x / 4294967296 * (y / 4294967296) < 18446744073709551616 := by omega
  have bb' : x / 4294967296 * (y % 4294967296) < 18446744073709551616 := by omega
  have bc' : x % 4294967296 * (y / 4294967296) < 18446744073709551616 := by omega
  have bh1 : x / 4294967296 * (y / 4294967296) + (x / 4294967296 * (y % 4294967296) + x % 4294967296 * (y % 4294967296) / 4294967296) / 4294967296 < 18446744073709551616 := by omega
  have bh : x / 4294967296 * (y / 4294967296) + (x / 4294967296 * (y % 4294967296) + x % 4294967296 * (y % 4294967296) / 4294967296) / 4294967296 + ((x / 4294967296 * (y % 4294967296) + x % 4294967296 * (y % 4294967296) / 4294967296) % 4294967296 + x % 4294967296 * (y / 4294967296)) / 4294967296 < 18446744073709551616 := by omega
  repeat' (first | refine WK_go ?_ | refine W_seqL ?_ | refine W_seq ?_ | (refine W_regL ?_; simp (maxSteps := 400000) (disch := omega) only [push_cast, ↓reduceIte, reduceCtorEq, Nat.reduceAdd, Nat.reduceSub, Nat.reduceEqDiff, Nat.reduceLeDiff, Nat.reduceLT, Nat.reduceBEq, Nat.reduceDiv, Nat.reduceMod, Nat.reducePow, Nat.reduceMul, Int.reduceToNat, Int.reduceLT, Int.reduceLE]) | refine W_block ?_ | (refine W_skip ?_; simp (maxSteps := 400000) (disch := omega) only [push_cast, ↓reduceIte, reduceCtorEq, Nat.reduceAdd, Nat.reduceSub, Nat.reduceEqDiff, Nat.reduceLeDiff, Nat.reduceLT, Nat.reduceBEq, Nat.reduceDiv, Nat.reduceMod, Nat.reducePow, Nat.reduceMul, Int.reduceToNat, Int.reduceLT, Int.reduceLE]) | (refine W_exit ?_; simp (maxSteps := 400000) (disch := omega) only [push_cast, ↓reduceIte, reduceCtorEq, Nat.reduceAdd, Nat.reduceSub, Nat.reduceEqDiff, Nat.reduceLeDiff, Nat.reduceLT, Nat.reduceBEq, Nat.reduceDiv, Nat.reduceMod, Nat.reducePow, Nat.reduceMul, Int.reduceToNat, Int.reduceLT, Int.reduceLE]) | refine And.intro (by omega) ?_ | refine And.intro (by intro hq; (try simp only [Bool.and_eq_true, Bool.or_eq_true, Bool.and_eq_false_iff, Bool.or_eq_false_iff, decide_eq_true_eq, decide_eq_false_iff_not, Bool.not_eq_true', Bool.not_eq_false', beq_iff_eq, beq_eq_false_iff_ne, ne_eq] at hq); omega) ?_ | fail)
  simp only [maskN x hx, maskN y hy, shr32, divN, mulN, addN, wrapN _ bd, wrapN _ bb', wrapN _ bt, maskN _ bt, wrapN _ bc', wrapN _ bw, wrapN _ ba', wrapN _ bh1, wrapN _ bh, wrapM (x * y)]
  rw [hhi]
  exact W_ret ⟨[_, _], ⟨rfl, rfl, rfl⟩, rfl⟩
end Go.Proofs.Ytfkjdjlcaojedaa

/- Words of 64 bits: how many bits a number has. -/
namespace Go.Proofs.Ytfkjdjlcaojedaa
open Go Sy
set_option maxRecDepth 100000
set_option maxHeartbeats 4000000
set_option linter.unusedVariables false
set_option linter.unusedSimpArgs false
abbrev uw (n : Int) : AV := .v (.int .u64 n)
/-- n bits, the first one set -/
def Bits (x : Int) (n : Nat) : Prop := 2 ^ n ≤ 2 * x ∧ x < 2 ^ n
theorem Bits.up {x : Int} {n : Nat} (k : Nat) (h : Bits (x / 2 ^ k) n) : Bits x (n + k) := by
  obtain ⟨h1, h2⟩ := h
  have hk : (0 : Int) < 2 ^ k := Int.pow_pos (by omega)
  have hm := Int.mul_ediv_add_emod x (2 ^ k)
  have hr := Int.emod_lt_of_pos x hk
  have hr0 := Int.emod_nonneg x (Int.ne_of_gt hk)
  have e : (2 : Int) ^ (n + k) = 2 ^ n * 2 ^ k := Int.pow_add ..
  have m1 := Int.mul_le_mul_of_nonneg_right h1 (Int.le_of_lt hk)
  have m2 := Int.mul_le_mul_of_nonneg_right (show x / 2 ^ k + 1 ≤ 2 ^ n by omega) (Int.le_of_lt hk)
  unfold Bits
  rw [e]
  rw [Int.add_mul] at m2
  rw [Int.mul_assoc, Int.mul_comm (x / 2 ^ k)] at m1
  rw [Int.mul_comm (x / 2 ^ k)] at m2
  constructor <;> omega
def lo (b x : Int) : Int := if b ≤ x then x / b else x
def nb (b : Int) (k : Nat) (x : Int) : Nat := if b ≤ x then k else 0
theorem Bits.lo {b x : Int} {n : Nat} (k : Nat) (hb : (2 : Int) ^ k = b) (h : Bits (lo b x) n) : Bits x (n + nb b k x) := by
  unfold Go.Proofs.Ytfkjdjlcaojedaa.lo at h
  unfold nb
  subst hb
  split
  · rename_i h1; rw [if_pos h1] at h; exact h.up k
  · rename_i h1; rw [if_neg h1] at h; exact h
def tab : ByteArray := ⟨#[0, 1, 2, 2, 3, 3, 3, 3, 4, 4, 4, 4, 4, 4, 4, 4, 5, 5, 5, 5, 5, 5, 5, 5, 5, 5, 5, 5, 5, 5, 5, 5, 6, 6, 6, 6, 6, 6, 6, 6, 6, 6, 6, 6, 6, 6, 6, 6, 6, 6, 6, 6, 6, 6, 6, 6, 6, 6, 6, 6, 6, 6, 6, 6, 7, 7, 7, 7, 7, 7, 7, 7, 7, 7, 7, 7, 7, 7, 7, 7, 7, 7, 7, 7, 7, 7, 7, 7, 7, 7, 7, 7, 7, 7, 7, 7, 7, 7, 7, 7, 7, 7, 7, 7, 7, 7, 7, 7, 7, 7, 7, 7, 7, 7, 7, 7, 7, 7, 7, 7, 7, 7, 7, 7, 7, 7, 7, 7, 8, 8, 8, 8, 8, 8, 8, 8, 8, 8, 8, 8, 8, 8, 8, 8, 8, 8, 8, 8, 8, 8, 8, 8, 8, 8, 8, 8, 8, 8, 8, 8, 8, 8, 8, 8, 8, 8, 8, 8, 8, 8, 8, 8, 8, 8, 8, 8, 8, 8, 8, 8, 8, 8, 8, 8, 8, 8, 8, 8, 8, 8, 8, 8, 8, 8, 8, 8, 8, 8, 8, 8, 8, 8, 8, 8, 8, 8, 8, 8, 8, 8, 8, 8, 8, 8, 8, 8, 8, 8, 8, 8, 8, 8, 8, 8, 8, 8, 8, 8, 8, 8, 8, 8, 8, 8, 8, 8, 8, 8, 8, 8, 8, 8, 8, 8, 8, 8, 8, 8, 8, 8, 8, 8, 8, 8, 8, 8]⟩
def tabOK (i : Nat) : Bool := decide (byteAt tab i ≤ 8) && (decide (i = 0) || (decide (2 ^ byteAt tab i ≤ 2 * i) && decide (i < 2 ^ byteAt tab i)))
theorem tab_all : (List.range 256).all tabOK = true := by decide +kernel
theorem tab_size : tab.size = 256 := by decide +kernel
theorem tab_bits {u : Int} (h0 : 0 ≤ u) (h : u < 256) : byteAt tab u.toNat ≤ 8 ∧ (0 < u → Bits u (byteAt tab u.toNat)) := by
  have h1 := List.all_eq_true.1 tab_all u.toNat (by simp; omega)
  unfold tabOK at h1
  simp only [Bool.and_eq_true, Bool.or_eq_true, decide_eq_true_eq] at h1
  refine ⟨h1.1, fun h2 => ?_⟩
  have h3 := h1.2.resolve_left (by omega)
  unfold Bits
  have e : ((u.toNat : Nat) : Int) = u := by omega
  generalize byteAt tab u.toNat = n at *
  have e2 : ((2 ^ n : Nat) : Int) = (2 : Int) ^ n := Int.natCast_pow 2 n
  omega
theorem fn153 (x : Int) (h0 : 0 ≤ x) (hx : x < 18446744073709551616) : ∃ n : Nat, n ≤ 64 ∧ (0 < x → Bits x n) ∧ Sy.Fn Try.prog 153 [uw x] (iv n) := by
  generalize hy : lo 4294967296 x = y
  have hyb : 0 ≤ y ∧ y < 4294967296 := by subst hy; unfold lo; split <;> omega
  generalize hm : nb 4294967296 32 x = m
  have hmb : m ≤ 32 := by subst hm; unfold nb; split <;> omega
  generalize hz : lo 65536 y = z
  have hzb : 0 ≤ z ∧ z < 65536 := by subst hz; unfold lo; split <;> omega
  generalize hk : m + nb 65536 16 y = k
  have hkb : k ≤ 48 := by subst hk; unfold nb; split <;> omega
  generalize hu : lo 256 z = u
  have hub : 0 ≤ u ∧ u < 256 := by subst hu; unfold lo; split <;> omega
  generalize hj : k + nb 256 8 z = j
  have hjb : j ≤ 56 := by subst hj; unfold nb; split <;> omega
  have ht := tab_bits hub.1 hub.2
  have hpos : 0 < x → 0 < u := fun h => by
    have h1 : 0 < y := by subst hy; unfold lo; split <;> omega
    have h2 : 0 < z := by subst hz; unfold lo; split <;> omega
    subst hu; unfold lo; split <;> omega
  refine ⟨j + byteAt tab u.toNat, by omega, fun h => ?_, ?_⟩
  · have h1 := ht.2 (hpos h)
    rw [← hu] at h1
    have h2 := h1.lo 8 (by decide)
    rw [hu, ← hz] at h2
    have h3 := h2.lo 16 (by decide)
    rw [hz, ← hy] at h3
    have h4 := h3.lo 32 (by decide)
    rw [hy] at h4
    rw [← hj, ← hk, ← hm]
    rw [show nb 4294967296 32 x + nb 65536 16 y + nb 256 8 z + byteAt tab u.toNat = byteAt tab u.toNat + nb 256 8 z + nb 65536 16 y + nb 4294967296 32 x by omega]
    exact h4
  refine Fn_of_W mixed Xt153 rfl ?_
  repeat' (first | refine WK_go ?_ | refine W_seqL ?_ | refine W_seq ?_ | (refine W_regL ?_; simp (maxSteps := 400000) (disch := omega) only [push_cast, ↓reduceIte, reduceCtorEq, Nat.reduceAdd, Nat.reduceSub, Nat.reduceEqDiff, Nat.reduceLeDiff, Nat.reduceLT, Nat.reduceBEq, Nat.reduceDiv, Nat.reduceMod, Nat.reducePow, Nat.reduceMul, Int.reduceToNat, Int.reduceLT, Int.reduceLE]) | refine W_block ?_ | (refine W_skip ?_; simp (maxSteps := 400000) (disch := omega) only [push_cast, ↓reduceIte, reduceCtorEq, Nat.reduceAdd, Nat.reduceSub, Nat.reduceEqDiff, Nat.reduceLeDiff, Nat.reduceLT, Nat.reduceBEq, Nat.reduceDiv, Nat.reduceMod, Nat.reducePow, Nat.reduceMul, Int.reduceToNat, Int.reduceLT, Int.reduceLE]) | (refine W_exit ?_; simp (maxSteps := 400000) (disch := omega) only [push_cast, ↓reduceIte, reduceCtorEq, Nat.reduceAdd, Nat.reduceSub, Nat.reduceEqDiff, Nat.reduceLeDiff, Nat.reduceLT, Nat.reduceBEq, Nat.reduceDiv, Nat.reduceMod, Nat.reducePow, Nat.reduceMul, Int.reduceToNat, Int.reduceLT, Int.reduceLE]) | refine And.intro (by omega) ?_ | refine And.intro (by intro hq; (try simp only [Bool.and_eq_true, Bool.or_eq_true, Bool.and_eq_false_iff, Bool.or_eq_false_iff, decide_eq_true_eq, decide_eq_false_iff_not, Bool.not_eq_true', Bool.not_eq_false', beq_iff_eq, beq_eq_false_iff_ne, ne_eq] at hq); omega) ?_ | fail)
  refine W_meet [(0, uw y), (2, iv m)] [] ?_ ?_
  · subst hy hm
    unfold lo nb
    refine W_condD (by rfl) (fun h => ?_) (fun h => ?_)
    · rw [if_pos h, if_pos h]
      repeat' (first | refine WK_go ?_ | refine W_seqL ?_ | refine W_seq ?_ | (refine W_regL ?_; simp (maxSteps := 400000) (disch := omega) only [push_cast, ↓reduceIte, reduceCtorEq, Nat.reduceAdd, Nat.reduceSub, Nat.reduceEqDiff, Nat.reduceLeDiff, Nat.reduceLT, Nat.reduceBEq, Nat.reduceDiv, Nat.reduceMod, Nat.reducePow, Nat.reduceMul, Int.reduceToNat, Int.reduceLT, Int.reduceLE, shr32]) | refine W_block ?_ | (refine W_skip ?_; simp (maxSteps := 400000) (disch := omega) only [push_cast, ↓reduceIte, reduceCtorEq, Nat.reduceAdd, Nat.reduceSub, Nat.reduceEqDiff, Nat.reduceLeDiff, Nat.reduceLT, Nat.reduceBEq, Nat.reduceDiv, Nat.reduceMod, Nat.reducePow, Nat.reduceMul, Int.reduceToNat, Int.reduceLT, Int.reduceLE, shr32]) | (refine W_exit ?_; simp (maxSteps := 400000) (disch := omega) only [push_cast, ↓reduceIte, reduceCtorEq, Nat.reduceAdd, Nat.reduceSub, Nat.reduceEqDiff, Nat.reduceLeDiff, Nat.reduceLT, Nat.reduceBEq, Nat.reduceDiv, Nat.reduceMod, Nat.reducePow, Nat.reduceMul, Int.reduceToNat, Int.reduceLT, Int.reduceLE, shr32]) | refine And.intro (by omega) ?_ | refine And.intro (by intro hq; (try simp only [Bool.and_eq_true, Bool.or_eq_true, Bool.and_eq_false_iff, Bool.or_eq_false_iff, decide_eq_true_eq, decide_eq_false_iff_not, Bool.not_eq_true', Bool.not_eq_false', beq_iff_eq, beq_eq_false_iff_ne, ne_eq] at hq); omega) ?_ | fail)
      refine ⟨by rfl, ?_⟩
      simp (maxSteps := 400000) (disch := omega) only [push_cast, ↓reduceIte, reduceCtorEq, Nat.reduceAdd, Nat.reduceSub, Nat.reduceEqDiff, Nat.reduceLeDiff, Nat.reduceLT, Nat.reduceBEq, Nat.reduceDiv, Nat.reduceMod, Nat.reducePow, Nat.reduceMul, Int.reduceToNat, Int.reduceLT, Int.reduceLE, S.mk.injEq, List.cons.injEq, Prod.mk.injEq, AV.v.injEq, Value.int.injEq, Value.bool.injEq, Blk.cells.injEq]
      all_goals omega
    · rw [if_neg h, if_neg h]
      repeat' (first | refine WK_go ?_ | refine W_seqL ?_ | refine W_seq ?_ | (refine W_regL ?_; simp (maxSteps := 400000) (disch := omega) only [push_cast, ↓reduceIte, reduceCtorEq, Nat.reduceAdd, Nat.reduceSub, Nat.reduceEqDiff, Nat.reduceLeDiff, Nat.reduceLT, Nat.reduceBEq, Nat.reduceDiv, Nat.reduceMod, Nat.reducePow, Nat.reduceMul, Int.reduceToNat, Int.reduceLT, Int.reduceLE]) | refine W_block ?_ | (refine W_skip ?_; simp (maxSteps := 400000) (disch := omega) only [push_cast, ↓reduceIte, reduceCtorEq, Nat.reduceAdd, Nat.reduceSub, Nat.reduceEqDiff, Nat.reduceLeDiff, Nat.reduceLT, Nat.reduceBEq, Nat.reduceDiv, Nat.reduceMod, Nat.reducePow, Nat.reduceMul, Int.reduceToNat, Int.reduceLT, Int.reduceLE]) | (refine W_exit ?_; simp (maxSteps := 400000) (disch := omega) only [push_cast, ↓reduceIte, reduceCtorEq, Nat.reduceAdd, Nat.reduceSub, Nat.reduceEqDiff, Nat.reduceLeDiff, Nat.reduceLT, Nat.reduceBEq, Nat.reduceDiv, Nat.reduceMod, Nat.reducePow, Nat.reduceMul, Int.reduceToNat, Int.reduceLT, Int.reduceLE]) | refine And.intro (by omega) ?_ | refine And.intro (by intro hq; (try simp only [Bool.and_eq_true, Bool.or_eq_true, Bool.and_eq_false_iff, Bool.or_eq_false_iff, decide_eq_true_eq, decide_eq_false_iff_not, Bool.not_eq_true', Bool.not_eq_false', beq_iff_eq, beq_eq_false_iff_ne, ne_eq] at hq); omega) ?_ | fail)
      rfl
  simp (maxSteps := 400000) (disch := omega) only [push_cast, ↓reduceIte, reduceCtorEq, Nat.reduceAdd, Nat.reduceSub, Nat.reduceEqDiff, Nat.reduceLeDiff, Nat.reduceLT, Nat.reduceBEq, Nat.reduceDiv, Nat.reduceMod, Nat.reducePow, Nat.reduceMul, Int.reduceToNat, Int.reduceLT, Int.reduceLE]
  repeat' (first | refine WK_go ?_ | refine W_seqL ?_ | refine W_seq ?_ | (refine W_regL ?_; simp (maxSteps := 400000) (disch := omega) only [push_cast, ↓reduceIte, reduceCtorEq, Nat.reduceAdd, Nat.reduceSub, Nat.reduceEqDiff, Nat.reduceLeDiff, Nat.reduceLT, Nat.reduceBEq, Nat.reduceDiv, Nat.reduceMod, Nat.reducePow, Nat.reduceMul, Int.reduceToNat, Int.reduceLT, Int.reduceLE]) | refine W_block ?_ | (refine W_skip ?_; simp (maxSteps := 400000) (disch := omega) only [push_cast, ↓reduceIte, reduceCtorEq, Nat.reduceAdd, Nat.reduceSub, Nat.reduceEqDiff, Nat.reduceLeDiff, Nat.reduceLT, Nat.reduceBEq, Nat.reduceDiv, Nat.reduceMod, Nat.reducePow, Nat.reduceMul, Int.reduceToNat, Int.reduceLT, Int.reduceLE]) | (refine W_exit ?_; simp (maxSteps := 400000) (disch := omega) only [push_cast, ↓reduceIte, reduceCtorEq, Nat.reduceAdd, Nat.reduceSub, Nat.reduceEqDiff, Nat.reduceLeDiff, Nat.reduceLT, Nat.reduceBEq, Nat.reduceDiv, Nat.reduceMod, Nat.reducePow, Nat.reduceMul, Int.reduceToNat, Int.reduceLT, Int.reduceLE]) | refine And.intro (by omega) ?_ | refine And.intro (by intro hq; (try simp only [Bool.and_eq_true, Bool.or_eq_true, Bool.and_eq_false_iff, Bool.or_eq_false_iff, decide_eq_true_eq, decide_eq_false_iff_not, Bool.not_eq_true', Bool.not_eq_false', beq_iff_eq, beq_eq_false_iff_ne, ne_eq] at hq); omega) ?_ | fail)
  refine W_meet [(0, uw z), (2, iv k)] [] ?_ ?_
  · subst hz hk
    unfold lo nb
    refine W_condD (by rfl) (fun h => ?_) (fun h => ?_)
    · rw [if_pos h, if_pos h]
      repeat' (first | refine WK_go ?_ | refine W_seqL ?_ | refine W_seq ?_ | (refine W_regL ?_; simp (maxSteps := 400000) (disch := omega) only [push_cast, ↓reduceIte, reduceCtorEq, Nat.reduceAdd, Nat.reduceSub, Nat.reduceEqDiff, Nat.reduceLeDiff, Nat.reduceLT, Nat.reduceBEq, Nat.reduceDiv, Nat.reduceMod, Nat.reducePow, Nat.reduceMul, Int.reduceToNat, Int.reduceLT, Int.reduceLE, shr16]) | refine W_block ?_ | (refine W_skip ?_; simp (maxSteps := 400000) (disch := omega) only [push_cast, ↓reduceIte, reduceCtorEq, Nat.reduceAdd, Nat.reduceSub, Nat.reduceEqDiff, Nat.reduceLeDiff, Nat.reduceLT, Nat.reduceBEq, Nat.reduceDiv, Nat.reduceMod, Nat.reducePow, Nat.reduceMul, Int.reduceToNat, Int.reduceLT, Int.reduceLE, shr16]) | (refine W_exit ?_; simp (maxSteps := 400000) (disch := omega) only [push_cast, ↓reduceIte, reduceCtorEq, Nat.reduceAdd, Nat.reduceSub, Nat.reduceEqDiff, Nat.reduceLeDiff, Nat.reduceLT, Nat.reduceBEq, Nat.reduceDiv, Nat.reduceMod, Nat.reducePow, Nat.reduceMul, Int.reduceToNat, Int.reduceLT, Int.reduceLE, shr16]) | refine And.intro (by omega) ?_ | refine And.intro (by intro hq; (try simp only [Bool.and_eq_true, Bool.or_eq_true, Bool.and_eq_false_iff, Bool.or_eq_false_iff, decide_eq_true_eq, decide_eq_false_iff_not, Bool.not_eq_true', Bool.not_eq_false', beq_iff_eq, beq_eq_false_iff_ne, ne_eq] at hq); omega) ?_ | fail)
      refine ⟨by rfl, ?_⟩
      simp (maxSteps := 400000) (disch := omega) only [push_cast, ↓reduceIte, reduceCtorEq, Nat.reduceAdd, Nat.reduceSub, Nat.reduceEqDiff, Nat.reduceLeDiff, Nat.reduceLT, Nat.reduceBEq, Nat.reduceDiv, Nat.reduceMod, Nat.reducePow, Nat.reduceMul, Int.reduceToNat, Int.reduceLT, Int.reduceLE, S.mk.injEq, List.cons.injEq, Prod.mk.injEq, AV.v.injEq, Value.int.injEq, Value.bool.injEq, Blk.cells.injEq]
      all_goals omega
    · rw [if_neg h, if_neg h]
      repeat' (first | refine WK_go ?_ | refine W_seqL ?_ | refine W_seq ?_ | (refine W_regL ?_; simp (maxSteps := 400000) (disch := omega) only [push_cast, ↓reduceIte, reduceCtorEq, Nat.reduceAdd, Nat.reduceSub, Nat.reduceEqDiff, Nat.reduceLeDiff, Nat.reduceLT, Nat.reduceBEq, Nat.reduceDiv, Nat.reduceMod, Nat.reducePow, Nat.reduceMul, Int.reduceToNat, Int.reduceLT, Int.reduceLE]) | refine W_block ?_ | (refine W_skip ?_; simp (maxSteps := 400000) (disch := omega) only [push_cast, ↓reduceIte, reduceCtorEq, Nat.reduceAdd, Nat.reduceSub, Nat.reduceEqDiff, Nat.reduceLeDiff, Nat.reduceLT, Nat.reduceBEq, Nat.reduceDiv, Nat.reduceMod, Nat.reducePow, Nat.reduceMul, Int.reduceToNat, Int.reduceLT, Int.reduceLE]) | (refine W_exit ?_; simp (maxSteps := 400000) (disch := omega) only [push_cast, ↓reduceIte, reduceCtorEq, Nat.reduceAdd, Nat.reduceSub, Nat.reduceEqDiff, Nat.reduceLeDiff, Nat.reduceLT, Nat.reduceBEq, Nat.reduceDiv, Nat.reduceMod, Nat.reducePow, Nat.reduceMul, Int.reduceToNat, Int.reduceLT, Int.reduceLE]) | refine And.intro (by omega) ?_ | refine And.intro (by intro hq; (try simp only [Bool.and_eq_true, Bool.or_eq_true, Bool.and_eq_false_iff, Bool.or_eq_false_iff, decide_eq_true_eq, decide_eq_false_iff_not, Bool.not_eq_true', Bool.not_eq_false', beq_iff_eq, beq_eq_false_iff_ne, ne_eq] at hq); omega) ?_ | fail)
      rfl
  simp (maxSteps := 400000) (disch := omega) only [push_cast, ↓reduceIte, reduceCtorEq, Nat.reduceAdd, Nat.reduceSub, Nat.reduceEqDiff, Nat.reduceLeDiff, Nat.reduceLT, Nat.reduceBEq, Nat.reduceDiv, Nat.reduceMod, Nat.reducePow, Nat.reduceMul, Int.reduceToNat, Int.reduceLT, Int.reduceLE]
  repeat' (first | refine WK_go ?_ | refine W_seqL ?_ | refine W_seq ?_ | (refine W_regL ?_; simp (maxSteps := 400000) (disch := omega) only [push_cast, ↓reduceIte, reduceCtorEq, Nat.reduceAdd, Nat.reduceSub, Nat.reduceEqDiff, Nat.reduceLeDiff, Nat.reduceLT, Nat.reduceBEq, Nat.reduceDiv, Nat.reduceMod, Nat.reducePow, Nat.reduceMul, Int.reduceToNat, Int.reduceLT, Int.reduceLE]) | refine W_block ?_ | (refine W_skip ?_; simp (maxSteps := 400000) (disch := omega) only [push_cast, ↓reduceIte, reduceCtorEq, Nat.reduceAdd, Nat.reduceSub, Nat.reduceEqDiff, Nat.reduceLeDiff, Nat.reduceLT, Nat.reduceBEq, Nat.reduceDiv, Nat.reduceMod, Nat.reducePow, Nat.reduceMul, Int.reduceToNat, Int.reduceLT, Int.reduceLE]) | (refine W_exit ?_; simp (maxSteps := 400000) (disch := omega) only [push_cast, ↓reduceIte, reduceCtorEq, Nat.reduceAdd, Nat.reduceSub, Nat.reduceEqDiff, Nat.reduceLeDiff, Nat.reduceLT, Nat.reduceBEq, Nat.reduceDiv, Nat.reduceMod, Nat.reducePow, Nat.reduceMul, Int.reduceToNat, Int.reduceLT, Int.reduceLE]) | refine And.intro (by omega) ?_ | refine And.intro (by intro hq; (try simp only [Bool.and_eq_true, Bool.or_eq_true, Bool.and_eq_false_iff, Bool.or_eq_false_iff, decide_eq_true_eq, decide_eq_false_iff_not, Bool.not_eq_true', Bool.not_eq_false', beq_iff_eq, beq_eq_false_iff_ne, ne_eq] at hq); omega) ?_ | fail)
  refine W_meet [(0, uw u), (2, iv j)] [] ?_ ?_
  · subst hu hj
    unfold lo nb
    refine W_condD (by rfl) (fun h => ?_) (fun h => ?_)
    · rw [if_pos h, if_pos h]
      repeat' (first | refine WK_go ?_ | refine W_seqL ?_ | refine W_seq ?_ | (refine W_regL ?_; simp (maxSteps := 400000) (disch := omega) only [push_cast, ↓reduceIte, reduceCtorEq, Nat.reduceAdd, Nat.reduceSub, Nat.reduceEqDiff, Nat.reduceLeDiff, Nat.reduceLT, Nat.reduceBEq, Nat.reduceDiv, Nat.reduceMod, Nat.reducePow, Nat.reduceMul, Int.reduceToNat, Int.reduceLT, Int.reduceLE, shr8]) | refine W_block ?_ | (refine W_skip ?_; simp (maxSteps := 400000) (disch := omega) only [push_cast, ↓reduceIte, reduceCtorEq, Nat.reduceAdd, Nat.reduceSub, Nat.reduceEqDiff, Nat.reduceLeDiff, Nat.reduceLT, Nat.reduceBEq, Nat.reduceDiv, Nat.reduceMod, Nat.reducePow, Nat.reduceMul, Int.reduceToNat, Int.reduceLT, Int.reduceLE, shr8]) | (refine W_exit ?_; simp (maxSteps := 400000) (disch := omega) only [push_cast, ↓reduceIte, reduceCtorEq, Nat.reduceAdd, Nat.reduceSub, Nat.reduceEqDiff, Nat.reduceLeDiff, Nat.reduceLT, Nat.reduceBEq, Nat.reduceDiv, Nat.reduceMod, Nat.reducePow, Nat.reduceMul, Int.reduceToNat, Int.reduceLT, Int.reduceLE, shr8]) | refine And.intro (by omega) ?_ | refine And.intro (by intro hq; (try simp only [Bool.and_eq_true, Bool.or_eq_true, Bool.and_eq_false_iff, Bool.or_eq_false_iff, decide_eq_true_eq, decide_eq_false_iff_not, Bool.not_eq_true', Bool.not_eq_false', beq_iff_eq, beq_eq_false_iff_ne, ne_eq] at hq); omega) ?_ | fail)
      refine ⟨by rfl, ?_⟩
      simp (maxSteps := 400000) (disch := omega) only [push_cast, ↓reduceIte, reduceCtorEq, Nat.reduceAdd, Nat.reduceSub, Nat.reduceEqDiff, Nat.reduceLeDiff, Nat.reduceLT, Nat.reduceBEq, Nat.reduceDiv, Nat.reduceMod, Nat.reducePow, Nat.reduceMul, Int.reduceToNat, Int.reduceLT, Int.reduceLE, S.mk.injEq, List.cons.injEq, Prod.mk.injEq, AV.v.injEq, Value.int.injEq, Value.bool.injEq, Blk.cells.injEq]
      all_goals omega
    · rw [if_neg h, if_neg h]
      repeat' (first | refine WK_go ?_ | refine W_seqL ?_ | refine W_seq ?_ | (refine W_regL ?_; simp (maxSteps := 400000) (disch := omega) only [push_cast, ↓reduceIte, reduceCtorEq, Nat.reduceAdd, Nat.reduceSub, Nat.reduceEqDiff, Nat.reduceLeDiff, Nat.reduceLT, Nat.reduceBEq, Nat.reduceDiv, Nat.reduceMod, Nat.reducePow, Nat.reduceMul, Int.reduceToNat, Int.reduceLT, Int.reduceLE]) | refine W_block ?_ | (refine W_skip ?_; simp (maxSteps := 400000) (disch := omega) only [push_cast, ↓reduceIte, reduceCtorEq, Nat.reduceAdd, Nat.reduceSub, Nat.reduceEqDiff, Nat.reduceLeDiff, Nat.reduceLT, Nat.reduceBEq, Nat.reduceDiv, Nat.reduceMod, Nat.reducePow, Nat.reduceMul, Int.reduceToNat, Int.reduceLT, Int.reduceLE]) | (refine W_exit ?_; simp (maxSteps := 400000) (disch := omega) only [push_cast, ↓reduceIte, reduceCtorEq, Nat.reduceAdd, Nat.reduceSub, Nat.reduceEqDiff, Nat.reduceLeDiff, Nat.reduceLT, Nat.reduceBEq, Nat.reduceDiv, Nat.reduceMod, Nat.reducePow, Nat.reduceMul, Int.reduceToNat, Int.reduceLT, Int.reduceLE]) | refine And.intro (by omega) ?_ | refine And.intro (by intro hq; (try simp only [Bool.and_eq_true, Bool.or_eq_true, Bool.and_eq_false_iff, Bool.or_eq_false_iff, decide_eq_true_eq, decide_eq_false_iff_not, Bool.not_eq_true', Bool.not_eq_false', beq_iff_eq, beq_eq_false_iff_ne, ne_eq] at hq); omega) ?_ | fail)
      rfl
  simp (maxSteps := 400000) (disch := omega) only [push_cast, ↓reduceIte, reduceCtorEq, Nat.reduceAdd, Nat.reduceSub, Nat.reduceEqDiff, Nat.reduceLeDiff, Nat.reduceLT, Nat.reduceBEq, Nat.reduceDiv, Nat.reduceMod, Nat.reducePow, Nat.reduceMul, Int.reduceToNat, Int.reduceLT, Int.reduceLE]
  have hw : IntKind.u8.wrap u = u := by rw [IntKind.wrap_u8]; omega
  refine W_seq (W_regL ?_)
  rw [show ({ data := _ } : ByteArray) = tab from rfl]
  simp (maxSteps := 400000) (disch := omega) only [push_cast, ↓reduceIte, reduceCtorEq, Nat.reduceAdd, Nat.reduceSub, Nat.reduceEqDiff, Nat.reduceLeDiff, Nat.reduceLT, Nat.reduceBEq, Nat.reduceDiv, Nat.reduceMod, Nat.reducePow, Nat.reduceMul, Int.reduceToNat, Int.reduceLT, Int.reduceLE, hw, tab_size]
  refine ⟨⟨hub.1, hub.2⟩, ?_⟩
  exact W_ret ⟨[_], ⟨rfl, rfl⟩, rfl⟩
/-- LeadingZeros64 -/
theorem fn150 (x : Int) (h0 : 0 < x) (hx : x < 18446744073709551616) : ∃ n : Nat, n ≤ 64 ∧ Bits x n ∧ Sy.Fn Try.prog 150 [uw x] (iv (64 - n)) := by
  obtain ⟨n, hn, hb, c⟩ := fn153 x (by omega) hx
  refine ⟨n, hn, hb h0, ?_⟩
  refine Fn_of_W mixed Xt150 rfl ?_
  repeat' (first | refine WK_go ?_ | refine W_seqL ?_ | refine W_seq ?_ | (refine W_regL ?_; simp (maxSteps := 400000) (disch := omega) only [push_cast, ↓reduceIte, reduceCtorEq, Nat.reduceAdd, Nat.reduceSub, Nat.reduceEqDiff, Nat.reduceLeDiff, Nat.reduceLT, Nat.reduceBEq, Nat.reduceDiv, Nat.reduceMod, Nat.reducePow, Nat.reduceMul, Int.reduceToNat, Int.reduceLT, Int.reduceLE]) | refine W_block ?_ | (refine W_skip ?_; simp (maxSteps := 400000) (disch := omega) only [push_cast, ↓reduceIte, reduceCtorEq, Nat.reduceAdd, Nat.reduceSub, Nat.reduceEqDiff, Nat.reduceLeDiff, Nat.reduceLT, Nat.reduceBEq, Nat.reduceDiv, Nat.reduceMod, Nat.reducePow, Nat.reduceMul, Int.reduceToNat, Int.reduceLT, Int.reduceLE]) | (refine W_exit ?_; simp (maxSteps := 400000) (disch := omega) only [push_cast, ↓reduceIte, reduceCtorEq, Nat.reduceAdd, Nat.reduceSub, Nat.reduceEqDiff, Nat.reduceLeDiff, Nat.reduceLT, Nat.reduceBEq, Nat.reduceDiv, Nat.reduceMod, Nat.reducePow, Nat.reduceMul, Int.reduceToNat, Int.reduceLT, Int.reduceLE]) | refine And.intro (by omega) ?_ | refine And.intro (by intro hq; (try simp only [Bool.and_eq_true, Bool.or_eq_true, Bool.and_eq_false_iff, Bool.or_eq_false_iff, decide_eq_true_eq, decide_eq_false_iff_not, Bool.not_eq_true', Bool.not_eq_false', beq_iff_eq, beq_eq_false_iff_ne, ne_eq] at hq); omega) ?_ | (refine CallC.now (c) ?_; simp (maxSteps := 400000) (disch := omega) only [push_cast, ↓reduceIte, reduceCtorEq, Nat.reduceAdd, Nat.reduceSub, Nat.reduceEqDiff, Nat.reduceLeDiff, Nat.reduceLT, Nat.reduceBEq, Nat.reduceDiv, Nat.reduceMod, Nat.reducePow, Nat.reduceMul, Int.reduceToNat, Int.reduceLT, Int.reduceLE]) | fail)
  exact W_ret ⟨[_], ⟨rfl, rfl⟩, rfl⟩
end Go.Proofs.Ytfkjdjlcaojedaa

/- The long division: the plain law. -/
namespace Go.Proofs.Ytfkjdjlcaojedaa
open Go Sy
set_option maxRecDepth 100000
set_option linter.unusedVariables false
/-- half of the division: a divisor of 64 bits, the upper part of what is divided, the next digit -/
structure Half (Y u d : Int) : Prop where
  y : 9223372036854775808 ≤ Y ∧ Y < 18446744073709551616
  u : 0 ≤ u ∧ u < Y
  d : 0 ≤ d ∧ d < 4294967296
def Half.q (Y u d : Int) : Int := (u * 4294967296 + d) / Y
theorem split_Y (Y q : Int) : q * Y = (q * (Y / 4294967296)) * 4294967296 + q * (Y % 4294967296) := by
  have h : Y = Y / 4294967296 * 4294967296 + Y % 4294967296 := by omega
  rw [Int.mul_assoc, ← Int.mul_add, ← h]
theorem Half.no {Y u d q r : Int} (h : Half Y u d) (e : q * (Y / 4294967296) + r = u) (hc : q * (Y % 4294967296) ≤ 4294967296 * r + d) : q ≤ Half.q Y u d := by
  unfold Half.q
  have := h.y
  rw [Int.le_ediv_iff_mul_le (by omega), split_Y Y q]
  omega
theorem Half.yes {Y u d q r : Int} (h : Half Y u d) (e : q * (Y / 4294967296) + r = u) (hc : 4294967296 * r + d < q * (Y % 4294967296)) : Half.q Y u d < q := by
  unfold Half.q
  have := h.y
  rw [Int.ediv_lt_iff_lt_mul (by omega), split_Y Y q]
  omega
theorem Half.lt {Y u d : Int} (h : Half Y u d) : 0 ≤ Half.q Y u d ∧ Half.q Y u d < 4294967296 := by
  have h1 := h.y; have h2 := h.u; have h3 := h.d
  unfold Half.q
  constructor
  · exact Int.ediv_nonneg (by omega) (by omega)
  · rw [Int.ediv_lt_iff_lt_mul (by omega)]
    omega
theorem Half.start {Y u d : Int} (h : Half Y u d) : u / (Y / 4294967296) * (Y / 4294967296) + u % (Y / 4294967296) = u ∧ Half.q Y u d ≤ u / (Y / 4294967296) ∧ u / (Y / 4294967296) ≤ 4294967297 ∧ 0 ≤ u % (Y / 4294967296) ∧ u % (Y / 4294967296) < 4294967296 := by
  have h1 := h.y; have h2 := h.u; have h3 := h.d
  have hlt := h.lt
  have hp : 0 < Y / 4294967296 := by omega
  have e := Int.ediv_mul_add_emod u (Y / 4294967296)
  have e1 := Int.emod_nonneg u (Int.ne_of_gt hp)
  have e2 := Int.emod_lt_of_pos u hp
  refine ⟨e, ?_, ?_, e1, by omega⟩
  · rw [Int.le_ediv_iff_mul_le hp]
    have h4 : Half.q Y u d * Y ≤ u * 4294967296 + d := Int.ediv_mul_le _ (by omega)
    rw [split_Y Y (Half.q Y u d)] at h4
    have h5 : 0 ≤ Half.q Y u d * (Y % 4294967296) := Int.mul_nonneg hlt.1 (by omega)
    omega
  · have h4 : u / (Y / 4294967296) < 4294967298 := by
      rw [Int.ediv_lt_iff_lt_mul hp]
      omega
    omega
/-- one step of the loop -/
theorem Half.step {Y u d q r : Int} (h : Half Y u d) (e : q * (Y / 4294967296) + r = u) (hq : Half.q Y u d ≤ q) (hc : 4294967296 ≤ q ∨ 4294967296 * r + d < q * (Y % 4294967296)) : (q - 1) * (Y / 4294967296) + (r + Y / 4294967296) = u ∧ Half.q Y u d ≤ q - 1 := by
  have hlt := h.lt
  refine ⟨by rw [Int.sub_mul, Int.one_mul]; omega, ?_⟩
  rcases hc with hc | hc
  · omega
  · have := h.yes e hc; omega
theorem Half.break {Y u d q r : Int} (h : Half Y u d) (e : q * (Y / 4294967296) + r = u) (hq : Half.q Y u d ≤ q) (hb : q ≤ 4294967296) (hr : 4294967296 ≤ r) : q = Half.q Y u d := by
  have h1 := h.y; have h2 := h.u; have h3 := h.d
  have hlt := h.lt
  have m : q * (Y % 4294967296) ≤ 4294967296 * 4294967295 := Int.mul_le_mul hb (by omega) (by omega) (by omega)
  have := h.no e (by omega)
  omega
theorem Half.stop {Y u d q r : Int} (h : Half Y u d) (e : q * (Y / 4294967296) + r = u) (hq : Half.q Y u d ≤ q) (hc : q * (Y % 4294967296) ≤ 4294967296 * r + d) : q = Half.q Y u d := by
  have := h.no e hc
  omega
/-- what is left -/
def Half.r (Y u d : Int) : Int := u * 4294967296 + d - Half.q Y u d * Y
theorem Half.r_lt {Y u d : Int} (h : Half Y u d) : 0 ≤ Half.r Y u d ∧ Half.r Y u d < Y := by
  have h1 := h.y
  have e := Int.ediv_mul_add_emod (u * 4294967296 + d) Y
  have e1 := Int.emod_nonneg (u * 4294967296 + d) (show Y ≠ 0 by omega)
  have e2 := Int.emod_lt_of_pos (u * 4294967296 + d) (show 0 < Y by omega)
  unfold Half.r Half.q
  omega
/-- both halves -/
theorem long_div {y P N u d1 d0 : Int} (hy : 0 < y) (hP : 0 < P) (e : N * P = u * 18446744073709551616 + d1 * 4294967296 + d0) (h : Half (y * P) u d1) (h0 : Half (y * P) (Half.r (y * P) u d1) d0) :
    Half.q (y * P) u d1 * 4294967296 + Half.q (y * P) (Half.r (y * P) u d1) d0 = N / y ∧ Half.r (y * P) (Half.r (y * P) u d1) d0 / P = N % y := by
  have hr := h0.r_lt
  have e1 : Half.r (y * P) u d1 = u * 4294967296 + d1 - Half.q (y * P) u d1 * (y * P) := rfl
  have e2 : Half.r (y * P) (Half.r (y * P) u d1) d0 = Half.r (y * P) u d1 * 4294967296 + d0 - Half.q (y * P) (Half.r (y * P) u d1) d0 * (y * P) := rfl
  generalize hR0 : Half.r (y * P) (Half.r (y * P) u d1) d0 = R0 at *
  generalize hR1 : Half.r (y * P) u d1 = R1 at *
  generalize hq1 : Half.q (y * P) u d1 = q1 at *
  generalize hq0 : Half.q (y * P) R1 d0 = q0 at *
  have e3 : (q1 * 4294967296 + q0) * (y * P) = q1 * (y * P) * 4294967296 + q0 * (y * P) := by
    rw [Int.add_mul, Int.mul_assoc, Int.mul_comm 4294967296, ← Int.mul_assoc]
  have e4 : R0 = (N - (q1 * 4294967296 + q0) * y) * P := by
    rw [Int.sub_mul, Int.mul_assoc, e3]
    omega
  have e5 : R0 / P = N - (q1 * 4294967296 + q0) * y := by
    rw [e4, Int.mul_ediv_cancel _ (Int.ne_of_gt hP)]
  have e6 : 0 ≤ N - (q1 * 4294967296 + q0) * y := by
    rw [e4] at hr
    exact Int.nonneg_of_mul_nonneg_left hr.1 hP
  have e7 : N - (q1 * 4294967296 + q0) * y < y := by
    rw [e4] at hr
    exact Int.lt_of_mul_lt_mul_right hr.2 (Int.le_of_lt hP)
  have e8 : N / y = q1 * 4294967296 + q0 := by
    have h1 : q1 * 4294967296 + q0 ≤ N / y := by rw [Int.le_ediv_iff_mul_le hy]; omega
    have h2 : N / y < q1 * 4294967296 + q0 + 1 := by rw [Int.ediv_lt_iff_lt_mul hy, Int.add_mul]; omega
    omega
  refine ⟨e8.symm, ?_⟩
  rw [e5, Int.emod_def, e8, Int.mul_comm]
/-- the shift to a divisor of 64 bits -/
theorem shift_up {y : Int} {n : Nat} (h : Bits y n) (hn : n ≤ 64) : 9223372036854775808 ≤ y * 2 ^ (64 - n) ∧ y * 2 ^ (64 - n) < 18446744073709551616 := by
  obtain ⟨h1, h2⟩ := h
  have hk : (0 : Int) < 2 ^ (64 - n) := Int.pow_pos (by omega)
  have e : (2 : Int) ^ n * 2 ^ (64 - n) = 18446744073709551616 := by
    rw [← Int.pow_add, show n + (64 - n) = 64 by omega]; rfl
  have m1 := Int.mul_le_mul_of_nonneg_right h1 (Int.le_of_lt hk)
  have m2 := Int.mul_lt_mul_of_pos_right h2 hk
  rw [Int.mul_assoc] at m1
  omega
theorem shift_parts {hi lo y : Int} {n : Nat} (hn : n ≤ 64) (h : 0 ≤ hi ∧ hi < y) (hl : 0 ≤ lo ∧ lo < 18446744073709551616) :
    (hi * 18446744073709551616 + lo) * 2 ^ (64 - n) = (hi * 2 ^ (64 - n) + lo / 2 ^ n) * 18446744073709551616 + lo * 2 ^ (64 - n) % 18446744073709551616 ∧
    0 ≤ hi * 2 ^ (64 - n) + lo / 2 ^ n ∧ hi * 2 ^ (64 - n) + lo / 2 ^ n < y * 2 ^ (64 - n) ∧ 0 ≤ lo / 2 ^ n ∧ lo / 2 ^ n < 2 ^ (64 - n) := by
  have hk : (0 : Int) < 2 ^ (64 - n) := Int.pow_pos (by omega)
  have hk2 : (0 : Int) < 2 ^ n := Int.pow_pos (by omega)
  have e : (2 : Int) ^ n * 2 ^ (64 - n) = 18446744073709551616 := by
    rw [← Int.pow_add, show n + (64 - n) = 64 by omega]; rfl
  have e2 : lo * 2 ^ (64 - n) / 18446744073709551616 = lo / 2 ^ n := by
    rw [← e]; exact Int.mul_ediv_mul_of_pos_left _ _ hk
  have h1 : 0 ≤ lo / 2 ^ n := Int.ediv_nonneg hl.1 (Int.le_of_lt hk2)
  have h2 : lo / 2 ^ n < 2 ^ (64 - n) := by
    rw [Int.ediv_lt_iff_lt_mul hk2, Int.mul_comm, e]; exact hl.2
  have h3 : 0 ≤ hi * 2 ^ (64 - n) := Int.mul_nonneg h.1 (Int.le_of_lt hk)
  have h4 := Int.mul_le_mul_of_nonneg_right (show hi + 1 ≤ y by omega) (Int.le_of_lt hk)
  rw [Int.add_mul, Int.one_mul] at h4
  refine ⟨?_, by omega, by omega, h1, h2⟩
  rw [Int.add_mul, Int.mul_assoc, Int.mul_comm 18446744073709551616, ← Int.mul_assoc]
  omega
/-- a sum without a carry -/
theorem or_add {a b : Int} {k : Nat} (ha : 0 ≤ a) (hb : 0 ≤ b) (hlt : b < 2 ^ k) (h : a * 2 ^ k + b < 18446744073709551616) : bits .or .u64 (a * 2 ^ k) b = a * 2 ^ k + b := by
  obtain ⟨x, rfl⟩ : ∃ x : Nat, a = x := ⟨a.toNat, by omega⟩
  obtain ⟨y, rfl⟩ : ∃ y : Nat, b = y := ⟨b.toNat, by omega⟩
  have e : (x : Int) * 2 ^ k = ((x * 2 ^ k : Nat) : Int) := by rw [Int.natCast_mul, Int.natCast_pow]; rfl
  have hl : y < 2 ^ k := by
    have : ((2 ^ k : Nat) : Int) = (2 : Int) ^ k := Int.natCast_pow 2 k
    omega
  rw [e] at h ⊢
  rw [bits_or_u64_nat _ _ (by omega) (by omega), ← Nat.shiftLeft_eq, ← Nat.shiftLeft_add_eq_or_of_lt hl]
  omega
end Go.Proofs.Ytfkjdjlcaojedaa

/- The long division: the walk. -/
namespace Go.Proofs.Ytfkjdjlcaojedaa
open Go Sy
set_option maxRecDepth 100000
set_option maxHeartbeats 4000000
set_option linter.unusedVariables false
set_option linter.unusedSimpArgs false
theorem wrapU {x : Int} (h : 0 ≤ x ∧ x < 18446744073709551616) : IntKind.u64.wrap x = x := by rw [IntKind.wrap_u64]; omega
theorem maskI {a : Int} (h : 0 ≤ a ∧ a < 18446744073709551616) : bits .and .u64 a 4294967295 = a % 4294967296 := by
  obtain ⟨n, rfl⟩ : ∃ n : Nat, a = n := ⟨a.toNat, by omega⟩
  rw [maskN n (by omega)]; omega
theorem wrap_rem {a b c r : Int} (h : a + b - c = r) (hr : 0 ≤ r ∧ r < 18446744073709551616) : IntKind.u64.wrap (IntKind.u64.wrap (IntKind.u64.wrap a + b) - IntKind.u64.wrap c) = r := by
  simp only [IntKind.wrap_u64]; omega
theorem fn144 (hi lo y : Int) (h : 0 ≤ hi ∧ hi < y) (hl : 0 ≤ lo ∧ lo < 18446744073709551616) (hy : y < 18446744073709551616) : Sy.Fn Try.prog 144 [uw hi, uw lo, uw y] (.tup [uw ((hi * 18446744073709551616 + lo) / y), uw ((hi * 18446744073709551616 + lo) % y)]) := by
  refine Fn_of_W mixed Xt144 rfl ?_
  obtain ⟨n, hn, hb, c⟩ := fn150 y (by omega) hy
  have hsu := shift_up hb hn
  obtain ⟨hp1, hp2, hp3, hp4, hp5⟩ := shift_parts hn h hl
  repeat' (first | refine WK_go ?_ | refine W_seqL ?_ | refine W_seq ?_ | (refine W_regL ?_; simp (maxSteps := 400000) (disch := omega) only [push_cast, ↓reduceIte, reduceCtorEq, Nat.reduceAdd, Nat.reduceSub, Nat.reduceEqDiff, Nat.reduceLeDiff, Nat.reduceLT, Nat.reduceBEq, Nat.reduceDiv, Nat.reduceMod, Nat.reducePow, Nat.reduceMul, Int.reduceToNat, Int.reduceLT, Int.reduceLE]) | refine W_block ?_ | (refine W_skip ?_; simp (maxSteps := 400000) (disch := omega) only [push_cast, ↓reduceIte, reduceCtorEq, Nat.reduceAdd, Nat.reduceSub, Nat.reduceEqDiff, Nat.reduceLeDiff, Nat.reduceLT, Nat.reduceBEq, Nat.reduceDiv, Nat.reduceMod, Nat.reducePow, Nat.reduceMul, Int.reduceToNat, Int.reduceLT, Int.reduceLE]) | (refine W_exit ?_; simp (maxSteps := 400000) (disch := omega) only [push_cast, ↓reduceIte, reduceCtorEq, Nat.reduceAdd, Nat.reduceSub, Nat.reduceEqDiff, Nat.reduceLeDiff, Nat.reduceLT, Nat.reduceBEq, Nat.reduceDiv, Nat.reduceMod, Nat.reducePow, Nat.reduceMul, Int.reduceToNat, Int.reduceLT, Int.reduceLE]) | refine And.intro (by omega) ?_ | refine And.intro (by intro hq; (try simp only [Bool.and_eq_true, Bool.or_eq_true, Bool.and_eq_false_iff, Bool.or_eq_false_iff, decide_eq_true_eq, decide_eq_false_iff_not, Bool.not_eq_true', Bool.not_eq_false', beq_iff_eq, beq_eq_false_iff_ne, ne_eq] at hq); omega) ?_ | fail)
  refine W_cond (by rfl) (fun h1 => by rw [beq_iff_eq] at h1; omega) (fun _ => ?_)
  repeat' (first | refine WK_go ?_ | refine W_seqL ?_ | refine W_seq ?_ | (refine W_regL ?_; simp (maxSteps := 400000) (disch := omega) only [push_cast, ↓reduceIte, reduceCtorEq, Nat.reduceAdd, Nat.reduceSub, Nat.reduceEqDiff, Nat.reduceLeDiff, Nat.reduceLT, Nat.reduceBEq, Nat.reduceDiv, Nat.reduceMod, Nat.reducePow, Nat.reduceMul, Int.reduceToNat, Int.reduceLT, Int.reduceLE]) | refine W_block ?_ | (refine W_skip ?_; simp (maxSteps := 400000) (disch := omega) only [push_cast, ↓reduceIte, reduceCtorEq, Nat.reduceAdd, Nat.reduceSub, Nat.reduceEqDiff, Nat.reduceLeDiff, Nat.reduceLT, Nat.reduceBEq, Nat.reduceDiv, Nat.reduceMod, Nat.reducePow, Nat.reduceMul, Int.reduceToNat, Int.reduceLT, Int.reduceLE]) | (refine W_exit ?_; simp (maxSteps := 400000) (disch := omega) only [push_cast, ↓reduceIte, reduceCtorEq, Nat.reduceAdd, Nat.reduceSub, Nat.reduceEqDiff, Nat.reduceLeDiff, Nat.reduceLT, Nat.reduceBEq, Nat.reduceDiv, Nat.reduceMod, Nat.reducePow, Nat.reduceMul, Int.reduceToNat, Int.reduceLT, Int.reduceLE]) | refine And.intro (by omega) ?_ | refine And.intro (by intro hq; (try simp only [Bool.and_eq_true, Bool.or_eq_true, Bool.and_eq_false_iff, Bool.or_eq_false_iff, decide_eq_true_eq, decide_eq_false_iff_not, Bool.not_eq_true', Bool.not_eq_false', beq_iff_eq, beq_eq_false_iff_ne, ne_eq] at hq); omega) ?_ | fail)
  refine W_condD (by rfl) (fun h1 => by omega) (fun _ => ?_)
  repeat' (first | refine WK_go ?_ | refine W_seqL ?_ | refine W_seq ?_ | (refine W_regL ?_; simp (maxSteps := 400000) (disch := omega) only [push_cast, ↓reduceIte, reduceCtorEq, Nat.reduceAdd, Nat.reduceSub, Nat.reduceEqDiff, Nat.reduceLeDiff, Nat.reduceLT, Nat.reduceBEq, Nat.reduceDiv, Nat.reduceMod, Nat.reducePow, Nat.reduceMul, Int.reduceToNat, Int.reduceLT, Int.reduceLE]) | refine W_block ?_ | (refine W_skip ?_; simp (maxSteps := 400000) (disch := omega) only [push_cast, ↓reduceIte, reduceCtorEq, Nat.reduceAdd, Nat.reduceSub, Nat.reduceEqDiff, Nat.reduceLeDiff, Nat.reduceLT, Nat.reduceBEq, Nat.reduceDiv, Nat.reduceMod, Nat.reducePow, Nat.reduceMul, Int.reduceToNat, Int.reduceLT, Int.reduceLE]) | (refine W_exit ?_; simp (maxSteps := 400000) (disch := omega) only [push_cast, ↓reduceIte, reduceCtorEq, Nat.reduceAdd, Nat.reduceSub, Nat.reduceEqDiff, Nat.reduceLeDiff, Nat.reduceLT, Nat.reduceBEq, Nat.reduceDiv, Nat.reduceMod, Nat.reducePow, Nat.reduceMul, Int.reduceToNat, Int.reduceLT, Int.reduceLE]) | refine And.intro (by omega) ?_ | refine And.intro (by intro hq; (try simp only [Bool.and_eq_true, Bool.or_eq_true, Bool.and_eq_false_iff, Bool.or_eq_false_iff, decide_eq_true_eq, decide_eq_false_iff_not, Bool.not_eq_true', Bool.not_eq_false', beq_iff_eq, beq_eq_false_iff_ne, ne_eq] at hq); omega) ?_ | fail)
  refine W_cond (by rfl) (fun h1 => ?_) (fun h1 => ?_)
  · rw [beq_iff_eq] at h1
    subst h1
    have e1 := Int.ediv_nonneg hl.1 (show 0 ≤ y by omega)
    have e2 : lo / y ≤ lo := Int.ediv_le_self _ hl.1
    repeat' (first | refine WK_go ?_ | refine W_seqL ?_ | refine W_seq ?_ | (refine W_regL ?_; simp (maxSteps := 400000) (disch := omega) only [push_cast, ↓reduceIte, reduceCtorEq, Nat.reduceAdd, Nat.reduceSub, Nat.reduceEqDiff, Nat.reduceLeDiff, Nat.reduceLT, Nat.reduceBEq, Nat.reduceDiv, Nat.reduceMod, Nat.reducePow, Nat.reduceMul, Int.reduceToNat, Int.reduceLT, Int.reduceLE, Int.tdiv_eq_ediv_of_nonneg, Int.tmod_eq_emod_of_nonneg, wrapU]) | refine W_block ?_ | (refine W_skip ?_; simp (maxSteps := 400000) (disch := omega) only [push_cast, ↓reduceIte, reduceCtorEq, Nat.reduceAdd, Nat.reduceSub, Nat.reduceEqDiff, Nat.reduceLeDiff, Nat.reduceLT, Nat.reduceBEq, Nat.reduceDiv, Nat.reduceMod, Nat.reducePow, Nat.reduceMul, Int.reduceToNat, Int.reduceLT, Int.reduceLE, Int.tdiv_eq_ediv_of_nonneg, Int.tmod_eq_emod_of_nonneg, wrapU]) | (refine W_exit ?_; simp (maxSteps := 400000) (disch := omega) only [push_cast, ↓reduceIte, reduceCtorEq, Nat.reduceAdd, Nat.reduceSub, Nat.reduceEqDiff, Nat.reduceLeDiff, Nat.reduceLT, Nat.reduceBEq, Nat.reduceDiv, Nat.reduceMod, Nat.reducePow, Nat.reduceMul, Int.reduceToNat, Int.reduceLT, Int.reduceLE, Int.tdiv_eq_ediv_of_nonneg, Int.tmod_eq_emod_of_nonneg, wrapU]) | refine And.intro (by omega) ?_ | refine And.intro (by intro hq; (try simp only [Bool.and_eq_true, Bool.or_eq_true, Bool.and_eq_false_iff, Bool.or_eq_false_iff, decide_eq_true_eq, decide_eq_false_iff_not, Bool.not_eq_true', Bool.not_eq_false', beq_iff_eq, beq_eq_false_iff_ne, ne_eq] at hq); omega) ?_ | fail)
    exact W_ret ⟨[_, _], ⟨rfl, rfl, rfl⟩, by simp; rfl⟩
  have w1 : IntKind.u64.wrap (64 - (n : Int)) = 64 - n := wrapU ⟨by omega, by omega⟩
  have w2 : min (64 - (n : Int)).toNat IntKind.u64.bits = 64 - n := by show min _ 64 = _; omega
  have w3 : min n IntKind.u64.bits = n := by show min _ 64 = _; omega
  have w4 : IntKind.u64.wrap (n : Int) = n := wrapU ⟨by omega, by omega⟩
  have hk : (0 : Int) < 2 ^ (64 - n) := Int.pow_pos (by omega)
  have hh : 0 ≤ hi * 2 ^ (64 - n) := Int.mul_nonneg h.1 (Int.le_of_lt hk)
  have w5 : IntKind.u64.wrap (64 - (64 - (n : Int))) = n := by rw [show 64 - (64 - (n : Int)) = n by omega]; exact w4
  have w6 : IntKind.u64.wrap (y * 2 ^ (64 - n)) = y * 2 ^ (64 - n) := wrapU (by omega)
  have w7 : IntKind.u64.wrap (hi * 2 ^ (64 - n)) = hi * 2 ^ (64 - n) := wrapU (by omega)
  have w8 : lo.fdiv (2 ^ n) = lo / 2 ^ n := Int.fdiv_eq_ediv_of_nonneg _ (Int.le_of_lt (Int.pow_pos (by omega)))
  have w9 := or_add (a := hi) (b := lo / 2 ^ n) (k := 64 - n) h.1 hp4 hp5 (by omega)
  have w10 : IntKind.u64.wrap (lo * 2 ^ (64 - n)) = lo * 2 ^ (64 - n) % 18446744073709551616 := IntKind.wrap_u64 _
  have wm := maskI (a := y * 2 ^ (64 - n)) (by omega)
  have wm2 := maskI (a := lo * 2 ^ (64 - n) % 18446744073709551616) (by omega)
  have hld := fun d1 d0 => long_div (y := y) (P := 2 ^ (64 - n)) (N := hi * 18446744073709551616 + lo) (u := hi * 2 ^ (64 - n) + lo / 2 ^ n) (d1 := d1) (d0 := d0) (by omega) hk
  repeat' (first | refine WK_go ?_ | refine W_seqL ?_ | refine W_seq ?_ | (refine W_regL ?_; simp (maxSteps := 400000) (disch := omega) only [push_cast, ↓reduceIte, reduceCtorEq, Nat.reduceAdd, Nat.reduceSub, Nat.reduceEqDiff, Nat.reduceLeDiff, Nat.reduceLT, Nat.reduceBEq, Nat.reduceDiv, Nat.reduceMod, Nat.reducePow, Nat.reduceMul, Int.reduceToNat, Int.reduceLT, Int.reduceLE, w1, w2, w3, w4, w5, w6, w7, w8, w9, w10, wm, wm2, shr32]) | refine W_block ?_ | (refine W_skip ?_; simp (maxSteps := 400000) (disch := omega) only [push_cast, ↓reduceIte, reduceCtorEq, Nat.reduceAdd, Nat.reduceSub, Nat.reduceEqDiff, Nat.reduceLeDiff, Nat.reduceLT, Nat.reduceBEq, Nat.reduceDiv, Nat.reduceMod, Nat.reducePow, Nat.reduceMul, Int.reduceToNat, Int.reduceLT, Int.reduceLE, w1, w2, w3, w4, w5, w6, w7, w8, w9, w10, wm, wm2, shr32]) | (refine W_exit ?_; simp (maxSteps := 400000) (disch := omega) only [push_cast, ↓reduceIte, reduceCtorEq, Nat.reduceAdd, Nat.reduceSub, Nat.reduceEqDiff, Nat.reduceLeDiff, Nat.reduceLT, Nat.reduceBEq, Nat.reduceDiv, Nat.reduceMod, Nat.reducePow, Nat.reduceMul, Int.reduceToNat, Int.reduceLT, Int.reduceLE, w1, w2, w3, w4, w5, w6, w7, w8, w9, w10, wm, wm2, shr32]) | refine And.intro (by omega) ?_ | refine And.intro (by intro hq; (try simp only [Bool.and_eq_true, Bool.or_eq_true, Bool.and_eq_false_iff, Bool.or_eq_false_iff, decide_eq_true_eq, decide_eq_false_iff_not, Bool.not_eq_true', Bool.not_eq_false', beq_iff_eq, beq_eq_false_iff_ne, ne_eq] at hq); omega) ?_ | (refine CallC.now (c) ?_; simp (maxSteps := 400000) (disch := omega) only [push_cast, ↓reduceIte, reduceCtorEq, Nat.reduceAdd, Nat.reduceSub, Nat.reduceEqDiff, Nat.reduceLeDiff, Nat.reduceLT, Nat.reduceBEq, Nat.reduceDiv, Nat.reduceMod, Nat.reducePow, Nat.reduceMul, Int.reduceToNat, Int.reduceLT, Int.reduceLE, w1, w2, w3, w4, w5, w6, w7, w8, w9, w10, wm, wm2, shr32]) | fail)
  generalize hD : y * 2 ^ (64 - n) = Y at *
  generalize hU : hi * 2 ^ (64 - n) + lo / 2 ^ n = u at *
  generalize hE : lo * 2 ^ (64 - n) % 18446744073709551616 = e at *
  have heb : 0 ≤ e ∧ e < 18446744073709551616 := by subst hE; omega
  have H1 : Half Y u (e / 4294967296) := ⟨hsu, ⟨hp2, hp3⟩, by omega⟩
  obtain ⟨s1, s2, s3, s4, s5⟩ := H1.start
  have v1 : u.tdiv (Y / 4294967296) = u / (Y / 4294967296) := Int.tdiv_eq_ediv_of_nonneg hp2
  have s0 : 0 ≤ u / (Y / 4294967296) := Int.ediv_nonneg hp2 (by omega)
  have v2 : IntKind.u64.wrap (u / (Y / 4294967296)) = u / (Y / 4294967296) := wrapU (by omega)
  have s00 : 0 ≤ u / (Y / 4294967296) * (Y / 4294967296) := Int.mul_nonneg s0 (by omega)
  have v3 : IntKind.u64.wrap (u / (Y / 4294967296) * (Y / 4294967296)) = u / (Y / 4294967296) * (Y / 4294967296) := wrapU (by omega)
  have v4 : IntKind.u64.wrap (u - u / (Y / 4294967296) * (Y / 4294967296)) = u % (Y / 4294967296) := by
    rw [show u - u / (Y / 4294967296) * (Y / 4294967296) = u % (Y / 4294967296) by omega]; exact wrapU (by omega)
  rw [v1, v2, v3, v4]
  generalize hq0 : u / (Y / 4294967296) = q0 at *
  generalize hr0 : u % (Y / 4294967296) = r0 at *
  generalize hQ : Half.q Y u (e / 4294967296) = Q1 at *
  have wd : 0 ≤ e / 4294967296 ∧ e / 4294967296 < 4294967296 := by omega
  have we : 0 ≤ e % 4294967296 ∧ e % 4294967296 < 4294967296 := by omega
  have hQb := H1.lt
  refine W_meetB [(15, uw Q1)] [] ?_ ?_
  · refine W_loopU (fun p : Int × Int => [(15, uw p.1), (16, uw p.2)]) (fun i => []) (fun p => p.1 * (Y / 4294967296) + p.2 = u ∧ Q1 ≤ p.1 ∧ p.1 ≤ 4294967297 ∧ 0 ≤ p.2 ∧ p.2 < 4294967296) (fun p => p.1.toNat) (q0, r0) ⟨s1, s2, s3, s4, s5⟩ (by rfl) (by rfl) (fun p hp => ?_)
    obtain ⟨q, r⟩ := p
    obtain ⟨i1, i2, i3, i4, i5⟩ := hp
    simp only at i1 i2 i3 i4 i5
    have m0 : 0 ≤ q * (Y % 4294967296) := Int.mul_nonneg (by omega) (by omega)
    have v5 : IntKind.u64.wrap (4294967296 * r) = 4294967296 * r := wrapU (by omega)
    have v6 : IntKind.u64.wrap (4294967296 * r + e / 4294967296) = 4294967296 * r + e / 4294967296 := wrapU (by omega)
    have m1 : q < 4294967296 → q * (Y % 4294967296) ≤ 4294967295 * 4294967295 := fun hq => Int.mul_le_mul (by omega) (by omega) (by omega) (by omega)
    have v7 : q < 4294967296 → IntKind.u64.wrap (q * (Y % 4294967296)) = q * (Y % 4294967296) := fun hq => wrapU ⟨m0, by have := m1 hq; omega⟩
    simp (maxSteps := 400000) (disch := omega) only [push_cast, ↓reduceIte, reduceCtorEq, Nat.reduceAdd, Nat.reduceSub, Nat.reduceEqDiff, Nat.reduceLeDiff, Nat.reduceLT, Nat.reduceBEq, Nat.reduceDiv, Nat.reduceMod, Nat.reducePow, Nat.reduceMul, Int.reduceToNat, Int.reduceLT, Int.reduceLE]
    repeat' (first | refine WK_go ?_ | refine W_seqL ?_ | refine W_seq ?_ | (refine W_regL ?_; simp (maxSteps := 400000) (disch := omega) only [push_cast, ↓reduceIte, reduceCtorEq, Nat.reduceAdd, Nat.reduceSub, Nat.reduceEqDiff, Nat.reduceLeDiff, Nat.reduceLT, Nat.reduceBEq, Nat.reduceDiv, Nat.reduceMod, Nat.reducePow, Nat.reduceMul, Int.reduceToNat, Int.reduceLT, Int.reduceLE, v5, v6]) | refine W_block ?_ | (refine W_skip ?_; simp (maxSteps := 400000) (disch := omega) only [push_cast, ↓reduceIte, reduceCtorEq, Nat.reduceAdd, Nat.reduceSub, Nat.reduceEqDiff, Nat.reduceLeDiff, Nat.reduceLT, Nat.reduceBEq, Nat.reduceDiv, Nat.reduceMod, Nat.reducePow, Nat.reduceMul, Int.reduceToNat, Int.reduceLT, Int.reduceLE, v5, v6]) | (refine W_exit ?_; simp (maxSteps := 400000) (disch := omega) only [push_cast, ↓reduceIte, reduceCtorEq, Nat.reduceAdd, Nat.reduceSub, Nat.reduceEqDiff, Nat.reduceLeDiff, Nat.reduceLT, Nat.reduceBEq, Nat.reduceDiv, Nat.reduceMod, Nat.reducePow, Nat.reduceMul, Int.reduceToNat, Int.reduceLT, Int.reduceLE, v5, v6]) | refine And.intro (by omega) ?_ | refine And.intro (by intro hq; (try simp only [Bool.and_eq_true, Bool.or_eq_true, Bool.and_eq_false_iff, Bool.or_eq_false_iff, decide_eq_true_eq, decide_eq_false_iff_not, Bool.not_eq_true', Bool.not_eq_false', beq_iff_eq, beq_eq_false_iff_ne, ne_eq] at hq); omega) ?_ | fail)
    refine W_cond (by rfl) (fun hb => ?_) (fun hb => ?_)
    · have hc : 4294967296 ≤ q ∨ 4294967296 * r + e / 4294967296 < q * (Y % 4294967296) := by
        rw [Bool.or_eq_true, decide_eq_true_eq, decide_eq_true_eq] at hb
        by_cases hq : 4294967296 ≤ q
        · exact .inl hq
        · rw [v7 (by omega)] at hb
          exact .inr (hb.resolve_left hq)
      obtain ⟨t1, t2⟩ := H1.step i1 (by rw [hQ]; exact i2) hc
      rw [hQ] at t2
      have v8 : IntKind.u64.wrap (q - 1) = q - 1 := wrapU (by omega)
      have v9 : IntKind.u64.wrap (r + Y / 4294967296) = r + Y / 4294967296 := wrapU (by omega)
      repeat' (first | refine WK_go ?_ | refine W_seqL ?_ | refine W_seq ?_ | (refine W_regL ?_; simp (maxSteps := 400000) (disch := omega) only [push_cast, ↓reduceIte, reduceCtorEq, Nat.reduceAdd, Nat.reduceSub, Nat.reduceEqDiff, Nat.reduceLeDiff, Nat.reduceLT, Nat.reduceBEq, Nat.reduceDiv, Nat.reduceMod, Nat.reducePow, Nat.reduceMul, Int.reduceToNat, Int.reduceLT, Int.reduceLE, v8, v9]) | refine W_block ?_ | (refine W_skip ?_; simp (maxSteps := 400000) (disch := omega) only [push_cast, ↓reduceIte, reduceCtorEq, Nat.reduceAdd, Nat.reduceSub, Nat.reduceEqDiff, Nat.reduceLeDiff, Nat.reduceLT, Nat.reduceBEq, Nat.reduceDiv, Nat.reduceMod, Nat.reducePow, Nat.reduceMul, Int.reduceToNat, Int.reduceLT, Int.reduceLE, v8, v9]) | (refine W_exit ?_; simp (maxSteps := 400000) (disch := omega) only [push_cast, ↓reduceIte, reduceCtorEq, Nat.reduceAdd, Nat.reduceSub, Nat.reduceEqDiff, Nat.reduceLeDiff, Nat.reduceLT, Nat.reduceBEq, Nat.reduceDiv, Nat.reduceMod, Nat.reducePow, Nat.reduceMul, Int.reduceToNat, Int.reduceLT, Int.reduceLE, v8, v9]) | refine And.intro (by omega) ?_ | refine And.intro (by intro hq; (try simp only [Bool.and_eq_true, Bool.or_eq_true, Bool.and_eq_false_iff, Bool.or_eq_false_iff, decide_eq_true_eq, decide_eq_false_iff_not, Bool.not_eq_true', Bool.not_eq_false', beq_iff_eq, beq_eq_false_iff_ne, ne_eq] at hq); omega) ?_ | fail)
      refine W_condD (by rfl) (fun hr => ?_) (fun hr => ?_)
      · have hbr := H1.break t1 (by rw [hQ]; exact t2) (by omega) hr
        rw [hQ] at hbr
        repeat' (first | refine WK_go ?_ | refine W_seqL ?_ | refine W_seq ?_ | (refine W_regL ?_; simp (maxSteps := 400000) (disch := omega) only [push_cast, ↓reduceIte, reduceCtorEq, Nat.reduceAdd, Nat.reduceSub, Nat.reduceEqDiff, Nat.reduceLeDiff, Nat.reduceLT, Nat.reduceBEq, Nat.reduceDiv, Nat.reduceMod, Nat.reducePow, Nat.reduceMul, Int.reduceToNat, Int.reduceLT, Int.reduceLE]) | refine W_block ?_ | (refine W_skip ?_; simp (maxSteps := 400000) (disch := omega) only [push_cast, ↓reduceIte, reduceCtorEq, Nat.reduceAdd, Nat.reduceSub, Nat.reduceEqDiff, Nat.reduceLeDiff, Nat.reduceLT, Nat.reduceBEq, Nat.reduceDiv, Nat.reduceMod, Nat.reducePow, Nat.reduceMul, Int.reduceToNat, Int.reduceLT, Int.reduceLE]) | (refine W_exit ?_; simp (maxSteps := 400000) (disch := omega) only [push_cast, ↓reduceIte, reduceCtorEq, Nat.reduceAdd, Nat.reduceSub, Nat.reduceEqDiff, Nat.reduceLeDiff, Nat.reduceLT, Nat.reduceBEq, Nat.reduceDiv, Nat.reduceMod, Nat.reducePow, Nat.reduceMul, Int.reduceToNat, Int.reduceLT, Int.reduceLE]) | refine And.intro (by omega) ?_ | refine And.intro (by intro hq; (try simp only [Bool.and_eq_true, Bool.or_eq_true, Bool.and_eq_false_iff, Bool.or_eq_false_iff, decide_eq_true_eq, decide_eq_false_iff_not, Bool.not_eq_true', Bool.not_eq_false', beq_iff_eq, beq_eq_false_iff_ne, ne_eq] at hq); omega) ?_ | fail)
        refine ⟨by rfl, ?_⟩
        simp (maxSteps := 400000) (disch := omega) only [push_cast, ↓reduceIte, reduceCtorEq, Nat.reduceAdd, Nat.reduceSub, Nat.reduceEqDiff, Nat.reduceLeDiff, Nat.reduceLT, Nat.reduceBEq, Nat.reduceDiv, Nat.reduceMod, Nat.reducePow, Nat.reduceMul, Int.reduceToNat, Int.reduceLT, Int.reduceLE, S.mk.injEq, List.cons.injEq, Prod.mk.injEq, AV.v.injEq, Value.int.injEq, Value.bool.injEq, Blk.cells.injEq, hbr]
      · repeat' (first | refine WK_go ?_ | refine W_seqL ?_ | refine W_seq ?_ | (refine W_regL ?_; simp (maxSteps := 400000) (disch := omega) only [push_cast, ↓reduceIte, reduceCtorEq, Nat.reduceAdd, Nat.reduceSub, Nat.reduceEqDiff, Nat.reduceLeDiff, Nat.reduceLT, Nat.reduceBEq, Nat.reduceDiv, Nat.reduceMod, Nat.reducePow, Nat.reduceMul, Int.reduceToNat, Int.reduceLT, Int.reduceLE]) | refine W_block ?_ | (refine W_skip ?_; simp (maxSteps := 400000) (disch := omega) only [push_cast, ↓reduceIte, reduceCtorEq, Nat.reduceAdd, Nat.reduceSub, Nat.reduceEqDiff, Nat.reduceLeDiff, Nat.reduceLT, Nat.reduceBEq, Nat.reduceDiv, Nat.reduceMod, Nat.reducePow, Nat.reduceMul, Int.reduceToNat, Int.reduceLT, Int.reduceLE]) | (refine W_exit ?_; simp (maxSteps := 400000) (disch := omega) only [push_cast, ↓reduceIte, reduceCtorEq, Nat.reduceAdd, Nat.reduceSub, Nat.reduceEqDiff, Nat.reduceLeDiff, Nat.reduceLT, Nat.reduceBEq, Nat.reduceDiv, Nat.reduceMod, Nat.reducePow, Nat.reduceMul, Int.reduceToNat, Int.reduceLT, Int.reduceLE]) | refine And.intro (by omega) ?_ | refine And.intro (by intro hq; (try simp only [Bool.and_eq_true, Bool.or_eq_true, Bool.and_eq_false_iff, Bool.or_eq_false_iff, decide_eq_true_eq, decide_eq_false_iff_not, Bool.not_eq_true', Bool.not_eq_false', beq_iff_eq, beq_eq_false_iff_ne, ne_eq] at hq); omega) ?_ | fail)
        refine ⟨(q - 1, r + Y / 4294967296), ⟨t1, t2, by simp only []; omega, by simp only []; omega, by simp only []; omega⟩, by simp only []; omega, by rfl, ?_⟩
        simp (maxSteps := 400000) (disch := omega) only [push_cast, ↓reduceIte, reduceCtorEq, Nat.reduceAdd, Nat.reduceSub, Nat.reduceEqDiff, Nat.reduceLeDiff, Nat.reduceLT, Nat.reduceBEq, Nat.reduceDiv, Nat.reduceMod, Nat.reducePow, Nat.reduceMul, Int.reduceToNat, Int.reduceLT, Int.reduceLE, S.mk.injEq, List.cons.injEq, Prod.mk.injEq, AV.v.injEq, Value.int.injEq, Value.bool.injEq, Blk.cells.injEq]
    · rw [Bool.or_eq_false_iff, decide_eq_false_iff_not, decide_eq_false_iff_not] at hb
      have hst := H1.stop i1 (by rw [hQ]; exact i2) (by rw [v7 (by omega)] at hb; omega)
      rw [hQ] at hst
      repeat' (first | refine WK_go ?_ | refine W_seqL ?_ | refine W_seq ?_ | (refine W_regL ?_; simp (maxSteps := 400000) (disch := omega) only [push_cast, ↓reduceIte, reduceCtorEq, Nat.reduceAdd, Nat.reduceSub, Nat.reduceEqDiff, Nat.reduceLeDiff, Nat.reduceLT, Nat.reduceBEq, Nat.reduceDiv, Nat.reduceMod, Nat.reducePow, Nat.reduceMul, Int.reduceToNat, Int.reduceLT, Int.reduceLE]) | refine W_block ?_ | (refine W_skip ?_; simp (maxSteps := 400000) (disch := omega) only [push_cast, ↓reduceIte, reduceCtorEq, Nat.reduceAdd, Nat.reduceSub, Nat.reduceEqDiff, Nat.reduceLeDiff, Nat.reduceLT, Nat.reduceBEq, Nat.reduceDiv, Nat.reduceMod, Nat.reducePow, Nat.reduceMul, Int.reduceToNat, Int.reduceLT, Int.reduceLE]) | (refine W_exit ?_; simp (maxSteps := 400000) (disch := omega) only [push_cast, ↓reduceIte, reduceCtorEq, Nat.reduceAdd, Nat.reduceSub, Nat.reduceEqDiff, Nat.reduceLeDiff, Nat.reduceLT, Nat.reduceBEq, Nat.reduceDiv, Nat.reduceMod, Nat.reducePow, Nat.reduceMul, Int.reduceToNat, Int.reduceLT, Int.reduceLE]) | refine And.intro (by omega) ?_ | refine And.intro (by intro hq; (try simp only [Bool.and_eq_true, Bool.or_eq_true, Bool.and_eq_false_iff, Bool.or_eq_false_iff, decide_eq_true_eq, decide_eq_false_iff_not, Bool.not_eq_true', Bool.not_eq_false', beq_iff_eq, beq_eq_false_iff_ne, ne_eq] at hq); omega) ?_ | fail)
      refine ⟨by rfl, ?_⟩
      simp (maxSteps := 400000) (disch := omega) only [push_cast, ↓reduceIte, reduceCtorEq, Nat.reduceAdd, Nat.reduceSub, Nat.reduceEqDiff, Nat.reduceLeDiff, Nat.reduceLT, Nat.reduceBEq, Nat.reduceDiv, Nat.reduceMod, Nat.reducePow, Nat.reduceMul, Int.reduceToNat, Int.reduceLT, Int.reduceLE, S.mk.injEq, List.cons.injEq, Prod.mk.injEq, AV.v.injEq, Value.int.injEq, Value.bool.injEq, Blk.cells.injEq, hst]
  generalize hR : Half.r Y u (e / 4294967296) = R1 at *
  have hRb := H1.r_lt
  rw [hR] at hRb
  have H0 : Half Y R1 (e % 4294967296) := ⟨hsu, hRb, we⟩
  have hR' : u * 4294967296 + e / 4294967296 - Q1 * Y = R1 := by rw [← hR, ← hQ]; rfl
  have x1 : IntKind.u64.wrap (IntKind.u64.wrap (IntKind.u64.wrap (u * 4294967296) + e / 4294967296) - IntKind.u64.wrap (Q1 * Y)) = R1 := wrap_rem hR' (by omega)
  obtain ⟨s1', s2', s3', s4', s5'⟩ := H0.start
  have v1' : R1.tdiv (Y / 4294967296) = R1 / (Y / 4294967296) := Int.tdiv_eq_ediv_of_nonneg hRb.1
  have s0' : 0 ≤ R1 / (Y / 4294967296) := Int.ediv_nonneg hRb.1 (by omega)
  have v2' : IntKind.u64.wrap (R1 / (Y / 4294967296)) = R1 / (Y / 4294967296) := wrapU (by omega)
  have s00' : 0 ≤ R1 / (Y / 4294967296) * (Y / 4294967296) := Int.mul_nonneg s0' (by omega)
  have v3' : IntKind.u64.wrap (R1 / (Y / 4294967296) * (Y / 4294967296)) = R1 / (Y / 4294967296) * (Y / 4294967296) := wrapU (by omega)
  have v4' : IntKind.u64.wrap (R1 - R1 / (Y / 4294967296) * (Y / 4294967296)) = R1 % (Y / 4294967296) := by
    rw [show R1 - R1 / (Y / 4294967296) * (Y / 4294967296) = R1 % (Y / 4294967296) by omega]; exact wrapU (by omega)
  simp (maxSteps := 400000) (disch := omega) only [push_cast, ↓reduceIte, reduceCtorEq, Nat.reduceAdd, Nat.reduceSub, Nat.reduceEqDiff, Nat.reduceLeDiff, Nat.reduceLT, Nat.reduceBEq, Nat.reduceDiv, Nat.reduceMod, Nat.reducePow, Nat.reduceMul, Int.reduceToNat, Int.reduceLT, Int.reduceLE]
  repeat' (first | refine WK_go ?_ | refine W_seqL ?_ | refine W_seq ?_ | (refine W_regL ?_; simp (maxSteps := 400000) (disch := omega) only [push_cast, ↓reduceIte, reduceCtorEq, Nat.reduceAdd, Nat.reduceSub, Nat.reduceEqDiff, Nat.reduceLeDiff, Nat.reduceLT, Nat.reduceBEq, Nat.reduceDiv, Nat.reduceMod, Nat.reducePow, Nat.reduceMul, Int.reduceToNat, Int.reduceLT, Int.reduceLE, x1, v1', v2', v3', v4']) | refine W_block ?_ | (refine W_skip ?_; simp (maxSteps := 400000) (disch := omega) only [push_cast, ↓reduceIte, reduceCtorEq, Nat.reduceAdd, Nat.reduceSub, Nat.reduceEqDiff, Nat.reduceLeDiff, Nat.reduceLT, Nat.reduceBEq, Nat.reduceDiv, Nat.reduceMod, Nat.reducePow, Nat.reduceMul, Int.reduceToNat, Int.reduceLT, Int.reduceLE, x1, v1', v2', v3', v4']) | (refine W_exit ?_; simp (maxSteps := 400000) (disch := omega) only [push_cast, ↓reduceIte, reduceCtorEq, Nat.reduceAdd, Nat.reduceSub, Nat.reduceEqDiff, Nat.reduceLeDiff, Nat.reduceLT, Nat.reduceBEq, Nat.reduceDiv, Nat.reduceMod, Nat.reducePow, Nat.reduceMul, Int.reduceToNat, Int.reduceLT, Int.reduceLE, x1, v1', v2', v3', v4']) | refine And.intro (by omega) ?_ | refine And.intro (by intro hq; (try simp only [Bool.and_eq_true, Bool.or_eq_true, Bool.and_eq_false_iff, Bool.or_eq_false_iff, decide_eq_true_eq, decide_eq_false_iff_not, Bool.not_eq_true', Bool.not_eq_false', beq_iff_eq, beq_eq_false_iff_ne, ne_eq] at hq); omega) ?_ | fail)
  generalize hq0' : R1 / (Y / 4294967296) = q0' at *
  generalize hr0' : R1 % (Y / 4294967296) = r0' at *
  generalize hQ' : Half.q Y R1 (e % 4294967296) = Q0 at *
  have hQb' := H0.lt
  rw [hQ] at hQb
  rw [hQ'] at hQb'
  refine W_meetB [(18, uw Q0)] [] ?_ ?_
  · refine W_loopU (fun p : Int × Int => [(18, uw p.1), (16, uw p.2)]) (fun i => []) (fun p => p.1 * (Y / 4294967296) + p.2 = R1 ∧ Q0 ≤ p.1 ∧ p.1 ≤ 4294967297 ∧ 0 ≤ p.2 ∧ p.2 < 4294967296) (fun p => p.1.toNat) (q0', r0') ⟨s1', s2', s3', s4', s5'⟩ (by rfl) (by rfl) (fun p hp => ?_)
    obtain ⟨q, r⟩ := p
    obtain ⟨i1, i2, i3, i4, i5⟩ := hp
    simp only at i1 i2 i3 i4 i5
    have m0 : 0 ≤ q * (Y % 4294967296) := Int.mul_nonneg (by omega) (by omega)
    have v5 : IntKind.u64.wrap (4294967296 * r) = 4294967296 * r := wrapU (by omega)
    have v6 : IntKind.u64.wrap (4294967296 * r + e % 4294967296) = 4294967296 * r + e % 4294967296 := wrapU (by omega)
    have m1 : q < 4294967296 → q * (Y % 4294967296) ≤ 4294967295 * 4294967295 := fun hq => Int.mul_le_mul (by omega) (by omega) (by omega) (by omega)
    have v7 : q < 4294967296 → IntKind.u64.wrap (q * (Y % 4294967296)) = q * (Y % 4294967296) := fun hq => wrapU ⟨m0, by have := m1 hq; omega⟩
    simp (maxSteps := 400000) (disch := omega) only [push_cast, ↓reduceIte, reduceCtorEq, Nat.reduceAdd, Nat.reduceSub, Nat.reduceEqDiff, Nat.reduceLeDiff, Nat.reduceLT, Nat.reduceBEq, Nat.reduceDiv, Nat.reduceMod, Nat.reducePow, Nat.reduceMul, Int.reduceToNat, Int.reduceLT, Int.reduceLE]
    repeat' (first | refine WK_go ?_ | refine W_seqL ?_ | refine W_seq ?_ | (refine W_regL ?_; simp (maxSteps := 400000) (disch := omega) only [push_cast, ↓reduceIte, reduceCtorEq, Nat.reduceAdd, Nat.reduceSub, Nat.reduceEqDiff, Nat.reduceLeDiff, Nat.reduceLT, Nat.reduceBEq, Nat.reduceDiv, Nat.reduceMod, Nat.reducePow, Nat.reduceMul, Int.reduceToNat, Int.reduceLT, Int.reduceLE, v5, v6]) | refine W_block ?_ | (refine W_skip ?_; simp (maxSteps := 400000) (disch := omega) only [push_cast, ↓reduceIte, reduceCtorEq, Nat.reduceAdd, Nat.reduceSub, Nat.reduceEqDiff, Nat.reduceLeDiff, Nat.reduceLT, Nat.reduceBEq, Nat.reduceDiv, Nat.reduceMod, Nat.reducePow, Nat.reduceMul, Int.reduceToNat, Int.reduceLT, Int.reduceLE, v5, v6]) | (refine W_exit ?_; simp (maxSteps := 400000) (disch := omega) only [push_cast, ↓reduceIte, reduceCtorEq, Nat.reduceAdd, Nat.reduceSub, Nat.reduceEqDiff, Nat.reduceLeDiff, Nat.reduceLT, Nat.reduceBEq, Nat.reduceDiv, Nat.reduceMod, Nat.reducePow, Nat.reduceMul, Int.reduceToNat, Int.reduceLT, Int.reduceLE, v5, v6]) | refine And.intro (by omega) ?_ | refine And.intro (by intro hq; (try simp only [Bool.and_eq_true, Bool.or_eq_true, Bool.and_eq_false_iff, Bool.or_eq_false_iff, decide_eq_true_eq, decide_eq_false_iff_not, Bool.not_eq_true', Bool.not_eq_false', beq_iff_eq, beq_eq_false_iff_ne, ne_eq] at hq); omega) ?_ | fail)
    refine W_cond (by rfl) (fun hb => ?_) (fun hb => ?_)
    · have hc : 4294967296 ≤ q ∨ 4294967296 * r + e % 4294967296 < q * (Y % 4294967296) := by
        rw [Bool.or_eq_true, decide_eq_true_eq, decide_eq_true_eq] at hb
        by_cases hq : 4294967296 ≤ q
        · exact .inl hq
        · rw [v7 (by omega)] at hb
          exact .inr (hb.resolve_left hq)
      obtain ⟨t1, t2⟩ := H0.step i1 (by rw [hQ']; exact i2) hc
      rw [hQ'] at t2
      have v8 : IntKind.u64.wrap (q - 1) = q - 1 := wrapU (by omega)
      have v9 : IntKind.u64.wrap (r + Y / 4294967296) = r + Y / 4294967296 := wrapU (by omega)
      repeat' (first | refine WK_go ?_ | refine W_seqL ?_ | refine W_seq ?_ | (refine W_regL ?_; simp (maxSteps := 400000) (disch := omega) only [push_cast, ↓reduceIte, reduceCtorEq, Nat.reduceAdd, Nat.reduceSub, Nat.reduceEqDiff, Nat.reduceLeDiff, Nat.reduceLT, Nat.reduceBEq, Nat.reduceDiv, Nat.reduceMod, Nat.reducePow, Nat.reduceMul, Int.reduceToNat, Int.reduceLT, Int.reduceLE, v8, v9]) | refine W_block ?_ | (refine W_skip ?_; simp (maxSteps := 400000) (disch := omega) only [push_cast, ↓reduceIte, reduceCtorEq, Nat.reduceAdd, Nat.reduceSub, Nat.reduceEqDiff, Nat.reduceLeDiff, Nat.reduceLT, Nat.reduceBEq, Nat.reduceDiv, Nat.reduceMod, Nat.reducePow, Nat.reduceMul, Int.reduceToNat, Int.reduceLT, Int.reduceLE, v8, v9]) | (refine W_exit ?_; simp (maxSteps := 400000) (disch := omega) only [push_cast, ↓reduceIte, reduceCtorEq, Nat.reduceAdd, Nat.reduceSub, Nat.reduceEqDiff, Nat.reduceLeDiff, Nat.reduceLT, Nat.reduceBEq, Nat.reduceDiv, Nat.reduceMod, Nat.reducePow, Nat.reduceMul, Int.reduceToNat, Int.reduceLT, Int.reduceLE, v8, v9]) | refine And.intro (by omega) ?_ | refine And.intro (by intro hq; (try simp only [Bool.and_eq_true, Bool.or_eq_true, Bool.and_eq_false_iff, Bool.or_eq_false_iff, decide_eq_true_eq, decide_eq_false_iff_not, Bool.not_eq_true', Bool.not_eq_false', beq_iff_eq, beq_eq_false_iff_ne, ne_eq] at hq); omega) ?_ | fail)
      refine W_condD (by rfl) (fun hr => ?_) (fun hr => ?_)
      · have hbr := H0.break t1 (by rw [hQ']; exact t2) (by omega) hr
        rw [hQ'] at hbr
        repeat' (first | refine WK_go ?_ | refine W_seqL ?_ | refine W_seq ?_ | (refine W_regL ?_; simp (maxSteps := 400000) (disch := omega) only [push_cast, ↓reduceIte, reduceCtorEq, Nat.reduceAdd, Nat.reduceSub, Nat.reduceEqDiff, Nat.reduceLeDiff, Nat.reduceLT, Nat.reduceBEq, Nat.reduceDiv, Nat.reduceMod, Nat.reducePow, Nat.reduceMul, Int.reduceToNat, Int.reduceLT, Int.reduceLE]) | refine W_block ?_ | (refine W_skip ?_; simp (maxSteps := 400000) (disch := omega) only [push_cast, ↓reduceIte, reduceCtorEq, Nat.reduceAdd, Nat.reduceSub, Nat.reduceEqDiff, Nat.reduceLeDiff, Nat.reduceLT, Nat.reduceBEq, Nat.reduceDiv, Nat.reduceMod, Nat.reducePow, Nat.reduceMul, Int.reduceToNat, Int.reduceLT, Int.reduceLE]) | (refine W_exit ?_; simp (maxSteps := 400000) (disch := omega) only [push_cast, ↓reduceIte, reduceCtorEq, Nat.reduceAdd, Nat.reduceSub, Nat.reduceEqDiff, Nat.reduceLeDiff, Nat.reduceLT, Nat.reduceBEq, Nat.reduceDiv, Nat.reduceMod, Nat.reducePow, Nat.reduceMul, Int.reduceToNat, Int.reduceLT, Int.reduceLE]) | refine And.intro (by omega) ?_ | refine And.intro (by intro hq; (try simp only [Bool.and_eq_true, Bool.or_eq_true, Bool.and_eq_false_iff, Bool.or_eq_false_iff, decide_eq_true_eq, decide_eq_false_iff_not, Bool.not_eq_true', Bool.not_eq_false', beq_iff_eq, beq_eq_false_iff_ne, ne_eq] at hq); omega) ?_ | fail)
        refine ⟨by rfl, ?_⟩
        simp (maxSteps := 400000) (disch := omega) only [push_cast, ↓reduceIte, reduceCtorEq, Nat.reduceAdd, Nat.reduceSub, Nat.reduceEqDiff, Nat.reduceLeDiff, Nat.reduceLT, Nat.reduceBEq, Nat.reduceDiv, Nat.reduceMod, Nat.reducePow, Nat.reduceMul, Int.reduceToNat, Int.reduceLT, Int.reduceLE, S.mk.injEq, List.cons.injEq, Prod.mk.injEq, AV.v.injEq, Value.int.injEq, Value.bool.injEq, Blk.cells.injEq, hbr]
      · repeat' (first | refine WK_go ?_ | refine W_seqL ?_ | refine W_seq ?_ | (refine W_regL ?_; simp (maxSteps := 400000) (disch := omega) only [push_cast, ↓reduceIte, reduceCtorEq, Nat.reduceAdd, Nat.reduceSub, Nat.reduceEqDiff, Nat.reduceLeDiff, Nat.reduceLT, Nat.reduceBEq, Nat.reduceDiv, Nat.reduceMod, Nat.reducePow, Nat.reduceMul, Int.reduceToNat, Int.reduceLT, Int.reduceLE]) | refine W_block ?_ | (refine W_skip ?_; simp (maxSteps := 400000) (disch := omega) only [push_cast, ↓reduceIte, reduceCtorEq, Nat.reduceAdd, Nat.reduceSub, Nat.reduceEqDiff, Nat.reduceLeDiff, Nat.reduceLT, Nat.reduceBEq, Nat.reduceDiv, Nat.reduceMod, Nat.reducePow, Nat.reduceMul, Int.reduceToNat, Int.reduceLT, Int.reduceLE]) | (refine W_exit ?_; simp (maxSteps := 400000) (disch := omega) only [push_cast, ↓reduceIte, reduceCtorEq, Nat.reduceAdd, Nat.reduceSub, Nat.reduceEqDiff, Nat.reduceLeDiff, Nat.reduceLT, Nat.reduceBEq, Nat.reduceDiv, Nat.reduceMod, Nat.reducePow, Nat.reduceMul, Int.reduceToNat, Int.reduceLT, Int.reduceLE]) | refine And.intro (by omega) ?_ | refine And.intro (by intro hq; (try simp only [Bool.and_eq_true, Bool.or_eq_true, Bool.and_eq_false_iff, Bool.or_eq_false_iff, decide_eq_true_eq, decide_eq_false_iff_not, Bool.not_eq_true', Bool.not_eq_false', beq_iff_eq, beq_eq_false_iff_ne, ne_eq] at hq); omega) ?_ | fail)
        refine ⟨(q - 1, r + Y / 4294967296), ⟨t1, t2, by simp only []; omega, by simp only []; omega, by simp only []; omega⟩, by simp only []; omega, by rfl, ?_⟩
        simp (maxSteps := 400000) (disch := omega) only [push_cast, ↓reduceIte, reduceCtorEq, Nat.reduceAdd, Nat.reduceSub, Nat.reduceEqDiff, Nat.reduceLeDiff, Nat.reduceLT, Nat.reduceBEq, Nat.reduceDiv, Nat.reduceMod, Nat.reducePow, Nat.reduceMul, Int.reduceToNat, Int.reduceLT, Int.reduceLE, S.mk.injEq, List.cons.injEq, Prod.mk.injEq, AV.v.injEq, Value.int.injEq, Value.bool.injEq, Blk.cells.injEq]
    · rw [Bool.or_eq_false_iff, decide_eq_false_iff_not, decide_eq_false_iff_not] at hb
      have hst := H0.stop i1 (by rw [hQ']; exact i2) (by rw [v7 (by omega)] at hb; omega)
      rw [hQ'] at hst
      repeat' (first | refine WK_go ?_ | refine W_seqL ?_ | refine W_seq ?_ | (refine W_regL ?_; simp (maxSteps := 400000) (disch := omega) only [push_cast, ↓reduceIte, reduceCtorEq, Nat.reduceAdd, Nat.reduceSub, Nat.reduceEqDiff, Nat.reduceLeDiff, Nat.reduceLT, Nat.reduceBEq, Nat.reduceDiv, Nat.reduceMod, Nat.reducePow, Nat.reduceMul, Int.reduceToNat, Int.reduceLT, Int.reduceLE]) | refine W_block ?_ | (refine W_skip ?_; simp (maxSteps := 400000) (disch := omega) only [push_cast, ↓reduceIte, reduceCtorEq, Nat.reduceAdd, Nat.reduceSub, Nat.reduceEqDiff, Nat.reduceLeDiff, Nat.reduceLT, Nat.reduceBEq, Nat.reduceDiv, Nat.reduceMod, Nat.reducePow, Nat.reduceMul, Int.reduceToNat, Int.reduceLT, Int.reduceLE]) | (refine W_exit ?_; simp (maxSteps := 400000) (disch := omega) only [push_cast, ↓reduceIte, reduceCtorEq, Nat.reduceAdd, Nat.reduceSub, Nat.reduceEqDiff, Nat.reduceLeDiff, Nat.reduceLT, Nat.reduceBEq, Nat.reduceDiv, Nat.reduceMod, Nat.reducePow, Nat.reduceMul, Int.reduceToNat, Int.reduceLT, Int.reduceLE]) | refine And.intro (by omega) ?_ | refine And.intro (by intro hq; (try simp only [Bool.and_eq_true, Bool.or_eq_true, Bool.and_eq_false_iff, Bool.or_eq_false_iff, decide_eq_true_eq, decide_eq_false_iff_not, Bool.not_eq_true', Bool.not_eq_false', beq_iff_eq, beq_eq_false_iff_ne, ne_eq] at hq); omega) ?_ | fail)
      refine ⟨by rfl, ?_⟩
      simp (maxSteps := 400000) (disch := omega) only [push_cast, ↓reduceIte, reduceCtorEq, Nat.reduceAdd, Nat.reduceSub, Nat.reduceEqDiff, Nat.reduceLeDiff, Nat.reduceLT, Nat.reduceBEq, Nat.reduceDiv, Nat.reduceMod, Nat.reducePow, Nat.reduceMul, Int.reduceToNat, Int.reduceLT, Int.reduceLE, S.mk.injEq, List.cons.injEq, Prod.mk.injEq, AV.v.injEq, Value.int.injEq, Value.bool.injEq, Blk.cells.injEq, hst]
  have hQR := hld (e / 4294967296) (e % 4294967296) (by omega) H1 (by rw [hR]; exact H0)
  rw [hR, hQ, hQ'] at hQR
  have hR0 : R1 * 4294967296 + e % 4294967296 - Q0 * Y = Half.r Y R1 (e % 4294967296) := by rw [← hQ']; rfl
  have hRb0 := H0.r_lt
  have x2 := wrap_rem hR0 (by omega)
  have x3 : IntKind.u64.wrap (Q1 * 4294967296) = Q1 * 4294967296 := wrapU (by omega)
  have x4 : IntKind.u64.wrap (Q1 * 4294967296 + Q0) = Q1 * 4294967296 + Q0 := wrapU (by omega)
  have x5 : (Half.r Y R1 (e % 4294967296)).fdiv (2 ^ (64 - n)) = Half.r Y R1 (e % 4294967296) / 2 ^ (64 - n) := Int.fdiv_eq_ediv_of_nonneg _ (Int.le_of_lt hk)
  simp (maxSteps := 400000) (disch := omega) only [push_cast, ↓reduceIte, reduceCtorEq, Nat.reduceAdd, Nat.reduceSub, Nat.reduceEqDiff, Nat.reduceLeDiff, Nat.reduceLT, Nat.reduceBEq, Nat.reduceDiv, Nat.reduceMod, Nat.reducePow, Nat.reduceMul, Int.reduceToNat, Int.reduceLT, Int.reduceLE]
  repeat' (first | refine WK_go ?_ | refine W_seqL ?_ | refine W_seq ?_ | (refine W_regL ?_; simp (maxSteps := 400000) (disch := omega) only [push_cast, ↓reduceIte, reduceCtorEq, Nat.reduceAdd, Nat.reduceSub, Nat.reduceEqDiff, Nat.reduceLeDiff, Nat.reduceLT, Nat.reduceBEq, Nat.reduceDiv, Nat.reduceMod, Nat.reducePow, Nat.reduceMul, Int.reduceToNat, Int.reduceLT, Int.reduceLE, x2, x3, x4, w2, x5]) | refine W_block ?_ | (refine W_skip ?_; simp (maxSteps := 400000) (disch := omega) only [push_cast, ↓reduceIte, reduceCtorEq, Nat.reduceAdd, Nat.reduceSub, Nat.reduceEqDiff, Nat.reduceLeDiff, Nat.reduceLT, Nat.reduceBEq, Nat.reduceDiv, Nat.reduceMod, Nat.reducePow, Nat.reduceMul, Int.reduceToNat, Int.reduceLT, Int.reduceLE, x2, x3, x4, w2, x5]) | (refine W_exit ?_; simp (maxSteps := 400000) (disch := omega) only [push_cast, ↓reduceIte, reduceCtorEq, Nat.reduceAdd, Nat.reduceSub, Nat.reduceEqDiff, Nat.reduceLeDiff, Nat.reduceLT, Nat.reduceBEq, Nat.reduceDiv, Nat.reduceMod, Nat.reducePow, Nat.reduceMul, Int.reduceToNat, Int.reduceLT, Int.reduceLE, x2, x3, x4, w2, x5]) | refine And.intro (by omega) ?_ | refine And.intro (by intro hq; (try simp only [Bool.and_eq_true, Bool.or_eq_true, Bool.and_eq_false_iff, Bool.or_eq_false_iff, decide_eq_true_eq, decide_eq_false_iff_not, Bool.not_eq_true', Bool.not_eq_false', beq_iff_eq, beq_eq_false_iff_ne, ne_eq] at hq); omega) ?_ | fail)
  rw [hQR.1, hQR.2]
  exact W_ret ⟨[_, _], ⟨rfl, rfl, rfl⟩, rfl⟩
end Go.Proofs.Ytfkjdjlcaojedaa

/- Fractions: split, down, up. -/
namespace Go.Proofs.Ytfkjdjlcaojedaa
open Go Sy
set_option maxRecDepth 100000
set_option maxHeartbeats 4000000
set_option linter.unusedVariables false
set_option linter.unusedSimpArgs false
theorem c143 (x y : Int) (hx : 0 ≤ x ∧ x < 18446744073709551616) (hy : 0 ≤ y ∧ y < 18446744073709551616) : Sy.Fn Try.prog 143 [uw x, uw y] (.tup [uw (x * y / 18446744073709551616), uw (x * y % 18446744073709551616)]) := by
  obtain ⟨n, rfl⟩ : ∃ n : Nat, x = n := ⟨x.toNat, by omega⟩
  obtain ⟨m, rfl⟩ : ∃ m : Nat, y = m := ⟨y.toNat, by omega⟩
  have h := fn143 n m (by omega) (by omega)
  have e : (n : Int) * m = ((n * m : Nat) : Int) := (Int.natCast_mul n m).symm
  rw [e]
  exact h
/-- the amount -/
def ab (a : Int) : Int := max a (0 - a)
theorem ab_mul (a b : Int) : ab a * ab b = if decide (a < 0) != decide (b < 0) then -(a * b) else a * b := by
  unfold ab
  by_cases ha : a < 0 <;> by_cases hb : b < 0
  · rw [show max a (0 - a) = -a by omega, show max b (0 - b) = -b by omega, Int.neg_mul_neg]; simp [ha, hb]
  · rw [show max a (0 - a) = -a by omega, show max b (0 - b) = b by omega, Int.neg_mul]; simp [ha, hb]
  · rw [show max a (0 - a) = a by omega, show max b (0 - b) = -b by omega, Int.mul_neg]; simp [ha, hb]
  · rw [show max a (0 - a) = a by omega, show max b (0 - b) = b by omega]; simp [ha, hb]
abbrev aFr (a b d : Int) : AV := .agg [iv a, iv b, iv d]
structure FrOK (a b d : Int) : Prop where
  ha : -9223372036854775807 ≤ a ∧ a ≤ 9223372036854775807
  hb : -9223372036854775807 ≤ b ∧ b ≤ 9223372036854775807
  hd : 0 < d ∧ d ≤ 9223372036854775807
  hq : ab a * ab b < d * 4611686018427387904
theorem fn123 (a b d : Int) (h : FrOK a b d) : Sy.Fn Try.prog 123 [aFr a b d] (.tup [iv (ab a * ab b / d), bv (decide (0 < ab a * ab b % d)), bv (decide (a < 0) != decide (b < 0))]) := by
  refine Fn_of_W mixed Xt123 rfl ?_
  have ha := h.ha; have hb := h.hb; have hd := h.hd; have hq := h.hq
  have hA : 0 ≤ ab a ∧ ab a ≤ 9223372036854775807 := by unfold ab; omega
  have hB : 0 ≤ ab b ∧ ab b ≤ 9223372036854775807 := by unfold ab; omega
  have ea : max a (0 - a) = ab a := rfl
  have eb : max b (0 - b) = ab b := rfl
  generalize ab a = A at *
  generalize ab b = B at *
  have hAB : 0 ≤ A * B := Int.mul_nonneg hA.1 hB.1
  have wa : IntKind.u64.wrap A = A := wrapU (by omega)
  have wb : IntKind.u64.wrap B = B := wrapU (by omega)
  have wd : IntKind.u64.wrap d = d := wrapU (by omega)
  have c1 := c143 A B (by omega) (by omega)
  generalize A * B = M at *
  have c2 := fn144 (M / 18446744073709551616) (M % 18446744073709551616) d ⟨by omega, by omega⟩ (by omega) (by omega)
  rw [show M / 18446744073709551616 * 18446744073709551616 + M % 18446744073709551616 = M by omega] at c2
  have q1 : M / d < 4611686018427387904 := by rw [Int.ediv_lt_iff_lt_mul hd.1, Int.mul_comm]; exact hq
  have q0 : 0 ≤ M / d := Int.ediv_nonneg hAB (by omega)
  have wq : IntKind.i64.wrap (M / d) = M / d := wrap64 ⟨by omega, by omega⟩
  repeat' (first | refine WK_go ?_ | refine W_seqL ?_ | refine W_seq ?_ | (refine W_regL ?_; simp (maxSteps := 400000) (disch := omega) only [push_cast, ↓reduceIte, reduceCtorEq, Nat.reduceAdd, Nat.reduceSub, Nat.reduceEqDiff, Nat.reduceLeDiff, Nat.reduceLT, Nat.reduceBEq, Nat.reduceDiv, Nat.reduceMod, Nat.reducePow, Nat.reduceMul, Int.reduceToNat, Int.reduceLT, Int.reduceLE, ea, eb, wa, wb, wd, wq]) | refine W_block ?_ | (refine W_skip ?_; simp (maxSteps := 400000) (disch := omega) only [push_cast, ↓reduceIte, reduceCtorEq, Nat.reduceAdd, Nat.reduceSub, Nat.reduceEqDiff, Nat.reduceLeDiff, Nat.reduceLT, Nat.reduceBEq, Nat.reduceDiv, Nat.reduceMod, Nat.reducePow, Nat.reduceMul, Int.reduceToNat, Int.reduceLT, Int.reduceLE, ea, eb, wa, wb, wd, wq]) | (refine W_exit ?_; simp (maxSteps := 400000) (disch := omega) only [push_cast, ↓reduceIte, reduceCtorEq, Nat.reduceAdd, Nat.reduceSub, Nat.reduceEqDiff, Nat.reduceLeDiff, Nat.reduceLT, Nat.reduceBEq, Nat.reduceDiv, Nat.reduceMod, Nat.reducePow, Nat.reduceMul, Int.reduceToNat, Int.reduceLT, Int.reduceLE, ea, eb, wa, wb, wd, wq]) | refine And.intro (by omega) ?_ | refine And.intro (by intro hq; (try simp only [Bool.and_eq_true, Bool.or_eq_true, Bool.and_eq_false_iff, Bool.or_eq_false_iff, decide_eq_true_eq, decide_eq_false_iff_not, Bool.not_eq_true', Bool.not_eq_false', beq_iff_eq, beq_eq_false_iff_ne, ne_eq] at hq); omega) ?_ | (refine CallC.now (c1) ?_; simp (maxSteps := 400000) (disch := omega) only [push_cast, ↓reduceIte, reduceCtorEq, Nat.reduceAdd, Nat.reduceSub, Nat.reduceEqDiff, Nat.reduceLeDiff, Nat.reduceLT, Nat.reduceBEq, Nat.reduceDiv, Nat.reduceMod, Nat.reducePow, Nat.reduceMul, Int.reduceToNat, Int.reduceLT, Int.reduceLE, ea, eb, wa, wb, wd, wq]) | (refine CallC.now (c2) ?_; simp (maxSteps := 400000) (disch := omega) only [push_cast, ↓reduceIte, reduceCtorEq, Nat.reduceAdd, Nat.reduceSub, Nat.reduceEqDiff, Nat.reduceLeDiff, Nat.reduceLT, Nat.reduceBEq, Nat.reduceDiv, Nat.reduceMod, Nat.reducePow, Nat.reduceMul, Int.reduceToNat, Int.reduceLT, Int.reduceLE, ea, eb, wa, wb, wd, wq]) | fail)
  exact W_ret ⟨[_, _, _], ⟨rfl, rfl, rfl, rfl⟩, rfl⟩
theorem fn94 (a b d : Int) (h : FrOK a b d) : Sy.Fn Try.prog 94 [aFr a b d] (iv (a * b / d)) := by
  refine Fn_of_W mixed Xt94 rfl ?_
  have hd := h.hd; have hq := h.hq
  have c1 := fn123 a b d h
  have hm := ab_mul a b
  have q1 : ab a * ab b / d < 4611686018427387904 := by rw [Int.ediv_lt_iff_lt_mul hd.1]; omega
  have q0 : 0 ≤ ab a * ab b / d := Int.ediv_nonneg (Int.mul_nonneg (by unfold ab; omega) (by unfold ab; omega)) (by omega)
  generalize ab a * ab b = M at *
  have e := Int.ediv_mul_add_emod M d
  have e1 := Int.emod_nonneg M (Int.ne_of_gt hd.1)
  have e2 := Int.emod_lt_of_pos M hd.1
  repeat' (first | refine WK_go ?_ | refine W_seqL ?_ | refine W_seq ?_ | (refine W_regL ?_; simp (maxSteps := 400000) (disch := omega) only [push_cast, ↓reduceIte, reduceCtorEq, Nat.reduceAdd, Nat.reduceSub, Nat.reduceEqDiff, Nat.reduceLeDiff, Nat.reduceLT, Nat.reduceBEq, Nat.reduceDiv, Nat.reduceMod, Nat.reducePow, Nat.reduceMul, Int.reduceToNat, Int.reduceLT, Int.reduceLE]) | refine W_block ?_ | (refine W_skip ?_; simp (maxSteps := 400000) (disch := omega) only [push_cast, ↓reduceIte, reduceCtorEq, Nat.reduceAdd, Nat.reduceSub, Nat.reduceEqDiff, Nat.reduceLeDiff, Nat.reduceLT, Nat.reduceBEq, Nat.reduceDiv, Nat.reduceMod, Nat.reducePow, Nat.reduceMul, Int.reduceToNat, Int.reduceLT, Int.reduceLE]) | (refine W_exit ?_; simp (maxSteps := 400000) (disch := omega) only [push_cast, ↓reduceIte, reduceCtorEq, Nat.reduceAdd, Nat.reduceSub, Nat.reduceEqDiff, Nat.reduceLeDiff, Nat.reduceLT, Nat.reduceBEq, Nat.reduceDiv, Nat.reduceMod, Nat.reducePow, Nat.reduceMul, Int.reduceToNat, Int.reduceLT, Int.reduceLE]) | refine And.intro (by omega) ?_ | refine And.intro (by intro hq; (try simp only [Bool.and_eq_true, Bool.or_eq_true, Bool.and_eq_false_iff, Bool.or_eq_false_iff, decide_eq_true_eq, decide_eq_false_iff_not, Bool.not_eq_true', Bool.not_eq_false', beq_iff_eq, beq_eq_false_iff_ne, ne_eq] at hq); omega) ?_ | (refine CallC.now (c1) ?_; simp (maxSteps := 400000) (disch := omega) only [push_cast, ↓reduceIte, reduceCtorEq, Nat.reduceAdd, Nat.reduceSub, Nat.reduceEqDiff, Nat.reduceLeDiff, Nat.reduceLT, Nat.reduceBEq, Nat.reduceDiv, Nat.reduceMod, Nat.reducePow, Nat.reduceMul, Int.reduceToNat, Int.reduceLT, Int.reduceLE]) | fail)
  refine W_cond (by rfl) (fun h1 => ?_) (fun h1 => ?_)
  · rw [Bool.not_eq_true'] at h1
    rw [h1] at hm
    simp only [Bool.false_eq_true, if_false] at hm
    repeat' (first | refine WK_go ?_ | refine W_seqL ?_ | refine W_seq ?_ | (refine W_regL ?_; simp (maxSteps := 400000) (disch := omega) only [push_cast, ↓reduceIte, reduceCtorEq, Nat.reduceAdd, Nat.reduceSub, Nat.reduceEqDiff, Nat.reduceLeDiff, Nat.reduceLT, Nat.reduceBEq, Nat.reduceDiv, Nat.reduceMod, Nat.reducePow, Nat.reduceMul, Int.reduceToNat, Int.reduceLT, Int.reduceLE]) | refine W_block ?_ | (refine W_skip ?_; simp (maxSteps := 400000) (disch := omega) only [push_cast, ↓reduceIte, reduceCtorEq, Nat.reduceAdd, Nat.reduceSub, Nat.reduceEqDiff, Nat.reduceLeDiff, Nat.reduceLT, Nat.reduceBEq, Nat.reduceDiv, Nat.reduceMod, Nat.reducePow, Nat.reduceMul, Int.reduceToNat, Int.reduceLT, Int.reduceLE]) | (refine W_exit ?_; simp (maxSteps := 400000) (disch := omega) only [push_cast, ↓reduceIte, reduceCtorEq, Nat.reduceAdd, Nat.reduceSub, Nat.reduceEqDiff, Nat.reduceLeDiff, Nat.reduceLT, Nat.reduceBEq, Nat.reduceDiv, Nat.reduceMod, Nat.reducePow, Nat.reduceMul, Int.reduceToNat, Int.reduceLT, Int.reduceLE]) | refine And.intro (by omega) ?_ | refine And.intro (by intro hq; (try simp only [Bool.and_eq_true, Bool.or_eq_true, Bool.and_eq_false_iff, Bool.or_eq_false_iff, decide_eq_true_eq, decide_eq_false_iff_not, Bool.not_eq_true', Bool.not_eq_false', beq_iff_eq, beq_eq_false_iff_ne, ne_eq] at hq); omega) ?_ | fail)
    exact W_ret ⟨[_], ⟨rfl, rfl⟩, by rw [hm]; rfl⟩
  · rw [Bool.not_eq_false'] at h1
    rw [h1, if_pos rfl] at hm
    have hm' : a * b = -M := by omega
    rw [hm']
    repeat' (first | refine WK_go ?_ | refine W_seqL ?_ | refine W_seq ?_ | (refine W_regL ?_; simp (maxSteps := 400000) (disch := omega) only [push_cast, ↓reduceIte, reduceCtorEq, Nat.reduceAdd, Nat.reduceSub, Nat.reduceEqDiff, Nat.reduceLeDiff, Nat.reduceLT, Nat.reduceBEq, Nat.reduceDiv, Nat.reduceMod, Nat.reducePow, Nat.reduceMul, Int.reduceToNat, Int.reduceLT, Int.reduceLE]) | refine W_block ?_ | (refine W_skip ?_; simp (maxSteps := 400000) (disch := omega) only [push_cast, ↓reduceIte, reduceCtorEq, Nat.reduceAdd, Nat.reduceSub, Nat.reduceEqDiff, Nat.reduceLeDiff, Nat.reduceLT, Nat.reduceBEq, Nat.reduceDiv, Nat.reduceMod, Nat.reducePow, Nat.reduceMul, Int.reduceToNat, Int.reduceLT, Int.reduceLE]) | (refine W_exit ?_; simp (maxSteps := 400000) (disch := omega) only [push_cast, ↓reduceIte, reduceCtorEq, Nat.reduceAdd, Nat.reduceSub, Nat.reduceEqDiff, Nat.reduceLeDiff, Nat.reduceLT, Nat.reduceBEq, Nat.reduceDiv, Nat.reduceMod, Nat.reducePow, Nat.reduceMul, Int.reduceToNat, Int.reduceLT, Int.reduceLE]) | refine And.intro (by omega) ?_ | refine And.intro (by intro hq; (try simp only [Bool.and_eq_true, Bool.or_eq_true, Bool.and_eq_false_iff, Bool.or_eq_false_iff, decide_eq_true_eq, decide_eq_false_iff_not, Bool.not_eq_true', Bool.not_eq_false', beq_iff_eq, beq_eq_false_iff_ne, ne_eq] at hq); omega) ?_ | fail)
    refine W_condD (by rfl) (fun h2 => ?_) (fun h2 => ?_)
    · have e3 : -M / d = -(M / d + 1) := by
        have h1 : -(M / d + 1) ≤ -M / d := by rw [Int.le_ediv_iff_mul_le hd.1, Int.neg_mul, Int.add_mul]; omega
        have h3 : -M / d < -(M / d + 1) + 1 := by
          rw [Int.ediv_lt_iff_lt_mul hd.1, Int.add_mul, Int.neg_mul, Int.add_mul]; omega
        omega
      repeat' (first | refine WK_go ?_ | refine W_seqL ?_ | refine W_seq ?_ | (refine W_regL ?_; simp (maxSteps := 400000) (disch := omega) only [push_cast, ↓reduceIte, reduceCtorEq, Nat.reduceAdd, Nat.reduceSub, Nat.reduceEqDiff, Nat.reduceLeDiff, Nat.reduceLT, Nat.reduceBEq, Nat.reduceDiv, Nat.reduceMod, Nat.reducePow, Nat.reduceMul, Int.reduceToNat, Int.reduceLT, Int.reduceLE]) | refine W_block ?_ | (refine W_skip ?_; simp (maxSteps := 400000) (disch := omega) only [push_cast, ↓reduceIte, reduceCtorEq, Nat.reduceAdd, Nat.reduceSub, Nat.reduceEqDiff, Nat.reduceLeDiff, Nat.reduceLT, Nat.reduceBEq, Nat.reduceDiv, Nat.reduceMod, Nat.reducePow, Nat.reduceMul, Int.reduceToNat, Int.reduceLT, Int.reduceLE]) | (refine W_exit ?_; simp (maxSteps := 400000) (disch := omega) only [push_cast, ↓reduceIte, reduceCtorEq, Nat.reduceAdd, Nat.reduceSub, Nat.reduceEqDiff, Nat.reduceLeDiff, Nat.reduceLT, Nat.reduceBEq, Nat.reduceDiv, Nat.reduceMod, Nat.reducePow, Nat.reduceMul, Int.reduceToNat, Int.reduceLT, Int.reduceLE]) | refine And.intro (by omega) ?_ | refine And.intro (by intro hq; (try simp only [Bool.and_eq_true, Bool.or_eq_true, Bool.and_eq_false_iff, Bool.or_eq_false_iff, decide_eq_true_eq, decide_eq_false_iff_not, Bool.not_eq_true', Bool.not_eq_false', beq_iff_eq, beq_eq_false_iff_ne, ne_eq] at hq); omega) ?_ | fail)
      exact W_ret ⟨[_], ⟨rfl, rfl⟩, by rw [e3]; simp; rfl⟩
    · have e3 : -M / d = -(M / d) := by
        have h1 : -(M / d) ≤ -M / d := by rw [Int.le_ediv_iff_mul_le hd.1, Int.neg_mul]; omega
        have h3 : -M / d < -(M / d) + 1 := by
          rw [Int.ediv_lt_iff_lt_mul hd.1, Int.add_mul, Int.neg_mul]; omega
        omega
      repeat' (first | refine WK_go ?_ | refine W_seqL ?_ | refine W_seq ?_ | (refine W_regL ?_; simp (maxSteps := 400000) (disch := omega) only [push_cast, ↓reduceIte, reduceCtorEq, Nat.reduceAdd, Nat.reduceSub, Nat.reduceEqDiff, Nat.reduceLeDiff, Nat.reduceLT, Nat.reduceBEq, Nat.reduceDiv, Nat.reduceMod, Nat.reducePow, Nat.reduceMul, Int.reduceToNat, Int.reduceLT, Int.reduceLE]) | refine W_block ?_ | (refine W_skip ?_; simp (maxSteps := 400000) (disch := omega) only [push_cast, ↓reduceIte, reduceCtorEq, Nat.reduceAdd, Nat.reduceSub, Nat.reduceEqDiff, Nat.reduceLeDiff, Nat.reduceLT, Nat.reduceBEq, Nat.reduceDiv, Nat.reduceMod, Nat.reducePow, Nat.reduceMul, Int.reduceToNat, Int.reduceLT, Int.reduceLE]) | (refine W_exit ?_; simp (maxSteps := 400000) (disch := omega) only [push_cast, ↓reduceIte, reduceCtorEq, Nat.reduceAdd, Nat.reduceSub, Nat.reduceEqDiff, Nat.reduceLeDiff, Nat.reduceLT, Nat.reduceBEq, Nat.reduceDiv, Nat.reduceMod, Nat.reducePow, Nat.reduceMul, Int.reduceToNat, Int.reduceLT, Int.reduceLE]) | refine And.intro (by omega) ?_ | refine And.intro (by intro hq; (try simp only [Bool.and_eq_true, Bool.or_eq_true, Bool.and_eq_false_iff, Bool.or_eq_false_iff, decide_eq_true_eq, decide_eq_false_iff_not, Bool.not_eq_true', Bool.not_eq_false', beq_iff_eq, beq_eq_false_iff_ne, ne_eq] at hq); omega) ?_ | fail)
      exact W_ret ⟨[_], ⟨rfl, rfl⟩, by rw [e3]; simp; rfl⟩
/-- a quotient, rounded up -/
def cdiv (n d : Int) : Int := -(-n / d)
theorem fn55 (a b d : Int) (h : FrOK a b d) : Sy.Fn Try.prog 55 [aFr a b d] (iv (cdiv (a * b) d)) := by
  refine Fn_of_W mixed Xt55 rfl ?_
  have ha := h.ha; have hd := h.hd
  have h' : FrOK (0 - a) b d := ⟨by omega, h.hb, h.hd, by rw [show ab (0 - a) = ab a by unfold ab; omega]; exact h.hq⟩
  have c1 := fn94 (0 - a) b d h'
  have e : (0 - a) * b = -(a * b) := by rw [Int.zero_sub, Int.neg_mul]
  rw [e] at c1
  have hq := h.hq
  have hm := ab_mul a b
  have hAB : 0 ≤ ab a * ab b := Int.mul_nonneg (by unfold ab; omega) (by unfold ab; omega)
  have hb : -(d * 4611686018427387904) ≤ -(a * b) ∧ -(a * b) ≤ d * 4611686018427387904 := by
    split at hm <;> omega
  have b1 : -4611686018427387904 ≤ -(a * b) / d := by rw [Int.le_ediv_iff_mul_le hd.1, Int.neg_mul, Int.mul_comm]; exact hb.1
  have b2 : -(a * b) / d < 4611686018427387905 := by rw [Int.ediv_lt_iff_lt_mul hd.1]; omega
  repeat' (first | refine WK_go ?_ | refine W_seqL ?_ | refine W_seq ?_ | (refine W_regL ?_; simp (maxSteps := 400000) (disch := omega) only [push_cast, ↓reduceIte, reduceCtorEq, Nat.reduceAdd, Nat.reduceSub, Nat.reduceEqDiff, Nat.reduceLeDiff, Nat.reduceLT, Nat.reduceBEq, Nat.reduceDiv, Nat.reduceMod, Nat.reducePow, Nat.reduceMul, Int.reduceToNat, Int.reduceLT, Int.reduceLE]) | refine W_block ?_ | (refine W_skip ?_; simp (maxSteps := 400000) (disch := omega) only [push_cast, ↓reduceIte, reduceCtorEq, Nat.reduceAdd, Nat.reduceSub, Nat.reduceEqDiff, Nat.reduceLeDiff, Nat.reduceLT, Nat.reduceBEq, Nat.reduceDiv, Nat.reduceMod, Nat.reducePow, Nat.reduceMul, Int.reduceToNat, Int.reduceLT, Int.reduceLE]) | (refine W_exit ?_; simp (maxSteps := 400000) (disch := omega) only [push_cast, ↓reduceIte, reduceCtorEq, Nat.reduceAdd, Nat.reduceSub, Nat.reduceEqDiff, Nat.reduceLeDiff, Nat.reduceLT, Nat.reduceBEq, Nat.reduceDiv, Nat.reduceMod, Nat.reducePow, Nat.reduceMul, Int.reduceToNat, Int.reduceLT, Int.reduceLE]) | refine And.intro (by omega) ?_ | refine And.intro (by intro hq; (try simp only [Bool.and_eq_true, Bool.or_eq_true, Bool.and_eq_false_iff, Bool.or_eq_false_iff, decide_eq_true_eq, decide_eq_false_iff_not, Bool.not_eq_true', Bool.not_eq_false', beq_iff_eq, beq_eq_false_iff_ne, ne_eq] at hq); omega) ?_ | (refine CallC.now (c1) ?_; simp (maxSteps := 400000) (disch := omega) only [push_cast, ↓reduceIte, reduceCtorEq, Nat.reduceAdd, Nat.reduceSub, Nat.reduceEqDiff, Nat.reduceLeDiff, Nat.reduceLT, Nat.reduceBEq, Nat.reduceDiv, Nat.reduceMod, Nat.reducePow, Nat.reduceMul, Int.reduceToNat, Int.reduceLT, Int.reduceLE]) | fail)
  exact W_ret ⟨[_], ⟨rfl, rfl⟩, by unfold cdiv; simp; rfl⟩
end Go.Proofs.Ytfkjdjlcaojedaa

/- Platforms: small functions, determinants. -/
namespace Go.Proofs.Ytfkjdjlcaojedaa
open Go Sy
set_option maxRecDepth 100000
set_option maxHeartbeats 4000000
set_option linter.unusedVariables false
set_option linter.unusedSimpArgs false
def inR (x lo hi : Int) : Bool := decide (lo ≤ x) && decide (x ≤ hi)
theorem inR_iff {x lo hi : Int} : inR x lo hi = true ↔ lo ≤ x ∧ x ≤ hi := by simp [inR]
theorem fn53 (x lo hi : Int) : Sy.Fn Try.prog 53 [iv x, iv lo, iv hi] (bv (inR x lo hi)) := by
  refine Fn_of_W mixed Xt53 rfl ?_
  repeat' (first | refine WK_go ?_ | refine W_seqL ?_ | refine W_seq ?_ | (refine W_regL ?_; simp (maxSteps := 400000) (disch := omega) only [push_cast, ↓reduceIte, reduceCtorEq, Nat.reduceAdd, Nat.reduceSub, Nat.reduceEqDiff, Nat.reduceLeDiff, Nat.reduceLT, Nat.reduceBEq, Nat.reduceDiv, Nat.reduceMod, Nat.reducePow, Nat.reduceMul, Int.reduceToNat, Int.reduceLT, Int.reduceLE]) | refine W_block ?_ | (refine W_skip ?_; simp (maxSteps := 400000) (disch := omega) only [push_cast, ↓reduceIte, reduceCtorEq, Nat.reduceAdd, Nat.reduceSub, Nat.reduceEqDiff, Nat.reduceLeDiff, Nat.reduceLT, Nat.reduceBEq, Nat.reduceDiv, Nat.reduceMod, Nat.reducePow, Nat.reduceMul, Int.reduceToNat, Int.reduceLT, Int.reduceLE]) | (refine W_exit ?_; simp (maxSteps := 400000) (disch := omega) only [push_cast, ↓reduceIte, reduceCtorEq, Nat.reduceAdd, Nat.reduceSub, Nat.reduceEqDiff, Nat.reduceLeDiff, Nat.reduceLT, Nat.reduceBEq, Nat.reduceDiv, Nat.reduceMod, Nat.reducePow, Nat.reduceMul, Int.reduceToNat, Int.reduceLT, Int.reduceLE]) | refine And.intro (by omega) ?_ | refine And.intro (by intro hq; (try simp only [Bool.and_eq_true, Bool.or_eq_true, Bool.and_eq_false_iff, Bool.or_eq_false_iff, decide_eq_true_eq, decide_eq_false_iff_not, Bool.not_eq_true', Bool.not_eq_false', beq_iff_eq, beq_eq_false_iff_ne, ne_eq] at hq); omega) ?_ | fail)
  exact W_ret ⟨[_], ⟨rfl, rfl⟩, rfl⟩
def okMass (m : Int) : Bool := inR m 1 16777216
theorem fn54 (m : Int) : Sy.Fn Try.prog 54 [iv m] (bv (okMass m)) := by
  refine Fn_of_W mixed Xt54 rfl ?_
  repeat' (first | refine WK_go ?_ | refine W_seqL ?_ | refine W_seq ?_ | (refine W_regL ?_; simp (maxSteps := 400000) (disch := omega) only [push_cast, ↓reduceIte, reduceCtorEq, Nat.reduceAdd, Nat.reduceSub, Nat.reduceEqDiff, Nat.reduceLeDiff, Nat.reduceLT, Nat.reduceBEq, Nat.reduceDiv, Nat.reduceMod, Nat.reducePow, Nat.reduceMul, Int.reduceToNat, Int.reduceLT, Int.reduceLE]) | refine W_block ?_ | (refine W_skip ?_; simp (maxSteps := 400000) (disch := omega) only [push_cast, ↓reduceIte, reduceCtorEq, Nat.reduceAdd, Nat.reduceSub, Nat.reduceEqDiff, Nat.reduceLeDiff, Nat.reduceLT, Nat.reduceBEq, Nat.reduceDiv, Nat.reduceMod, Nat.reducePow, Nat.reduceMul, Int.reduceToNat, Int.reduceLT, Int.reduceLE]) | (refine W_exit ?_; simp (maxSteps := 400000) (disch := omega) only [push_cast, ↓reduceIte, reduceCtorEq, Nat.reduceAdd, Nat.reduceSub, Nat.reduceEqDiff, Nat.reduceLeDiff, Nat.reduceLT, Nat.reduceBEq, Nat.reduceDiv, Nat.reduceMod, Nat.reducePow, Nat.reduceMul, Int.reduceToNat, Int.reduceLT, Int.reduceLE]) | refine And.intro (by omega) ?_ | refine And.intro (by intro hq; (try simp only [Bool.and_eq_true, Bool.or_eq_true, Bool.and_eq_false_iff, Bool.or_eq_false_iff, decide_eq_true_eq, decide_eq_false_iff_not, Bool.not_eq_true', Bool.not_eq_false', beq_iff_eq, beq_eq_false_iff_ne, ne_eq] at hq); omega) ?_ | (refine CallC.now (fn53 _ _ _) ?_; simp (maxSteps := 400000) (disch := omega) only [push_cast, ↓reduceIte, reduceCtorEq, Nat.reduceAdd, Nat.reduceSub, Nat.reduceEqDiff, Nat.reduceLeDiff, Nat.reduceLT, Nat.reduceBEq, Nat.reduceDiv, Nat.reduceMod, Nat.reducePow, Nat.reduceMul, Int.reduceToNat, Int.reduceLT, Int.reduceLE]) | fail)
  exact W_ret ⟨[_], ⟨rfl, rfl⟩, rfl⟩
structure Pt where
  x : Int
  y : Int
abbrev cPt (p : Pt) : List AV := [iv p.x, iv p.y]
def okPt (p : Pt) : Bool := inR p.x (-262144) 262144 && inR p.y (-262144) 262144
theorem fn57 (p : Pt) : Sy.Fn Try.prog 57 [.agg (cPt p)] (bv (okPt p)) := by
  refine Fn_of_W mixed Xt57 rfl ?_
  repeat' (first | refine WK_go ?_ | refine W_seqL ?_ | refine W_seq ?_ | (refine W_regL ?_; simp (maxSteps := 400000) (disch := omega) only [push_cast, ↓reduceIte, reduceCtorEq, Nat.reduceAdd, Nat.reduceSub, Nat.reduceEqDiff, Nat.reduceLeDiff, Nat.reduceLT, Nat.reduceBEq, Nat.reduceDiv, Nat.reduceMod, Nat.reducePow, Nat.reduceMul, Int.reduceToNat, Int.reduceLT, Int.reduceLE]) | refine W_block ?_ | (refine W_skip ?_; simp (maxSteps := 400000) (disch := omega) only [push_cast, ↓reduceIte, reduceCtorEq, Nat.reduceAdd, Nat.reduceSub, Nat.reduceEqDiff, Nat.reduceLeDiff, Nat.reduceLT, Nat.reduceBEq, Nat.reduceDiv, Nat.reduceMod, Nat.reducePow, Nat.reduceMul, Int.reduceToNat, Int.reduceLT, Int.reduceLE]) | (refine W_exit ?_; simp (maxSteps := 400000) (disch := omega) only [push_cast, ↓reduceIte, reduceCtorEq, Nat.reduceAdd, Nat.reduceSub, Nat.reduceEqDiff, Nat.reduceLeDiff, Nat.reduceLT, Nat.reduceBEq, Nat.reduceDiv, Nat.reduceMod, Nat.reducePow, Nat.reduceMul, Int.reduceToNat, Int.reduceLT, Int.reduceLE]) | refine And.intro (by omega) ?_ | refine And.intro (by intro hq; (try simp only [Bool.and_eq_true, Bool.or_eq_true, Bool.and_eq_false_iff, Bool.or_eq_false_iff, decide_eq_true_eq, decide_eq_false_iff_not, Bool.not_eq_true', Bool.not_eq_false', beq_iff_eq, beq_eq_false_iff_ne, ne_eq] at hq); omega) ?_ | (refine CallC.now (fn53 _ _ _) ?_; simp (maxSteps := 400000) (disch := omega) only [push_cast, ↓reduceIte, reduceCtorEq, Nat.reduceAdd, Nat.reduceSub, Nat.reduceEqDiff, Nat.reduceLeDiff, Nat.reduceLT, Nat.reduceBEq, Nat.reduceDiv, Nat.reduceMod, Nat.reducePow, Nat.reduceMul, Int.reduceToNat, Int.reduceLT, Int.reduceLE]) | (refine CallC.go _ (fun _ => ⟨trivial, fn53 _ _ _⟩) rfl ?_; simp (maxSteps := 400000) (disch := omega) only [push_cast, ↓reduceIte, reduceCtorEq, Nat.reduceAdd, Nat.reduceSub, Nat.reduceEqDiff, Nat.reduceLeDiff, Nat.reduceLT, Nat.reduceBEq, Nat.reduceDiv, Nat.reduceMod, Nat.reducePow, Nat.reduceMul, Int.reduceToNat, Int.reduceLT, Int.reduceLE]) | fail)
  exact W_ret ⟨[_], ⟨rfl, rfl⟩, rfl⟩
def okPlace (x : Int) : Bool := inR x (-16777216) 16777216
theorem fn52 (x : Int) : Sy.Fn Try.prog 52 [iv x] (bv (okPlace x)) := by
  refine Fn_of_W mixed Xt52 rfl ?_
  repeat' (first | refine WK_go ?_ | refine W_seqL ?_ | refine W_seq ?_ | (refine W_regL ?_; simp (maxSteps := 400000) (disch := omega) only [push_cast, ↓reduceIte, reduceCtorEq, Nat.reduceAdd, Nat.reduceSub, Nat.reduceEqDiff, Nat.reduceLeDiff, Nat.reduceLT, Nat.reduceBEq, Nat.reduceDiv, Nat.reduceMod, Nat.reducePow, Nat.reduceMul, Int.reduceToNat, Int.reduceLT, Int.reduceLE]) | refine W_block ?_ | (refine W_skip ?_; simp (maxSteps := 400000) (disch := omega) only [push_cast, ↓reduceIte, reduceCtorEq, Nat.reduceAdd, Nat.reduceSub, Nat.reduceEqDiff, Nat.reduceLeDiff, Nat.reduceLT, Nat.reduceBEq, Nat.reduceDiv, Nat.reduceMod, Nat.reducePow, Nat.reduceMul, Int.reduceToNat, Int.reduceLT, Int.reduceLE]) | (refine W_exit ?_; simp (maxSteps := 400000) (disch := omega) only [push_cast, ↓reduceIte, reduceCtorEq, Nat.reduceAdd, Nat.reduceSub, Nat.reduceEqDiff, Nat.reduceLeDiff, Nat.reduceLT, Nat.reduceBEq, Nat.reduceDiv, Nat.reduceMod, Nat.reducePow, Nat.reduceMul, Int.reduceToNat, Int.reduceLT, Int.reduceLE]) | refine And.intro (by omega) ?_ | refine And.intro (by intro hq; (try simp only [Bool.and_eq_true, Bool.or_eq_true, Bool.and_eq_false_iff, Bool.or_eq_false_iff, decide_eq_true_eq, decide_eq_false_iff_not, Bool.not_eq_true', Bool.not_eq_false', beq_iff_eq, beq_eq_false_iff_ne, ne_eq] at hq); omega) ?_ | (refine CallC.now (fn53 _ _ _) ?_; simp (maxSteps := 400000) (disch := omega) only [push_cast, ↓reduceIte, reduceCtorEq, Nat.reduceAdd, Nat.reduceSub, Nat.reduceEqDiff, Nat.reduceLeDiff, Nat.reduceLT, Nat.reduceBEq, Nat.reduceDiv, Nat.reduceMod, Nat.reducePow, Nat.reduceMul, Int.reduceToNat, Int.reduceLT, Int.reduceLE]) | fail)
  exact W_ret ⟨[_], ⟨rfl, rfl⟩, rfl⟩
def levE (m a b x : Int) : Int := if (!okMass m || !okPlace a || !okPlace b || !okPlace x) = true then 3 else if b ≤ a then 9 else if inR x a b = false then 19 else 0
def levL (m a b x : Int) : Int := if levE m a b x = 0 then cdiv (m * (b - x)) (b - a) else 0
def levR (m a b x : Int) : Int := if levE m a b x = 0 then cdiv (m * (x - a)) (b - a) else 0
theorem levE_ok {m a b x : Int} (h : levE m a b x = 0) : (1 ≤ m ∧ m ≤ 16777216) ∧ (-16777216 ≤ a ∧ a < b ∧ b ≤ 16777216) ∧ a ≤ x ∧ x ≤ b := by
  unfold levE at h
  split at h
  · omega
  · rename_i h1
    split at h
    · omega
    · split at h
      · omega
      · rename_i h2 h3
        simp only [Bool.or_eq_true, Bool.not_eq_true', okMass, okPlace] at h1
        rw [Bool.not_eq_false, inR_iff] at h3
        simp only [not_or, Bool.not_eq_false, inR_iff] at h1
        omega
theorem ab_pos {a : Int} (h : 0 ≤ a) : ab a = a := by unfold ab; omega
theorem mulP {a b c d : Int} (h0 : 0 ≤ b) (h1 : a ≤ c) (h2 : b ≤ d) (h3 : 0 ≤ c) : a * b ≤ c * d := Int.mul_le_mul h1 h2 h0 h3
theorem frac_ok {m p w : Int} (hm : 1 ≤ m ∧ m ≤ 16777216) (hp : 0 ≤ p ∧ p ≤ w) (hw : 0 < w ∧ w ≤ 9223372036854775807) : FrOK m p w := by
  refine ⟨by omega, by omega, hw, ?_⟩
  rw [ab_pos (by omega), ab_pos hp.1]
  have := mulP (a := m) (b := p) (c := 16777216) (d := w) hp.1 hm.2 hp.2 (by omega)
  omega
theorem fn16 (m a b x : Int) : Sy.Fn Try.prog 16 [iv m, iv a, iv b, iv x] (.tup [iv (levL m a b x), iv (levR m a b x), iv (levE m a b x)]) := by
  refine Fn_of_W mixed Xt16 rfl ?_
  repeat' (first | refine WK_go ?_ | refine W_seqL ?_ | refine W_seq ?_ | (refine W_regL ?_; simp (maxSteps := 400000) (disch := omega) only [push_cast, ↓reduceIte, reduceCtorEq, Nat.reduceAdd, Nat.reduceSub, Nat.reduceEqDiff, Nat.reduceLeDiff, Nat.reduceLT, Nat.reduceBEq, Nat.reduceDiv, Nat.reduceMod, Nat.reducePow, Nat.reduceMul, Int.reduceToNat, Int.reduceLT, Int.reduceLE]) | refine W_block ?_ | (refine W_skip ?_; simp (maxSteps := 400000) (disch := omega) only [push_cast, ↓reduceIte, reduceCtorEq, Nat.reduceAdd, Nat.reduceSub, Nat.reduceEqDiff, Nat.reduceLeDiff, Nat.reduceLT, Nat.reduceBEq, Nat.reduceDiv, Nat.reduceMod, Nat.reducePow, Nat.reduceMul, Int.reduceToNat, Int.reduceLT, Int.reduceLE]) | (refine W_exit ?_; simp (maxSteps := 400000) (disch := omega) only [push_cast, ↓reduceIte, reduceCtorEq, Nat.reduceAdd, Nat.reduceSub, Nat.reduceEqDiff, Nat.reduceLeDiff, Nat.reduceLT, Nat.reduceBEq, Nat.reduceDiv, Nat.reduceMod, Nat.reducePow, Nat.reduceMul, Int.reduceToNat, Int.reduceLT, Int.reduceLE]) | refine And.intro (by omega) ?_ | refine And.intro (by intro hq; (try simp only [Bool.and_eq_true, Bool.or_eq_true, Bool.and_eq_false_iff, Bool.or_eq_false_iff, decide_eq_true_eq, decide_eq_false_iff_not, Bool.not_eq_true', Bool.not_eq_false', beq_iff_eq, beq_eq_false_iff_ne, ne_eq] at hq); omega) ?_ | (refine CallC.now (fn54 _) ?_; simp (maxSteps := 400000) (disch := omega) only [push_cast, ↓reduceIte, reduceCtorEq, Nat.reduceAdd, Nat.reduceSub, Nat.reduceEqDiff, Nat.reduceLeDiff, Nat.reduceLT, Nat.reduceBEq, Nat.reduceDiv, Nat.reduceMod, Nat.reducePow, Nat.reduceMul, Int.reduceToNat, Int.reduceLT, Int.reduceLE]) | (refine CallC.go _ (fun _ => ⟨trivial, fn52 _⟩) rfl ?_; simp (maxSteps := 400000) (disch := omega) only [push_cast, ↓reduceIte, reduceCtorEq, Nat.reduceAdd, Nat.reduceSub, Nat.reduceEqDiff, Nat.reduceLeDiff, Nat.reduceLT, Nat.reduceBEq, Nat.reduceDiv, Nat.reduceMod, Nat.reducePow, Nat.reduceMul, Int.reduceToNat, Int.reduceLT, Int.reduceLE]) | fail)
  refine W_cond (by rfl) (fun h1 => ?_) (fun h1 => ?_)
  · have e : levE m a b x = 3 := by unfold levE; rw [if_pos h1]
    unfold levL levR
    rw [if_neg (by omega), if_neg (by omega), e]
    repeat' (first | refine WK_go ?_ | refine W_seqL ?_ | refine W_seq ?_ | (refine W_regL ?_; simp (maxSteps := 400000) (disch := omega) only [push_cast, ↓reduceIte, reduceCtorEq, Nat.reduceAdd, Nat.reduceSub, Nat.reduceEqDiff, Nat.reduceLeDiff, Nat.reduceLT, Nat.reduceBEq, Nat.reduceDiv, Nat.reduceMod, Nat.reducePow, Nat.reduceMul, Int.reduceToNat, Int.reduceLT, Int.reduceLE]) | refine W_block ?_ | (refine W_skip ?_; simp (maxSteps := 400000) (disch := omega) only [push_cast, ↓reduceIte, reduceCtorEq, Nat.reduceAdd, Nat.reduceSub, Nat.reduceEqDiff, Nat.reduceLeDiff, Nat.reduceLT, Nat.reduceBEq, Nat.reduceDiv, Nat.reduceMod, Nat.reducePow, Nat.reduceMul, Int.reduceToNat, Int.reduceLT, Int.reduceLE]) | (refine W_exit ?_; simp (maxSteps := 400000) (disch := omega) only [push_cast, ↓reduceIte, reduceCtorEq, Nat.reduceAdd, Nat.reduceSub, Nat.reduceEqDiff, Nat.reduceLeDiff, Nat.reduceLT, Nat.reduceBEq, Nat.reduceDiv, Nat.reduceMod, Nat.reducePow, Nat.reduceMul, Int.reduceToNat, Int.reduceLT, Int.reduceLE]) | refine And.intro (by omega) ?_ | refine And.intro (by intro hq; (try simp only [Bool.and_eq_true, Bool.or_eq_true, Bool.and_eq_false_iff, Bool.or_eq_false_iff, decide_eq_true_eq, decide_eq_false_iff_not, Bool.not_eq_true', Bool.not_eq_false', beq_iff_eq, beq_eq_false_iff_ne, ne_eq] at hq); omega) ?_ | fail)
    exact W_ret ⟨[_, _, _], ⟨rfl, rfl, rfl, rfl⟩, rfl⟩
  repeat' (first | refine WK_go ?_ | refine W_seqL ?_ | refine W_seq ?_ | (refine W_regL ?_; simp (maxSteps := 400000) (disch := omega) only [push_cast, ↓reduceIte, reduceCtorEq, Nat.reduceAdd, Nat.reduceSub, Nat.reduceEqDiff, Nat.reduceLeDiff, Nat.reduceLT, Nat.reduceBEq, Nat.reduceDiv, Nat.reduceMod, Nat.reducePow, Nat.reduceMul, Int.reduceToNat, Int.reduceLT, Int.reduceLE]) | refine W_block ?_ | (refine W_skip ?_; simp (maxSteps := 400000) (disch := omega) only [push_cast, ↓reduceIte, reduceCtorEq, Nat.reduceAdd, Nat.reduceSub, Nat.reduceEqDiff, Nat.reduceLeDiff, Nat.reduceLT, Nat.reduceBEq, Nat.reduceDiv, Nat.reduceMod, Nat.reducePow, Nat.reduceMul, Int.reduceToNat, Int.reduceLT, Int.reduceLE]) | (refine W_exit ?_; simp (maxSteps := 400000) (disch := omega) only [push_cast, ↓reduceIte, reduceCtorEq, Nat.reduceAdd, Nat.reduceSub, Nat.reduceEqDiff, Nat.reduceLeDiff, Nat.reduceLT, Nat.reduceBEq, Nat.reduceDiv, Nat.reduceMod, Nat.reducePow, Nat.reduceMul, Int.reduceToNat, Int.reduceLT, Int.reduceLE]) | refine And.intro (by omega) ?_ | refine And.intro (by intro hq; (try simp only [Bool.and_eq_true, Bool.or_eq_true, Bool.and_eq_false_iff, Bool.or_eq_false_iff, decide_eq_true_eq, decide_eq_false_iff_not, Bool.not_eq_true', Bool.not_eq_false', beq_iff_eq, beq_eq_false_iff_ne, ne_eq] at hq); omega) ?_ | fail)
  refine W_condD (by rfl) (fun h2 => ?_) (fun h2 => ?_)
  · have e : levE m a b x = 9 := by unfold levE; rw [if_neg (by rw [h1]; decide), if_pos h2]
    unfold levL levR
    rw [if_neg (by omega), if_neg (by omega), e]
    repeat' (first | refine WK_go ?_ | refine W_seqL ?_ | refine W_seq ?_ | (refine W_regL ?_; simp (maxSteps := 400000) (disch := omega) only [push_cast, ↓reduceIte, reduceCtorEq, Nat.reduceAdd, Nat.reduceSub, Nat.reduceEqDiff, Nat.reduceLeDiff, Nat.reduceLT, Nat.reduceBEq, Nat.reduceDiv, Nat.reduceMod, Nat.reducePow, Nat.reduceMul, Int.reduceToNat, Int.reduceLT, Int.reduceLE]) | refine W_block ?_ | (refine W_skip ?_; simp (maxSteps := 400000) (disch := omega) only [push_cast, ↓reduceIte, reduceCtorEq, Nat.reduceAdd, Nat.reduceSub, Nat.reduceEqDiff, Nat.reduceLeDiff, Nat.reduceLT, Nat.reduceBEq, Nat.reduceDiv, Nat.reduceMod, Nat.reducePow, Nat.reduceMul, Int.reduceToNat, Int.reduceLT, Int.reduceLE]) | (refine W_exit ?_; simp (maxSteps := 400000) (disch := omega) only [push_cast, ↓reduceIte, reduceCtorEq, Nat.reduceAdd, Nat.reduceSub, Nat.reduceEqDiff, Nat.reduceLeDiff, Nat.reduceLT, Nat.reduceBEq, Nat.reduceDiv, Nat.reduceMod, Nat.reducePow, Nat.reduceMul, Int.reduceToNat, Int.reduceLT, Int.reduceLE]) | refine And.intro (by omega) ?_ | refine And.intro (by intro hq; (try simp only [Bool.and_eq_true, Bool.or_eq_true, Bool.and_eq_false_iff, Bool.or_eq_false_iff, decide_eq_true_eq, decide_eq_false_iff_not, Bool.not_eq_true', Bool.not_eq_false', beq_iff_eq, beq_eq_false_iff_ne, ne_eq] at hq); omega) ?_ | fail)
    exact W_ret ⟨[_, _, _], ⟨rfl, rfl, rfl, rfl⟩, rfl⟩
  repeat' (first | refine WK_go ?_ | refine W_seqL ?_ | refine W_seq ?_ | (refine W_regL ?_; simp (maxSteps := 400000) (disch := omega) only [push_cast, ↓reduceIte, reduceCtorEq, Nat.reduceAdd, Nat.reduceSub, Nat.reduceEqDiff, Nat.reduceLeDiff, Nat.reduceLT, Nat.reduceBEq, Nat.reduceDiv, Nat.reduceMod, Nat.reducePow, Nat.reduceMul, Int.reduceToNat, Int.reduceLT, Int.reduceLE]) | refine W_block ?_ | (refine W_skip ?_; simp (maxSteps := 400000) (disch := omega) only [push_cast, ↓reduceIte, reduceCtorEq, Nat.reduceAdd, Nat.reduceSub, Nat.reduceEqDiff, Nat.reduceLeDiff, Nat.reduceLT, Nat.reduceBEq, Nat.reduceDiv, Nat.reduceMod, Nat.reducePow, Nat.reduceMul, Int.reduceToNat, Int.reduceLT, Int.reduceLE]) | (refine W_exit ?_; simp (maxSteps := 400000) (disch := omega) only [push_cast, ↓reduceIte, reduceCtorEq, Nat.reduceAdd, Nat.reduceSub, Nat.reduceEqDiff, Nat.reduceLeDiff, Nat.reduceLT, Nat.reduceBEq, Nat.reduceDiv, Nat.reduceMod, Nat.reducePow, Nat.reduceMul, Int.reduceToNat, Int.reduceLT, Int.reduceLE]) | refine And.intro (by omega) ?_ | refine And.intro (by intro hq; (try simp only [Bool.and_eq_true, Bool.or_eq_true, Bool.and_eq_false_iff, Bool.or_eq_false_iff, decide_eq_true_eq, decide_eq_false_iff_not, Bool.not_eq_true', Bool.not_eq_false', beq_iff_eq, beq_eq_false_iff_ne, ne_eq] at hq); omega) ?_ | (refine CallC.now (fn53 _ _ _) ?_; simp (maxSteps := 400000) (disch := omega) only [push_cast, ↓reduceIte, reduceCtorEq, Nat.reduceAdd, Nat.reduceSub, Nat.reduceEqDiff, Nat.reduceLeDiff, Nat.reduceLT, Nat.reduceBEq, Nat.reduceDiv, Nat.reduceMod, Nat.reducePow, Nat.reduceMul, Int.reduceToNat, Int.reduceLT, Int.reduceLE]) | fail)
  refine W_cond (by rfl) (fun h3 => ?_) (fun h3 => ?_)
  · have e : levE m a b x = 19 := by unfold levE; rw [if_neg (by rw [h1]; decide), if_neg h2, if_pos (by simpa using h3)]
    unfold levL levR
    rw [if_neg (by omega), if_neg (by omega), e]
    repeat' (first | refine WK_go ?_ | refine W_seqL ?_ | refine W_seq ?_ | (refine W_regL ?_; simp (maxSteps := 400000) (disch := omega) only [push_cast, ↓reduceIte, reduceCtorEq, Nat.reduceAdd, Nat.reduceSub, Nat.reduceEqDiff, Nat.reduceLeDiff, Nat.reduceLT, Nat.reduceBEq, Nat.reduceDiv, Nat.reduceMod, Nat.reducePow, Nat.reduceMul, Int.reduceToNat, Int.reduceLT, Int.reduceLE]) | refine W_block ?_ | (refine W_skip ?_; simp (maxSteps := 400000) (disch := omega) only [push_cast, ↓reduceIte, reduceCtorEq, Nat.reduceAdd, Nat.reduceSub, Nat.reduceEqDiff, Nat.reduceLeDiff, Nat.reduceLT, Nat.reduceBEq, Nat.reduceDiv, Nat.reduceMod, Nat.reducePow, Nat.reduceMul, Int.reduceToNat, Int.reduceLT, Int.reduceLE]) | (refine W_exit ?_; simp (maxSteps := 400000) (disch := omega) only [push_cast, ↓reduceIte, reduceCtorEq, Nat.reduceAdd, Nat.reduceSub, Nat.reduceEqDiff, Nat.reduceLeDiff, Nat.reduceLT, Nat.reduceBEq, Nat.reduceDiv, Nat.reduceMod, Nat.reducePow, Nat.reduceMul, Int.reduceToNat, Int.reduceLT, Int.reduceLE]) | refine And.intro (by omega) ?_ | refine And.intro (by intro hq; (try simp only [Bool.and_eq_true, Bool.or_eq_true, Bool.and_eq_false_iff, Bool.or_eq_false_iff, decide_eq_true_eq, decide_eq_false_iff_not, Bool.not_eq_true', Bool.not_eq_false', beq_iff_eq, beq_eq_false_iff_ne, ne_eq] at hq); omega) ?_ | fail)
    exact W_ret ⟨[_, _, _], ⟨rfl, rfl, rfl, rfl⟩, rfl⟩
  have e : levE m a b x = 0 := by unfold levE; rw [if_neg (by rw [h1]; decide), if_neg h2, if_neg (by simpa using h3)]
  have ho := levE_ok e
  have c1 := fn55 m (b - x) (b - a) (frac_ok ho.1 (by omega) (by omega))
  have c2 := fn55 m (x - a) (b - a) (frac_ok ho.1 (by omega) (by omega))
  unfold levL levR
  rw [if_pos e, if_pos e, e]
  repeat' (first | refine WK_go ?_ | refine W_seqL ?_ | refine W_seq ?_ | (refine W_regL ?_; simp (maxSteps := 400000) (disch := omega) only [push_cast, ↓reduceIte, reduceCtorEq, Nat.reduceAdd, Nat.reduceSub, Nat.reduceEqDiff, Nat.reduceLeDiff, Nat.reduceLT, Nat.reduceBEq, Nat.reduceDiv, Nat.reduceMod, Nat.reducePow, Nat.reduceMul, Int.reduceToNat, Int.reduceLT, Int.reduceLE]) | refine W_block ?_ | (refine W_skip ?_; simp (maxSteps := 400000) (disch := omega) only [push_cast, ↓reduceIte, reduceCtorEq, Nat.reduceAdd, Nat.reduceSub, Nat.reduceEqDiff, Nat.reduceLeDiff, Nat.reduceLT, Nat.reduceBEq, Nat.reduceDiv, Nat.reduceMod, Nat.reducePow, Nat.reduceMul, Int.reduceToNat, Int.reduceLT, Int.reduceLE]) | (refine W_exit ?_; simp (maxSteps := 400000) (disch := omega) only [push_cast, ↓reduceIte, reduceCtorEq, Nat.reduceAdd, Nat.reduceSub, Nat.reduceEqDiff, Nat.reduceLeDiff, Nat.reduceLT, Nat.reduceBEq, Nat.reduceDiv, Nat.reduceMod, Nat.reducePow, Nat.reduceMul, Int.reduceToNat, Int.reduceLT, Int.reduceLE]) | refine And.intro (by omega) ?_ | refine And.intro (by intro hq; (try simp only [Bool.and_eq_true, Bool.or_eq_true, Bool.and_eq_false_iff, Bool.or_eq_false_iff, decide_eq_true_eq, decide_eq_false_iff_not, Bool.not_eq_true', Bool.not_eq_false', beq_iff_eq, beq_eq_false_iff_ne, ne_eq] at hq); omega) ?_ | (refine CallC.now (c1) ?_; simp (maxSteps := 400000) (disch := omega) only [push_cast, ↓reduceIte, reduceCtorEq, Nat.reduceAdd, Nat.reduceSub, Nat.reduceEqDiff, Nat.reduceLeDiff, Nat.reduceLT, Nat.reduceBEq, Nat.reduceDiv, Nat.reduceMod, Nat.reducePow, Nat.reduceMul, Int.reduceToNat, Int.reduceLT, Int.reduceLE]) | (refine CallC.now (c2) ?_; simp (maxSteps := 400000) (disch := omega) only [push_cast, ↓reduceIte, reduceCtorEq, Nat.reduceAdd, Nat.reduceSub, Nat.reduceEqDiff, Nat.reduceLeDiff, Nat.reduceLT, Nat.reduceBEq, Nat.reduceDiv, Nat.reduceMod, Nat.reducePow, Nat.reduceMul, Int.reduceToNat, Int.reduceLT, Int.reduceLE]) | fail)
  exact W_ret ⟨[_, _, _], ⟨rfl, rfl, rfl, rfl⟩, rfl⟩
end Go.Proofs.Ytfkjdjlcaojedaa

/- Determinants. -/
namespace Go.Proofs.Ytfkjdjlcaojedaa
open Go Sy
set_option maxRecDepth 100000
set_option maxHeartbeats 4000000
set_option linter.unusedVariables false
set_option linter.unusedSimpArgs false
/-- three rows of three numbers -/
def c9 (f : Nat → Int) : List AV := [iv (f 0), iv (f 1), iv (f 2), iv (f 3), iv (f 4), iv (f 5), iv (f 6), iv (f 7), iv (f 8)]
theorem nth9 (f : Nat → Int) (i : Nat) (h : i < 9) : nth (c9 f) i = iv (f i) := by
  rcases i with _ | _ | _ | _ | _ | _ | _ | _ | _ | i <;> first | rfl | omega
theorem len9 (f : Nat → Int) : (c9 f).length = 9 := rfl
theorem frz9 (f : Nat → Int) : frzAll (c9 f) = true := rfl
theorem ids9 {m : Nat → Option Blk} {n : Nat} (f : Nat → Int) : List.flatMap (ids m n) (c9 f) = [] := flat_frz n _ (frz9 f)
theorem take9 (f : Nat → Int) : List.take 9 (c9 f) = c9 f := rfl
theorem vw9 {m : Nat → Option Blk} {n : Nat} (f : Nat → Int) : List.map (view m n) (c9 f) = c9 f := by cases n <;> rfl
attribute [push_cast] nth9 len9 frz9 ids9 take9 vw9
def det (f : Nat → Int) : Int := f 0 * (f 4 * f 8 - f 7 * f 5) - f 1 * (f 3 * f 8 - f 6 * f 5) + f 2 * (f 3 * f 7 - f 6 * f 4)
/-- the numbers are small -/
structure Tab (f : Nat → Int) : Prop where
  n : ∀ g, g < 3 → 0 ≤ f (3 * g) ∧ f (3 * g) ≤ 48
  a : ∀ j, j < 9 → -6291456 ≤ f j ∧ f j ≤ 6291456
theorem mulB {a b A B C : Int} (ha : -A ≤ a ∧ a ≤ A) (hb : -B ≤ b ∧ b ≤ B) (hC : A * B = C) : -C ≤ a * b ∧ a * b ≤ C := by
  have h1 : (a * b).natAbs = a.natAbs * b.natAbs := Int.natAbs_mul ..
  have h2 : a.natAbs * b.natAbs ≤ A.natAbs * B.natAbs := Nat.mul_le_mul (by omega) (by omega)
  have h3 : A.natAbs * B.natAbs = C.natAbs := by rw [← hC, Int.natAbs_mul]
  have h4 : 0 ≤ C := by rw [← hC]; exact Int.mul_nonneg (by omega) (by omega)
  omega
theorem fn124 (f : Nat → Int) (a b : Nat) (ha : a < 3) (hb : b < 3) (h : Tab f) : Sy.Fn Try.prog 124 [iv a, iv b, .fp (c9 f) 0] (iv (f (3 + a) * f (6 + b) - f (6 + a) * f (3 + b))) := by
  refine Fn_of_W mixed Xt124 rfl ?_
  have h1 := mulB (h.a (3 + a) (by omega)) (h.a (6 + b) (by omega)) rfl
  have h2 := mulB (h.a (6 + a) (by omega)) (h.a (3 + b) (by omega)) rfl
  simp only [Int.reduceMul] at h1 h2
  repeat' (first | refine WK_go ?_ | refine W_seqL ?_ | refine W_seq ?_ | (refine W_regL ?_; simp (maxSteps := 400000) (disch := omega) only [push_cast, ↓reduceIte, reduceCtorEq, Nat.reduceAdd, Nat.reduceSub, Nat.reduceEqDiff, Nat.reduceLeDiff, Nat.reduceLT, Nat.reduceBEq, Nat.reduceDiv, Nat.reduceMod, Nat.reducePow, Nat.reduceMul, Int.reduceToNat, Int.reduceLT, Int.reduceLE, Nat.mul_one]) | refine W_block ?_ | (refine W_skip ?_; simp (maxSteps := 400000) (disch := omega) only [push_cast, ↓reduceIte, reduceCtorEq, Nat.reduceAdd, Nat.reduceSub, Nat.reduceEqDiff, Nat.reduceLeDiff, Nat.reduceLT, Nat.reduceBEq, Nat.reduceDiv, Nat.reduceMod, Nat.reducePow, Nat.reduceMul, Int.reduceToNat, Int.reduceLT, Int.reduceLE, Nat.mul_one]) | (refine W_exit ?_; simp (maxSteps := 400000) (disch := omega) only [push_cast, ↓reduceIte, reduceCtorEq, Nat.reduceAdd, Nat.reduceSub, Nat.reduceEqDiff, Nat.reduceLeDiff, Nat.reduceLT, Nat.reduceBEq, Nat.reduceDiv, Nat.reduceMod, Nat.reducePow, Nat.reduceMul, Int.reduceToNat, Int.reduceLT, Int.reduceLE, Nat.mul_one]) | refine And.intro (by omega) ?_ | refine And.intro (by intro hq; (try simp only [Bool.and_eq_true, Bool.or_eq_true, Bool.and_eq_false_iff, Bool.or_eq_false_iff, decide_eq_true_eq, decide_eq_false_iff_not, Bool.not_eq_true', Bool.not_eq_false', beq_iff_eq, beq_eq_false_iff_ne, ne_eq] at hq); omega) ?_ | fail)
  exact W_ret ⟨[_], ⟨rfl, rfl⟩, rfl⟩
theorem det_parts {f : Nat → Int} (h : Tab f) :
    (-3799912185593856 ≤ f 0 * (f 4 * f 8 - f 7 * f 5) ∧ f 0 * (f 4 * f 8 - f 7 * f 5) ≤ 3799912185593856) ∧
    (-3799912185593856 ≤ f 1 * (f 3 * f 8 - f 6 * f 5) ∧ f 1 * (f 3 * f 8 - f 6 * f 5) ≤ 3799912185593856) ∧
    (-3799912185593856 ≤ f 2 * (f 3 * f 7 - f 6 * f 4) ∧ f 2 * (f 3 * f 7 - f 6 * f 4) ≤ 3799912185593856) := by
  have n0 := h.n 0 (by omega)
  have n1 := h.n 1 (by omega)
  have n2 := h.n 2 (by omega)
  simp only [Nat.reduceMul] at n0 n1 n2
  have m1 := mulB (C := 39582418599936) (h.a 4 (by omega)) (h.a 8 (by omega)) (by decide)
  have m2 := mulB (C := 39582418599936) (h.a 7 (by omega)) (h.a 5 (by omega)) (by decide)
  have m3 := mulB (C := 301989888) (A := 48) (show -48 ≤ f 3 ∧ f 3 ≤ 48 by omega) (h.a 8 (by omega)) (by decide)
  have m4 := mulB (C := 301989888) (A := 48) (show -48 ≤ f 6 ∧ f 6 ≤ 48 by omega) (h.a 5 (by omega)) (by decide)
  have m5 := mulB (C := 301989888) (A := 48) (show -48 ≤ f 3 ∧ f 3 ≤ 48 by omega) (h.a 7 (by omega)) (by decide)
  have m6 := mulB (C := 301989888) (A := 48) (show -48 ≤ f 6 ∧ f 6 ≤ 48 by omega) (h.a 4 (by omega)) (by decide)
  exact ⟨mulB (A := 48) (B := 79164837199872) (by omega) (by omega) (by decide), mulB (A := 6291456) (B := 603979776) (h.a 1 (by omega)) (by omega) (by decide), mulB (A := 6291456) (B := 603979776) (h.a 2 (by omega)) (by omega) (by decide)⟩
theorem det_B {f : Nat → Int} (h : Tab f) : -11399736556781568 ≤ det f ∧ det f ≤ 11399736556781568 := by
  have := det_parts h
  unfold det
  omega
theorem fn95 (f : Nat → Int) (h : Tab f) : Sy.Fn Try.prog 95 [.agg (c9 f)] (iv (det f)) := by
  refine Fn_of_W mixed Xt95 rfl ?_
  have c12 := fn124 f 1 2 (by omega) (by omega) h
  have c02 := fn124 f 0 2 (by omega) (by omega) h
  have c01 := fn124 f 0 1 (by omega) (by omega) h
  obtain ⟨b1, b2, b3⟩ := det_parts h
  repeat' (first | refine WK_go ?_ | refine W_seqL ?_ | refine W_seq ?_ | (refine W_regL ?_; simp (maxSteps := 400000) (disch := omega) only [push_cast, ↓reduceIte, reduceCtorEq, Nat.reduceAdd, Nat.reduceSub, Nat.reduceEqDiff, Nat.reduceLeDiff, Nat.reduceLT, Nat.reduceBEq, Nat.reduceDiv, Nat.reduceMod, Nat.reducePow, Nat.reduceMul, Int.reduceToNat, Int.reduceLT, Int.reduceLE]) | refine W_block ?_ | (refine W_skip ?_; simp (maxSteps := 400000) (disch := omega) only [push_cast, ↓reduceIte, reduceCtorEq, Nat.reduceAdd, Nat.reduceSub, Nat.reduceEqDiff, Nat.reduceLeDiff, Nat.reduceLT, Nat.reduceBEq, Nat.reduceDiv, Nat.reduceMod, Nat.reducePow, Nat.reduceMul, Int.reduceToNat, Int.reduceLT, Int.reduceLE]) | (refine W_exit ?_; simp (maxSteps := 400000) (disch := omega) only [push_cast, ↓reduceIte, reduceCtorEq, Nat.reduceAdd, Nat.reduceSub, Nat.reduceEqDiff, Nat.reduceLeDiff, Nat.reduceLT, Nat.reduceBEq, Nat.reduceDiv, Nat.reduceMod, Nat.reducePow, Nat.reduceMul, Int.reduceToNat, Int.reduceLT, Int.reduceLE]) | refine And.intro (by omega) ?_ | refine And.intro (by intro hq; (try simp only [Bool.and_eq_true, Bool.or_eq_true, Bool.and_eq_false_iff, Bool.or_eq_false_iff, decide_eq_true_eq, decide_eq_false_iff_not, Bool.not_eq_true', Bool.not_eq_false', beq_iff_eq, beq_eq_false_iff_ne, ne_eq] at hq); omega) ?_ | (refine CallC.now (c12) ?_; simp (maxSteps := 400000) (disch := omega) only [push_cast, ↓reduceIte, reduceCtorEq, Nat.reduceAdd, Nat.reduceSub, Nat.reduceEqDiff, Nat.reduceLeDiff, Nat.reduceLT, Nat.reduceBEq, Nat.reduceDiv, Nat.reduceMod, Nat.reducePow, Nat.reduceMul, Int.reduceToNat, Int.reduceLT, Int.reduceLE]) | (refine CallC.now (c02) ?_; simp (maxSteps := 400000) (disch := omega) only [push_cast, ↓reduceIte, reduceCtorEq, Nat.reduceAdd, Nat.reduceSub, Nat.reduceEqDiff, Nat.reduceLeDiff, Nat.reduceLT, Nat.reduceBEq, Nat.reduceDiv, Nat.reduceMod, Nat.reducePow, Nat.reduceMul, Int.reduceToNat, Int.reduceLT, Int.reduceLE]) | (refine CallC.now (c01) ?_; simp (maxSteps := 400000) (disch := omega) only [push_cast, ↓reduceIte, reduceCtorEq, Nat.reduceAdd, Nat.reduceSub, Nat.reduceEqDiff, Nat.reduceLeDiff, Nat.reduceLT, Nat.reduceBEq, Nat.reduceDiv, Nat.reduceMod, Nat.reducePow, Nat.reduceMul, Int.reduceToNat, Int.reduceLT, Int.reduceLE]) | fail)
  exact W_ret ⟨[_], ⟨rfl, rfl⟩, rfl⟩
end Go.Proofs.Ytfkjdjlcaojedaa

/- Platforms: the deck. -/
namespace Go.Proofs.Ytfkjdjlcaojedaa
open Go Sy
set_option maxRecDepth 100000
set_option maxHeartbeats 4000000
set_option linter.unusedVariables false
set_option linter.unusedSimpArgs false
structure Sup where
  x : Int
  y : Int
  g : Int
  limit : Int
  least : Int
  most : Int
def cS (s : Sup) : List AV := [iv s.x, iv s.y, iv s.g, iv s.limit, iv s.least, iv s.most]
theorem nS0 (s : Sup) : nth (cS s) 0 = iv s.x := rfl
theorem nS1 (s : Sup) : nth (cS s) 1 = iv s.y := rfl
theorem nS2 (s : Sup) : nth (cS s) 2 = iv s.g := rfl
theorem nS3 (s : Sup) : nth (cS s) 3 = iv s.limit := rfl
theorem nS4 (s : Sup) : nth (cS s) 4 = iv s.least := rfl
theorem nS5 (s : Sup) : nth (cS s) 5 = iv s.most := rfl
theorem lS (s : Sup) : (cS s).length = 6 := rfl
theorem tS (s : Sup) : List.take 6 (cS s) = cS s := rfl
theorem frS (s : Sup) : frzAll (cS s) = true := rfl
theorem iS {m : Nat → Option Blk} {n : Nat} (s : Sup) : List.flatMap (ids m n) (cS s) = [] := flat_frz n _ (frS s)
attribute [push_cast] nS0 nS1 nS2 nS3 nS4 nS5 lS tS frS iS
def dS : Sup := ⟨0, 0, 0, 0, 0, 0⟩
abbrev aP (ps : List Sup) : AV := .sl 6 dS cS ps
def sp (ps : List Sup) (i : Nat) : Sup := ps.getD i dS
def supB (s : Sup) : Bool := inR s.x (-131072) 131072 && inR s.y (-131072) 131072 && decide (0 ≤ s.g) && decide (s.g ≤ 2) && inR s.limit 1 1048576 && decide (0 ≤ s.least) && decide (s.least ≤ s.most) && decide (s.most ≤ 4096)
def pick (s : Sup) : Nat → Int
  | 0 => 1
  | 1 => s.x
  | _ => s.y
def addK (f : Nat → Int) (s : Sup) (k : Nat) (j : Nat) : Int := f j + if j / 3 = s.g.toNat ∧ j % 3 < k then pick s (j % 3) else 0
def addS (f : Nat → Int) (s : Sup) : Nat → Int := addK f s 3
def sumsL (ps : List Sup) : Nat → Int := ps.foldl addS (fun _ => 0)
theorem sumsL_append (ps : List Sup) (s : Sup) : sumsL (ps ++ [s]) = addS (sumsL ps) s := by simp [sumsL, List.foldl_append]
theorem take_sp (ps : List Sup) (i : Nat) (h : i < ps.length) : ps.take (i + 1) = ps.take i ++ [sp ps i] := by
  rw [List.take_succ_eq_append_getElem h]
  simp [sp, h]
def cDk (ps : List Sup) (f : Nat → Int) (w : Int) : List AV := [.sl 6 dS cS ps, iv (f 0), iv (f 1), iv (f 2), iv (f 3), iv (f 4), iv (f 5), iv (f 6), iv (f 7), iv (f 8), iv w]
theorem nD0 (ps : List Sup) (f : Nat → Int) (w : Int) : nth (cDk ps f w) 0 = .sl 6 dS cS ps := rfl
theorem nDw (ps : List Sup) (f : Nat → Int) (w : Int) : nth (cDk ps f w) 10 = iv w := rfl
theorem nDf (ps : List Sup) (f : Nat → Int) (w : Int) (j : Nat) (h : j < 9) : nth (cDk ps f w) (1 + j) = iv (f j) := by
  rcases j with _ | _ | _ | _ | _ | _ | _ | _ | _ | j <;> first | rfl | omega
theorem lD (ps : List Sup) (f : Nat → Int) (w : Int) : (cDk ps f w).length = 11 := rfl
theorem frD (ps : List Sup) (f : Nat → Int) (w : Int) : frzAll (cDk ps f w) = true := rfl
theorem iD {m : Nat → Option Blk} {n : Nat} (ps : List Sup) (f : Nat → Int) (w : Int) : List.flatMap (ids m n) (cDk ps f w) = [] := flat_frz n _ (frD ps f w)
theorem cutD (ps : List Sup) (f : Nat → Int) (w : Int) : List.take 9 (List.drop 1 (cDk ps f w)) = c9 f := rfl
attribute [push_cast] nD0 nDw nDf lD frD iD cutD
abbrev upd9 (f : Nat → Int) (j : Nat) (v : Int) : Nat → Int := fun i => if i = j then v else f i
theorem setD (ps : List Sup) (f : Nat → Int) (w : Int) (j : Nat) (h : j < 9) (v : Int) : List.take (1 + j) (cDk ps f w) ++ [iv v] ++ List.drop (1 + j + 1) (cDk ps f w) = cDk ps (upd9 f j v) w := by
  rcases j with _ | _ | _ | _ | _ | _ | _ | _ | _ | j <;> first | rfl | omega
theorem setDw (ps : List Sup) (f : Nat → Int) (w v : Int) : List.take 10 (cDk ps f w) ++ [iv v] ++ List.drop 11 (cDk ps f w) = cDk ps f v := rfl
noncomputable def chkP (ps : List Sup) : Int := if ps.length < 3 ∨ 48 < ps.length then 6 else if ps.all supB = false then 2 else if det (sumsL ps) = 0 then 9 else 0
abbrev aDk (ps : List Sup) : AV := .fp (cDk ps (sumsL ps) (det (sumsL ps))) 0
noncomputable def dkR (ps : List Sup) : AV := if chkP ps = 0 then .tup [aDk ps, iv 0] else .tup [.v (.pointer none), iv (chkP ps)]
/-- the sums are small -/
structure Small (f : Nat → Int) (i : Nat) : Prop where
  n : ∀ g, g < 3 → 0 ≤ f (3 * g) ∧ f (3 * g) ≤ i
  a : ∀ j, j < 9 → -(131072 * (i : Int)) ≤ f j ∧ f j ≤ 131072 * i
  r : ∀ g k, g < 3 → k < 3 → -(131072 * f (3 * g)) ≤ f (3 * g + k) ∧ f (3 * g + k) ≤ 131072 * f (3 * g)
theorem Small.tab {f : Nat → Int} {i : Nat} (h : Small f i) (hi : i ≤ 48) : Tab f :=
  ⟨fun g hg => by have := h.n g hg; omega, fun j hj => by have := h.a j hj; omega⟩
theorem supB_iff {s : Sup} : supB s = true ↔ (-131072 ≤ s.x ∧ s.x ≤ 131072) ∧ (-131072 ≤ s.y ∧ s.y ≤ 131072) ∧ (0 ≤ s.g ∧ s.g ≤ 2) ∧ (1 ≤ s.limit ∧ s.limit ≤ 1048576) ∧ 0 ≤ s.least ∧ s.least ≤ s.most ∧ s.most ≤ 4096 := by
  simp only [supB, Bool.and_eq_true, inR_iff, decide_eq_true_eq]
  omega
theorem pick_small {s : Sup} (h : supB s = true) (k : Nat) : -131072 ≤ pick s k ∧ pick s k ≤ 131072 := by
  have := supB_iff.1 h
  rcases k with _ | _ | k <;> simp only [pick] <;> omega
theorem Small.add {f : Nat → Int} {i : Nat} {s : Sup} (h : Small f i) (hs : supB s = true) : Small (addS f s) (i + 1) := by
  refine ⟨fun g hg => ?_, fun j hj => ?_, fun g k hg hk => ?_⟩
  · have h1 := h.n g hg
    unfold addS addK
    have e : 3 * g % 3 = 0 := by omega
    rw [e]
    simp only [pick]
    split <;> omega
  · have h1 := h.a j hj
    have h2 := pick_small hs (j % 3)
    unfold addS addK
    split <;> omega
  · have h1 := h.r g k hg hk
    have h2 := pick_small hs k
    unfold addS addK
    rw [show 3 * g / 3 = g by omega, show 3 * g % 3 = 0 by omega, show (3 * g + k) / 3 = g by omega, show (3 * g + k) % 3 = k by omega]
    by_cases e : g = s.g.toNat
    · rw [if_pos ⟨e, by omega⟩, if_pos ⟨e, hk⟩]
      simp only [pick] at h2 ⊢
      omega
    · rw [if_neg (fun q => e q.1), if_neg (fun q => e q.1)]
      omega
theorem small0 : Small (fun _ => 0) 0 := ⟨fun g hg => by omega, fun j hj => by omega, fun g k hg hk => by omega⟩
theorem addK_zero (f : Nat → Int) (s : Sup) : addK f s 0 = f := by
  funext j; unfold addK; rw [if_neg (by omega)]; omega
theorem addK_succ (f : Nat → Int) (s : Sup) (k g : Nat) (hg : s.g = g) (hk : k < 3) : upd9 (addK f s k) (g * 3 + k) (f (g * 3 + k) + pick s k) = addK f s (k + 1) := by
  funext j
  unfold upd9 addK
  have e : s.g.toNat = g := by omega
  rw [e]
  by_cases h : j = g * 3 + k
  · rw [if_pos h, if_pos (by omega), h, show (g * 3 + k) % 3 = k by omega]
  · rw [if_neg h]
    by_cases h2 : j / 3 = g ∧ j % 3 < k
    · rw [if_pos h2, if_pos (by omega)]
    · rw [if_neg h2, if_neg (by omega)]
theorem addK_here (f : Nat → Int) (s : Sup) (k g : Nat) (hg : s.g = g) (hk : k < 3) : addK f s k (g * 3 + k) = f (g * 3 + k) := by
  unfold addK; rw [if_neg (by omega)]; omega
end Go.Proofs.Ytfkjdjlcaojedaa

/- Platforms: newDeck. -/
namespace Go.Proofs.Ytfkjdjlcaojedaa
open Go Sy
set_option maxRecDepth 100000
set_option maxHeartbeats 4000000
set_option linter.unusedVariables false
set_option linter.unusedSimpArgs false
theorem dkR_bad {ps : List Sup} {e : Int} (h : chkP ps = e) (he : e ≠ 0) : dkR ps = .tup [.v (.pointer none), iv e] := by
  unfold dkR; rw [if_neg (by omega), h]
theorem all_bad {ps : List Sup} {i : Nat} (hi : i < ps.length) (h : supB (sp ps i) = false) : ps.all supB = false := by
  rw [← Bool.not_eq_true, List.all_eq_true]
  intro hx
  have : sp ps i ∈ ps := by simp only [sp, List.getD, List.getElem?_eq_getElem hi, Option.getD_some]; exact List.getElem_mem hi
  rw [hx _ this] at h; cases h
theorem all_good {ps : List Sup} (h : ∀ i, i < ps.length → supB (sp ps i) = true) : ps.all supB = true := by
  rw [List.all_eq_true]
  intro x hx
  obtain ⟨i, hi⟩ := List.mem_iff_getElem?.1 hx
  have h1 := (List.getElem?_eq_some_iff.1 hi).1
  have := h i h1
  simp only [sp, List.getD, hi, Option.getD_some] at this
  exact this
theorem npick (s : Sup) (k : Nat) (h : k < 3) : nth [iv 1, iv s.x, iv s.y] (k * 1) = iv (pick s k) := by
  rcases k with _ | _ | _ | k <;> first | rfl | omega
theorem fn56 (ps : List Sup) (hl : ps.length ≤ 140737488355328) : Sy.Fn Try.prog 56 [aP ps] (dkR ps) := by
  refine Fn_of_W mixed Xt56 rfl ?_
  repeat' (first | refine WK_go ?_ | refine W_seqL ?_ | refine W_seq ?_ | (refine W_regL ?_; simp (maxSteps := 400000) (disch := omega) only [push_cast, ↓reduceIte, reduceCtorEq, Nat.reduceAdd, Nat.reduceSub, Nat.reduceEqDiff, Nat.reduceLeDiff, Nat.reduceLT, Nat.reduceBEq, Nat.reduceDiv, Nat.reduceMod, Nat.reducePow, Nat.reduceMul, Int.reduceToNat, Int.reduceLT, Int.reduceLE]) | refine W_block ?_ | (refine W_skip ?_; simp (maxSteps := 400000) (disch := omega) only [push_cast, ↓reduceIte, reduceCtorEq, Nat.reduceAdd, Nat.reduceSub, Nat.reduceEqDiff, Nat.reduceLeDiff, Nat.reduceLT, Nat.reduceBEq, Nat.reduceDiv, Nat.reduceMod, Nat.reducePow, Nat.reduceMul, Int.reduceToNat, Int.reduceLT, Int.reduceLE]) | (refine W_exit ?_; simp (maxSteps := 400000) (disch := omega) only [push_cast, ↓reduceIte, reduceCtorEq, Nat.reduceAdd, Nat.reduceSub, Nat.reduceEqDiff, Nat.reduceLeDiff, Nat.reduceLT, Nat.reduceBEq, Nat.reduceDiv, Nat.reduceMod, Nat.reducePow, Nat.reduceMul, Int.reduceToNat, Int.reduceLT, Int.reduceLE]) | refine And.intro (by omega) ?_ | refine And.intro (by intro hq; (try simp only [Bool.and_eq_true, Bool.or_eq_true, Bool.and_eq_false_iff, Bool.or_eq_false_iff, decide_eq_true_eq, decide_eq_false_iff_not, Bool.not_eq_true', Bool.not_eq_false', beq_iff_eq, beq_eq_false_iff_ne, ne_eq] at hq); omega) ?_ | fail)
  refine W_cond (by rfl) (fun h => ?_) (fun h => ?_)
  · have e : chkP ps = 6 := by
      unfold chkP
      rw [if_pos (by simp only [Bool.or_eq_true, decide_eq_true_eq] at h; omega)]
    rw [dkR_bad e (by decide)]
    repeat' (first | refine WK_go ?_ | refine W_seqL ?_ | refine W_seq ?_ | (refine W_regL ?_; simp (maxSteps := 400000) (disch := omega) only [push_cast, ↓reduceIte, reduceCtorEq, Nat.reduceAdd, Nat.reduceSub, Nat.reduceEqDiff, Nat.reduceLeDiff, Nat.reduceLT, Nat.reduceBEq, Nat.reduceDiv, Nat.reduceMod, Nat.reducePow, Nat.reduceMul, Int.reduceToNat, Int.reduceLT, Int.reduceLE]) | refine W_block ?_ | (refine W_skip ?_; simp (maxSteps := 400000) (disch := omega) only [push_cast, ↓reduceIte, reduceCtorEq, Nat.reduceAdd, Nat.reduceSub, Nat.reduceEqDiff, Nat.reduceLeDiff, Nat.reduceLT, Nat.reduceBEq, Nat.reduceDiv, Nat.reduceMod, Nat.reducePow, Nat.reduceMul, Int.reduceToNat, Int.reduceLT, Int.reduceLE]) | (refine W_exit ?_; simp (maxSteps := 400000) (disch := omega) only [push_cast, ↓reduceIte, reduceCtorEq, Nat.reduceAdd, Nat.reduceSub, Nat.reduceEqDiff, Nat.reduceLeDiff, Nat.reduceLT, Nat.reduceBEq, Nat.reduceDiv, Nat.reduceMod, Nat.reducePow, Nat.reduceMul, Int.reduceToNat, Int.reduceLT, Int.reduceLE]) | refine And.intro (by omega) ?_ | refine And.intro (by intro hq; (try simp only [Bool.and_eq_true, Bool.or_eq_true, Bool.and_eq_false_iff, Bool.or_eq_false_iff, decide_eq_true_eq, decide_eq_false_iff_not, Bool.not_eq_true', Bool.not_eq_false', beq_iff_eq, beq_eq_false_iff_ne, ne_eq] at hq); omega) ?_ | fail)
    exact W_ret ⟨[_, _], ⟨rfl, rfl, rfl⟩, rfl⟩
  simp only [Bool.or_eq_false_iff, decide_eq_false_iff_not] at h
  have hlen : 3 ≤ ps.length ∧ ps.length ≤ 48 := by omega
  repeat' (first | refine WK_go ?_ | refine W_seqL ?_ | refine W_seq ?_ | (refine W_regL ?_; simp (maxSteps := 400000) (disch := omega) only [push_cast, ↓reduceIte, reduceCtorEq, Nat.reduceAdd, Nat.reduceSub, Nat.reduceEqDiff, Nat.reduceLeDiff, Nat.reduceLT, Nat.reduceBEq, Nat.reduceDiv, Nat.reduceMod, Nat.reducePow, Nat.reduceMul, Int.reduceToNat, Int.reduceLT, Int.reduceLE]) | refine W_block ?_ | (refine W_skip ?_; simp (maxSteps := 400000) (disch := omega) only [push_cast, ↓reduceIte, reduceCtorEq, Nat.reduceAdd, Nat.reduceSub, Nat.reduceEqDiff, Nat.reduceLeDiff, Nat.reduceLT, Nat.reduceBEq, Nat.reduceDiv, Nat.reduceMod, Nat.reducePow, Nat.reduceMul, Int.reduceToNat, Int.reduceLT, Int.reduceLE]) | (refine W_exit ?_; simp (maxSteps := 400000) (disch := omega) only [push_cast, ↓reduceIte, reduceCtorEq, Nat.reduceAdd, Nat.reduceSub, Nat.reduceEqDiff, Nat.reduceLeDiff, Nat.reduceLT, Nat.reduceBEq, Nat.reduceDiv, Nat.reduceMod, Nat.reducePow, Nat.reduceMul, Int.reduceToNat, Int.reduceLT, Int.reduceLE]) | refine And.intro (by omega) ?_ | refine And.intro (by intro hq; (try simp only [Bool.and_eq_true, Bool.or_eq_true, Bool.and_eq_false_iff, Bool.or_eq_false_iff, decide_eq_true_eq, decide_eq_false_iff_not, Bool.not_eq_true', Bool.not_eq_false', beq_iff_eq, beq_eq_false_iff_ne, ne_eq] at hq); omega) ?_ | fail)
  refine W_loopU (fun i : Nat => [(23, iv i)]) (fun i => [(12, .cells (cDk ps (sumsL (ps.take i)) 0))]) (fun i => i ≤ ps.length ∧ (∀ j, j < i → supB (sp ps j) = true) ∧ Small (sumsL (ps.take i)) i) (fun i => ps.length - i) 0 ⟨by omega, fun j hj => by omega, by rw [List.take_zero]; exact small0⟩ (by rfl) (by rw [List.take_zero]; rfl) (fun i hi => ?_)
  obtain ⟨hi, hall, hsm⟩ := hi
  generalize hf : sumsL (ps.take i) = f at *
  simp (maxSteps := 400000) (disch := omega) only [push_cast, ↓reduceIte, reduceCtorEq, Nat.reduceAdd, Nat.reduceSub, Nat.reduceEqDiff, Nat.reduceLeDiff, Nat.reduceLT, Nat.reduceBEq, Nat.reduceDiv, Nat.reduceMod, Nat.reducePow, Nat.reduceMul, Int.reduceToNat, Int.reduceLT, Int.reduceLE]
  repeat' (first | refine WK_go ?_ | refine W_seqL ?_ | refine W_seq ?_ | (refine W_regL ?_; simp (maxSteps := 400000) (disch := omega) only [push_cast, ↓reduceIte, reduceCtorEq, Nat.reduceAdd, Nat.reduceSub, Nat.reduceEqDiff, Nat.reduceLeDiff, Nat.reduceLT, Nat.reduceBEq, Nat.reduceDiv, Nat.reduceMod, Nat.reducePow, Nat.reduceMul, Int.reduceToNat, Int.reduceLT, Int.reduceLE]) | refine W_block ?_ | (refine W_skip ?_; simp (maxSteps := 400000) (disch := omega) only [push_cast, ↓reduceIte, reduceCtorEq, Nat.reduceAdd, Nat.reduceSub, Nat.reduceEqDiff, Nat.reduceLeDiff, Nat.reduceLT, Nat.reduceBEq, Nat.reduceDiv, Nat.reduceMod, Nat.reducePow, Nat.reduceMul, Int.reduceToNat, Int.reduceLT, Int.reduceLE]) | (refine W_exit ?_; simp (maxSteps := 400000) (disch := omega) only [push_cast, ↓reduceIte, reduceCtorEq, Nat.reduceAdd, Nat.reduceSub, Nat.reduceEqDiff, Nat.reduceLeDiff, Nat.reduceLT, Nat.reduceBEq, Nat.reduceDiv, Nat.reduceMod, Nat.reducePow, Nat.reduceMul, Int.reduceToNat, Int.reduceLT, Int.reduceLE]) | refine And.intro (by omega) ?_ | refine And.intro (by intro hq; (try simp only [Bool.and_eq_true, Bool.or_eq_true, Bool.and_eq_false_iff, Bool.or_eq_false_iff, decide_eq_true_eq, decide_eq_false_iff_not, Bool.not_eq_true', Bool.not_eq_false', beq_iff_eq, beq_eq_false_iff_ne, ne_eq] at hq); omega) ?_ | fail)
  refine W_condD (by rfl) (fun h5 => ?_) (fun h5 => ?_)
  · have hlt : i < ps.length := by omega
    have hsp : ps.getD i dS = sp ps i := rfl
    generalize hs : sp ps i = s at *
    repeat' (first | refine WK_go ?_ | refine W_seqL ?_ | refine W_seq ?_ | (refine W_regL ?_; simp (maxSteps := 400000) (disch := omega) only [push_cast, ↓reduceIte, reduceCtorEq, Nat.reduceAdd, Nat.reduceSub, Nat.reduceEqDiff, Nat.reduceLeDiff, Nat.reduceLT, Nat.reduceBEq, Nat.reduceDiv, Nat.reduceMod, Nat.reducePow, Nat.reduceMul, Int.reduceToNat, Int.reduceLT, Int.reduceLE, hsp]) | refine W_block ?_ | (refine W_skip ?_; simp (maxSteps := 400000) (disch := omega) only [push_cast, ↓reduceIte, reduceCtorEq, Nat.reduceAdd, Nat.reduceSub, Nat.reduceEqDiff, Nat.reduceLeDiff, Nat.reduceLT, Nat.reduceBEq, Nat.reduceDiv, Nat.reduceMod, Nat.reducePow, Nat.reduceMul, Int.reduceToNat, Int.reduceLT, Int.reduceLE, hsp]) | (refine W_exit ?_; simp (maxSteps := 400000) (disch := omega) only [push_cast, ↓reduceIte, reduceCtorEq, Nat.reduceAdd, Nat.reduceSub, Nat.reduceEqDiff, Nat.reduceLeDiff, Nat.reduceLT, Nat.reduceBEq, Nat.reduceDiv, Nat.reduceMod, Nat.reducePow, Nat.reduceMul, Int.reduceToNat, Int.reduceLT, Int.reduceLE, hsp]) | refine And.intro (by omega) ?_ | refine And.intro (by intro hq; (try simp only [Bool.and_eq_true, Bool.or_eq_true, Bool.and_eq_false_iff, Bool.or_eq_false_iff, decide_eq_true_eq, decide_eq_false_iff_not, Bool.not_eq_true', Bool.not_eq_false', beq_iff_eq, beq_eq_false_iff_ne, ne_eq] at hq); omega) ?_ | (refine CallC.now (fn53 _ _ _) ?_; simp (maxSteps := 400000) (disch := omega) only [push_cast, ↓reduceIte, reduceCtorEq, Nat.reduceAdd, Nat.reduceSub, Nat.reduceEqDiff, Nat.reduceLeDiff, Nat.reduceLT, Nat.reduceBEq, Nat.reduceDiv, Nat.reduceMod, Nat.reducePow, Nat.reduceMul, Int.reduceToNat, Int.reduceLT, Int.reduceLE, hsp]) | (refine CallC.go _ (fun _ => ⟨trivial, fn53 _ _ _⟩) rfl ?_; simp (maxSteps := 400000) (disch := omega) only [push_cast, ↓reduceIte, reduceCtorEq, Nat.reduceAdd, Nat.reduceSub, Nat.reduceEqDiff, Nat.reduceLeDiff, Nat.reduceLT, Nat.reduceBEq, Nat.reduceDiv, Nat.reduceMod, Nat.reducePow, Nat.reduceMul, Int.reduceToNat, Int.reduceLT, Int.reduceLE, hsp]) | fail)
    have key : (!(inR s.x (-131072) 131072 && inR s.y (-131072) 131072 && decide (0 ≤ s.g) && decide (s.g ≤ 2)) || !inR s.limit 1 1048576 || decide (s.least < 0) || decide (s.most < s.least) || decide (4096 < s.most)) = !supB s := by
      rw [Bool.eq_iff_iff]
      simp only [supB, Bool.or_eq_true, Bool.not_eq_true', Bool.and_eq_false_iff, Bool.and_eq_true, decide_eq_true_eq, decide_eq_false_iff_not]
      generalize inR s.x (-131072) 131072 = b1
      generalize inR s.y (-131072) 131072 = b2
      generalize inR s.limit 1 1048576 = b3
      cases b1 <;> cases b2 <;> cases b3 <;> simp only [true_or, or_true, false_or, or_false, reduceCtorEq] <;> omega
    rw [key]
    refine W_cond (by rfl) (fun hb => ?_) (fun hb => ?_)
    · have e : chkP ps = 2 := by
        unfold chkP
        rw [if_neg (by omega), if_pos (all_bad hlt (by rw [hs]; simpa using hb))]
      rw [dkR_bad e (by decide)]
      repeat' (first | refine WK_go ?_ | refine W_seqL ?_ | refine W_seq ?_ | (refine W_regL ?_; simp (maxSteps := 400000) (disch := omega) only [push_cast, ↓reduceIte, reduceCtorEq, Nat.reduceAdd, Nat.reduceSub, Nat.reduceEqDiff, Nat.reduceLeDiff, Nat.reduceLT, Nat.reduceBEq, Nat.reduceDiv, Nat.reduceMod, Nat.reducePow, Nat.reduceMul, Int.reduceToNat, Int.reduceLT, Int.reduceLE]) | refine W_block ?_ | (refine W_skip ?_; simp (maxSteps := 400000) (disch := omega) only [push_cast, ↓reduceIte, reduceCtorEq, Nat.reduceAdd, Nat.reduceSub, Nat.reduceEqDiff, Nat.reduceLeDiff, Nat.reduceLT, Nat.reduceBEq, Nat.reduceDiv, Nat.reduceMod, Nat.reducePow, Nat.reduceMul, Int.reduceToNat, Int.reduceLT, Int.reduceLE]) | (refine W_exit ?_; simp (maxSteps := 400000) (disch := omega) only [push_cast, ↓reduceIte, reduceCtorEq, Nat.reduceAdd, Nat.reduceSub, Nat.reduceEqDiff, Nat.reduceLeDiff, Nat.reduceLT, Nat.reduceBEq, Nat.reduceDiv, Nat.reduceMod, Nat.reducePow, Nat.reduceMul, Int.reduceToNat, Int.reduceLT, Int.reduceLE]) | refine And.intro (by omega) ?_ | refine And.intro (by intro hq; (try simp only [Bool.and_eq_true, Bool.or_eq_true, Bool.and_eq_false_iff, Bool.or_eq_false_iff, decide_eq_true_eq, decide_eq_false_iff_not, Bool.not_eq_true', Bool.not_eq_false', beq_iff_eq, beq_eq_false_iff_ne, ne_eq] at hq); omega) ?_ | fail)
      exact W_ret ⟨[_, _], ⟨rfl, rfl, rfl⟩, rfl⟩
    have hok : supB s = true := by simpa using hb
    obtain ⟨k1, k2, k3, k4, k5, k6, k7⟩ := supB_iff.1 hok
    obtain ⟨g, hg⟩ : ∃ g : Nat, s.g = g := ⟨s.g.toNat, by omega⟩
    have hg3 : g < 3 := by omega
    repeat' (first | refine WK_go ?_ | refine W_seqL ?_ | refine W_seq ?_ | (refine W_regL ?_; simp (maxSteps := 400000) (disch := omega) only [push_cast, ↓reduceIte, reduceCtorEq, Nat.reduceAdd, Nat.reduceSub, Nat.reduceEqDiff, Nat.reduceLeDiff, Nat.reduceLT, Nat.reduceBEq, Nat.reduceDiv, Nat.reduceMod, Nat.reducePow, Nat.reduceMul, Int.reduceToNat, Int.reduceLT, Int.reduceLE]) | refine W_block ?_ | (refine W_skip ?_; simp (maxSteps := 400000) (disch := omega) only [push_cast, ↓reduceIte, reduceCtorEq, Nat.reduceAdd, Nat.reduceSub, Nat.reduceEqDiff, Nat.reduceLeDiff, Nat.reduceLT, Nat.reduceBEq, Nat.reduceDiv, Nat.reduceMod, Nat.reducePow, Nat.reduceMul, Int.reduceToNat, Int.reduceLT, Int.reduceLE]) | (refine W_exit ?_; simp (maxSteps := 400000) (disch := omega) only [push_cast, ↓reduceIte, reduceCtorEq, Nat.reduceAdd, Nat.reduceSub, Nat.reduceEqDiff, Nat.reduceLeDiff, Nat.reduceLT, Nat.reduceBEq, Nat.reduceDiv, Nat.reduceMod, Nat.reducePow, Nat.reduceMul, Int.reduceToNat, Int.reduceLT, Int.reduceLE]) | refine And.intro (by omega) ?_ | refine And.intro (by intro hq; (try simp only [Bool.and_eq_true, Bool.or_eq_true, Bool.and_eq_false_iff, Bool.or_eq_false_iff, decide_eq_true_eq, decide_eq_false_iff_not, Bool.not_eq_true', Bool.not_eq_false', beq_iff_eq, beq_eq_false_iff_ne, ne_eq] at hq); omega) ?_ | fail)
    refine W_loopU (fun k : Nat => [(75, iv k)]) (fun k => [(12, .cells (cDk ps (addK f s k) 0))]) (fun k => k ≤ 3) (fun k => 3 - k) 0 (by omega) (by rfl) (by rw [addK_zero]; rfl) (fun k hk => ?_)
    simp (maxSteps := 400000) (disch := omega) only [push_cast, ↓reduceIte, reduceCtorEq, Nat.reduceAdd, Nat.reduceSub, Nat.reduceEqDiff, Nat.reduceLeDiff, Nat.reduceLT, Nat.reduceBEq, Nat.reduceDiv, Nat.reduceMod, Nat.reducePow, Nat.reduceMul, Int.reduceToNat, Int.reduceLT, Int.reduceLE]
    repeat' (first | refine WK_go ?_ | refine W_seqL ?_ | refine W_seq ?_ | (refine W_regL ?_; simp (maxSteps := 400000) (disch := omega) only [push_cast, ↓reduceIte, reduceCtorEq, Nat.reduceAdd, Nat.reduceSub, Nat.reduceEqDiff, Nat.reduceLeDiff, Nat.reduceLT, Nat.reduceBEq, Nat.reduceDiv, Nat.reduceMod, Nat.reducePow, Nat.reduceMul, Int.reduceToNat, Int.reduceLT, Int.reduceLE]) | refine W_block ?_ | (refine W_skip ?_; simp (maxSteps := 400000) (disch := omega) only [push_cast, ↓reduceIte, reduceCtorEq, Nat.reduceAdd, Nat.reduceSub, Nat.reduceEqDiff, Nat.reduceLeDiff, Nat.reduceLT, Nat.reduceBEq, Nat.reduceDiv, Nat.reduceMod, Nat.reducePow, Nat.reduceMul, Int.reduceToNat, Int.reduceLT, Int.reduceLE]) | (refine W_exit ?_; simp (maxSteps := 400000) (disch := omega) only [push_cast, ↓reduceIte, reduceCtorEq, Nat.reduceAdd, Nat.reduceSub, Nat.reduceEqDiff, Nat.reduceLeDiff, Nat.reduceLT, Nat.reduceBEq, Nat.reduceDiv, Nat.reduceMod, Nat.reducePow, Nat.reduceMul, Int.reduceToNat, Int.reduceLT, Int.reduceLE]) | refine And.intro (by omega) ?_ | refine And.intro (by intro hq; (try simp only [Bool.and_eq_true, Bool.or_eq_true, Bool.and_eq_false_iff, Bool.or_eq_false_iff, decide_eq_true_eq, decide_eq_false_iff_not, Bool.not_eq_true', Bool.not_eq_false', beq_iff_eq, beq_eq_false_iff_ne, ne_eq] at hq); omega) ?_ | fail)
    refine W_condD (by rfl) (fun h6 => ?_) (fun h6 => ?_)
    · have hk3 : k < 3 := by omega
      have hnp := npick s k hk3
      have hj : g * 3 + k < 9 := by omega
      have ep : 1 + g * 3 + k * 1 = 1 + (g * 3 + k) := by omega
      have hget : nth (cDk ps (addK f s k) 0) (1 + g * 3 + k * 1) = iv (f (g * 3 + k)) := by rw [ep, nDf _ _ _ _ hj, addK_here f s k g hg hk3]
      have hset : List.take (1 + g * 3 + k * 1) (cDk ps (addK f s k) 0) ++ [iv (f (g * 3 + k) + pick s k)] ++ List.drop (1 + g * 3 + k * 1 + 1) (cDk ps (addK f s k) 0) = cDk ps (addK f s (k + 1)) 0 := by
        rw [ep, setD _ _ _ _ hj, addK_succ f s k g hg hk3]
      have hb1 := hsm.a _ hj
      have hb2 := pick_small hok k
      repeat' (first | refine WK_go ?_ | refine W_seqL ?_ | refine W_seq ?_ | (refine W_regL ?_; simp (maxSteps := 400000) (disch := omega) only [push_cast, ↓reduceIte, reduceCtorEq, Nat.reduceAdd, Nat.reduceSub, Nat.reduceEqDiff, Nat.reduceLeDiff, Nat.reduceLT, Nat.reduceBEq, Nat.reduceDiv, Nat.reduceMod, Nat.reducePow, Nat.reduceMul, Int.reduceToNat, Int.reduceLT, Int.reduceLE, hnp, hg, hget, hset]) | refine W_block ?_ | (refine W_skip ?_; simp (maxSteps := 400000) (disch := omega) only [push_cast, ↓reduceIte, reduceCtorEq, Nat.reduceAdd, Nat.reduceSub, Nat.reduceEqDiff, Nat.reduceLeDiff, Nat.reduceLT, Nat.reduceBEq, Nat.reduceDiv, Nat.reduceMod, Nat.reducePow, Nat.reduceMul, Int.reduceToNat, Int.reduceLT, Int.reduceLE, hnp, hg, hget, hset]) | (refine W_exit ?_; simp (maxSteps := 400000) (disch := omega) only [push_cast, ↓reduceIte, reduceCtorEq, Nat.reduceAdd, Nat.reduceSub, Nat.reduceEqDiff, Nat.reduceLeDiff, Nat.reduceLT, Nat.reduceBEq, Nat.reduceDiv, Nat.reduceMod, Nat.reducePow, Nat.reduceMul, Int.reduceToNat, Int.reduceLT, Int.reduceLE, hnp, hg, hget, hset]) | refine And.intro (by omega) ?_ | refine And.intro (by intro hq; (try simp only [Bool.and_eq_true, Bool.or_eq_true, Bool.and_eq_false_iff, Bool.or_eq_false_iff, decide_eq_true_eq, decide_eq_false_iff_not, Bool.not_eq_true', Bool.not_eq_false', beq_iff_eq, beq_eq_false_iff_ne, ne_eq] at hq); omega) ?_ | fail)
      refine ⟨k + 1, by omega, by omega, by rfl, ?_⟩
      simp (maxSteps := 400000) (disch := omega) only [push_cast, ↓reduceIte, reduceCtorEq, Nat.reduceAdd, Nat.reduceSub, Nat.reduceEqDiff, Nat.reduceLeDiff, Nat.reduceLT, Nat.reduceBEq, Nat.reduceDiv, Nat.reduceMod, Nat.reducePow, Nat.reduceMul, Int.reduceToNat, Int.reduceLT, Int.reduceLE, S.mk.injEq, List.cons.injEq, Prod.mk.injEq, AV.v.injEq, Value.int.injEq, Value.bool.injEq, Blk.cells.injEq]
    · obtain rfl : k = 3 := by omega
      have hsu : supB (sp ps i) = true := by rw [hs]; exact hok
      have hnew : sumsL (ps.take (i + 1)) = addK f s 3 := by rw [take_sp ps i hlt, sumsL_append, hf, hs]; rfl
      repeat' (first | refine WK_go ?_ | refine W_seqL ?_ | refine W_seq ?_ | (refine W_regL ?_; simp (maxSteps := 400000) (disch := omega) only [push_cast, ↓reduceIte, reduceCtorEq, Nat.reduceAdd, Nat.reduceSub, Nat.reduceEqDiff, Nat.reduceLeDiff, Nat.reduceLT, Nat.reduceBEq, Nat.reduceDiv, Nat.reduceMod, Nat.reducePow, Nat.reduceMul, Int.reduceToNat, Int.reduceLT, Int.reduceLE]) | refine W_block ?_ | (refine W_skip ?_; simp (maxSteps := 400000) (disch := omega) only [push_cast, ↓reduceIte, reduceCtorEq, Nat.reduceAdd, Nat.reduceSub, Nat.reduceEqDiff, Nat.reduceLeDiff, Nat.reduceLT, Nat.reduceBEq, Nat.reduceDiv, Nat.reduceMod, Nat.reducePow, Nat.reduceMul, Int.reduceToNat, Int.reduceLT, Int.reduceLE]) | (refine W_exit ?_; simp (maxSteps := 400000) (disch := omega) only [push_cast, ↓reduceIte, reduceCtorEq, Nat.reduceAdd, Nat.reduceSub, Nat.reduceEqDiff, Nat.reduceLeDiff, Nat.reduceLT, Nat.reduceBEq, Nat.reduceDiv, Nat.reduceMod, Nat.reducePow, Nat.reduceMul, Int.reduceToNat, Int.reduceLT, Int.reduceLE]) | refine And.intro (by omega) ?_ | refine And.intro (by intro hq; (try simp only [Bool.and_eq_true, Bool.or_eq_true, Bool.and_eq_false_iff, Bool.or_eq_false_iff, decide_eq_true_eq, decide_eq_false_iff_not, Bool.not_eq_true', Bool.not_eq_false', beq_iff_eq, beq_eq_false_iff_ne, ne_eq] at hq); omega) ?_ | fail)
      refine ⟨i + 1, ⟨by omega, fun j hj => ?_, by rw [hnew]; exact hsm.add hok⟩, by omega, by rfl, ?_⟩
      · rcases Nat.lt_succ_iff_lt_or_eq.1 hj with hj | rfl
        · exact hall j hj
        · exact hsu
      rw [hnew]
      simp (maxSteps := 400000) (disch := omega) only [push_cast, ↓reduceIte, reduceCtorEq, Nat.reduceAdd, Nat.reduceSub, Nat.reduceEqDiff, Nat.reduceLeDiff, Nat.reduceLT, Nat.reduceBEq, Nat.reduceDiv, Nat.reduceMod, Nat.reducePow, Nat.reduceMul, Int.reduceToNat, Int.reduceLT, Int.reduceLE, S.mk.injEq, List.cons.injEq, Prod.mk.injEq, AV.v.injEq, Value.int.injEq, Value.bool.injEq, Blk.cells.injEq]
  · have hfull : ps.take i = ps := by rw [show i = ps.length by omega, List.take_length]
    rw [hfull] at hf
    have hgood := all_good (fun j hj => hall j (by omega))
    have htab := hsm.tab (by omega)
    have c95 := fn95 f htab
    repeat' (first | refine WK_go ?_ | refine W_seqL ?_ | refine W_seq ?_ | (refine W_regL ?_; simp (maxSteps := 400000) (disch := omega) only [push_cast, ↓reduceIte, reduceCtorEq, Nat.reduceAdd, Nat.reduceSub, Nat.reduceEqDiff, Nat.reduceLeDiff, Nat.reduceLT, Nat.reduceBEq, Nat.reduceDiv, Nat.reduceMod, Nat.reducePow, Nat.reduceMul, Int.reduceToNat, Int.reduceLT, Int.reduceLE, setDw]) | refine W_block ?_ | (refine W_skip ?_; simp (maxSteps := 400000) (disch := omega) only [push_cast, ↓reduceIte, reduceCtorEq, Nat.reduceAdd, Nat.reduceSub, Nat.reduceEqDiff, Nat.reduceLeDiff, Nat.reduceLT, Nat.reduceBEq, Nat.reduceDiv, Nat.reduceMod, Nat.reducePow, Nat.reduceMul, Int.reduceToNat, Int.reduceLT, Int.reduceLE, setDw]) | (refine W_exit ?_; simp (maxSteps := 400000) (disch := omega) only [push_cast, ↓reduceIte, reduceCtorEq, Nat.reduceAdd, Nat.reduceSub, Nat.reduceEqDiff, Nat.reduceLeDiff, Nat.reduceLT, Nat.reduceBEq, Nat.reduceDiv, Nat.reduceMod, Nat.reducePow, Nat.reduceMul, Int.reduceToNat, Int.reduceLT, Int.reduceLE, setDw]) | refine And.intro (by omega) ?_ | refine And.intro (by intro hq; (try simp only [Bool.and_eq_true, Bool.or_eq_true, Bool.and_eq_false_iff, Bool.or_eq_false_iff, decide_eq_true_eq, decide_eq_false_iff_not, Bool.not_eq_true', Bool.not_eq_false', beq_iff_eq, beq_eq_false_iff_ne, ne_eq] at hq); omega) ?_ | (refine CallC.now (c95) ?_; simp (maxSteps := 400000) (disch := omega) only [push_cast, ↓reduceIte, reduceCtorEq, Nat.reduceAdd, Nat.reduceSub, Nat.reduceEqDiff, Nat.reduceLeDiff, Nat.reduceLT, Nat.reduceBEq, Nat.reduceDiv, Nat.reduceMod, Nat.reducePow, Nat.reduceMul, Int.reduceToNat, Int.reduceLT, Int.reduceLE, setDw]) | fail)
    have hch : chkP ps = if det f = 0 then 9 else 0 := by
      unfold chkP; rw [if_neg (by omega), hgood, if_neg (by decide), hf]
    refine W_cond (by rfl) (fun hb => ?_) (fun hb => ?_)
    · rw [beq_iff_eq] at hb
      rw [if_pos hb] at hch
      rw [dkR_bad hch (by decide)]
      repeat' (first | refine WK_go ?_ | refine W_seqL ?_ | refine W_seq ?_ | (refine W_regL ?_; simp (maxSteps := 400000) (disch := omega) only [push_cast, ↓reduceIte, reduceCtorEq, Nat.reduceAdd, Nat.reduceSub, Nat.reduceEqDiff, Nat.reduceLeDiff, Nat.reduceLT, Nat.reduceBEq, Nat.reduceDiv, Nat.reduceMod, Nat.reducePow, Nat.reduceMul, Int.reduceToNat, Int.reduceLT, Int.reduceLE]) | refine W_block ?_ | (refine W_skip ?_; simp (maxSteps := 400000) (disch := omega) only [push_cast, ↓reduceIte, reduceCtorEq, Nat.reduceAdd, Nat.reduceSub, Nat.reduceEqDiff, Nat.reduceLeDiff, Nat.reduceLT, Nat.reduceBEq, Nat.reduceDiv, Nat.reduceMod, Nat.reducePow, Nat.reduceMul, Int.reduceToNat, Int.reduceLT, Int.reduceLE]) | (refine W_exit ?_; simp (maxSteps := 400000) (disch := omega) only [push_cast, ↓reduceIte, reduceCtorEq, Nat.reduceAdd, Nat.reduceSub, Nat.reduceEqDiff, Nat.reduceLeDiff, Nat.reduceLT, Nat.reduceBEq, Nat.reduceDiv, Nat.reduceMod, Nat.reducePow, Nat.reduceMul, Int.reduceToNat, Int.reduceLT, Int.reduceLE]) | refine And.intro (by omega) ?_ | refine And.intro (by intro hq; (try simp only [Bool.and_eq_true, Bool.or_eq_true, Bool.and_eq_false_iff, Bool.or_eq_false_iff, decide_eq_true_eq, decide_eq_false_iff_not, Bool.not_eq_true', Bool.not_eq_false', beq_iff_eq, beq_eq_false_iff_ne, ne_eq] at hq); omega) ?_ | fail)
      exact W_ret ⟨[_, _], ⟨rfl, rfl, rfl⟩, rfl⟩
    · rw [beq_eq_false_iff_ne] at hb
      rw [if_neg hb] at hch
      have hR : dkR ps = .tup [.fp (cDk ps f (det f)) 0, iv 0] := by unfold dkR aDk; rw [if_pos hch, hf]
      rw [hR]
      repeat' (first | refine WK_go ?_ | refine W_seqL ?_ | refine W_seq ?_ | (refine W_regL ?_; simp (maxSteps := 400000) (disch := omega) only [push_cast, ↓reduceIte, reduceCtorEq, Nat.reduceAdd, Nat.reduceSub, Nat.reduceEqDiff, Nat.reduceLeDiff, Nat.reduceLT, Nat.reduceBEq, Nat.reduceDiv, Nat.reduceMod, Nat.reducePow, Nat.reduceMul, Int.reduceToNat, Int.reduceLT, Int.reduceLE]) | refine W_block ?_ | (refine W_skip ?_; simp (maxSteps := 400000) (disch := omega) only [push_cast, ↓reduceIte, reduceCtorEq, Nat.reduceAdd, Nat.reduceSub, Nat.reduceEqDiff, Nat.reduceLeDiff, Nat.reduceLT, Nat.reduceBEq, Nat.reduceDiv, Nat.reduceMod, Nat.reducePow, Nat.reduceMul, Int.reduceToNat, Int.reduceLT, Int.reduceLE]) | (refine W_exit ?_; simp (maxSteps := 400000) (disch := omega) only [push_cast, ↓reduceIte, reduceCtorEq, Nat.reduceAdd, Nat.reduceSub, Nat.reduceEqDiff, Nat.reduceLeDiff, Nat.reduceLT, Nat.reduceBEq, Nat.reduceDiv, Nat.reduceMod, Nat.reducePow, Nat.reduceMul, Int.reduceToNat, Int.reduceLT, Int.reduceLE]) | refine And.intro (by omega) ?_ | refine And.intro (by intro hq; (try simp only [Bool.and_eq_true, Bool.or_eq_true, Bool.and_eq_false_iff, Bool.or_eq_false_iff, decide_eq_true_eq, decide_eq_false_iff_not, Bool.not_eq_true', Bool.not_eq_false', beq_iff_eq, beq_eq_false_iff_ne, ne_eq] at hq); omega) ?_ | fail)
      refine W_ret ⟨[_, _], ⟨rfl, rfl, rfl⟩, ?_⟩
      simp (maxSteps := 400000) (disch := omega) only [push_cast, ↓reduceIte, reduceCtorEq, Nat.reduceAdd, Nat.reduceSub, Nat.reduceEqDiff, Nat.reduceLeDiff, Nat.reduceLT, Nat.reduceBEq, Nat.reduceDiv, Nat.reduceMod, Nat.reducePow, Nat.reduceMul, Int.reduceToNat, Int.reduceLT, Int.reduceLE, pack]
      rfl
theorem chkP_ok {ps : List Sup} (h : chkP ps = 0) : (3 ≤ ps.length ∧ ps.length ≤ 48) ∧ (∀ i, i < ps.length → supB (sp ps i) = true) ∧ det (sumsL ps) ≠ 0 := by
  unfold chkP at h
  split at h
  · omega
  · rename_i h1
    split at h
    · omega
    · rename_i h2
      split at h
      · omega
      · rename_i h3
        refine ⟨by omega, fun i hi => ?_, h3⟩
        rw [← Bool.not_eq_false]
        intro hb
        exact h2 (all_bad hi hb)
theorem sums_small (ps : List Sup) (h : ∀ i, i < ps.length → supB (sp ps i) = true) : ∀ n, n ≤ ps.length → Small (sumsL (ps.take n)) n
  | 0, _ => by rw [List.take_zero]; exact small0
  | n + 1, hn => by rw [take_sp ps n hn, sumsL_append]; exact (sums_small ps h n (by omega)).add (h n hn)
theorem sums_tab {ps : List Sup} (h : chkP ps = 0) : Tab (sumsL ps) := by
  obtain ⟨h1, h2, h3⟩ := chkP_ok h
  have := sums_small ps h2 ps.length (Nat.le_refl _)
  rw [List.take_length] at this
  exact this.tab (by omega)
theorem c56 (ps : List Sup) (hl : ps.length ≤ 140737488355328) (h : chkP ps = 0) : Sy.Fn Try.prog 56 [aP ps] (.tup [aDk ps, iv 0]) := by
  have := fn56 ps hl
  unfold dkR at this
  rw [if_pos h] at this
  exact this
theorem c56n (ps : List Sup) (hl : ps.length ≤ 140737488355328) (h : ¬ chkP ps = 0) : Sy.Fn Try.prog 56 [aP ps] (.tup [.v (.pointer none), iv (chkP ps)]) := by
  have := fn56 ps hl
  unfold dkR at this
  rw [if_neg h] at this
  exact this
end Go.Proofs.Ytfkjdjlcaojedaa

/- Platforms: parts. -/
namespace Go.Proofs.Ytfkjdjlcaojedaa
open Go Sy
set_option maxRecDepth 100000
set_option maxHeartbeats 4000000
set_option linter.unusedVariables false
set_option linter.unusedSimpArgs false
/-- three numbers -/
def c3 (f : Nat → Int) : List AV := [iv (f 0), iv (f 1), iv (f 2)]
theorem nth3 (f : Nat → Int) (i : Nat) (h : i < 3) : nth (c3 f) i = iv (f i) := by
  rcases i with _ | _ | _ | i <;> first | rfl | omega
theorem len3 (f : Nat → Int) : (c3 f).length = 3 := rfl
theorem frz3 (f : Nat → Int) : frzAll (c3 f) = true := rfl
theorem ids3 {m : Nat → Option Blk} {n : Nat} (f : Nat → Int) : List.flatMap (ids m n) (c3 f) = [] := flat_frz n _ (frz3 f)
theorem take3 (f : Nat → Int) : List.take 3 (c3 f) = c3 f := rfl
theorem vw3 {m : Nat → Option Blk} {n : Nat} (f : Nat → Int) : List.map (view m n) (c3 f) = c3 f := by cases n <;> rfl
theorem drop3 (f : Nat → Int) : List.drop 3 (c3 f) = [] := rfl
attribute [push_cast] nth3 len3 frz3 ids3 take3 vw3 drop3
/-- the first k of them -/
def upto (h : Nat → Int) (k : Nat) (j : Nat) : Int := if j < k then h j else 0
theorem set3 (h : Nat → Int) (k : Nat) (hk : k < 3) : List.take k (c3 (upto h k)) ++ [iv (h k)] ++ List.drop (k + 1) (c3 (upto h k)) = c3 (upto h (k + 1)) := by
  rcases k with _ | _ | _ | k <;> first | rfl | omega
theorem set3' (h : Nat → Int) (k : Nat) (hk : k < 3) : List.take (k * 1) (c3 (upto h k)) ++ [iv (h k)] ++ List.drop (k * 1 + 1) (c3 (upto h k)) = c3 (upto h (k + 1)) := by
  rw [Nat.mul_one]; exact set3 h k hk
theorem upto3 (h : Nat → Int) : c3 (upto h 3) = c3 h := rfl
def rowP (p : Pt) : Nat → Int
  | 0 => 1
  | 1 => p.x
  | _ => p.y
def putRow (f : Nat → Int) (g : Nat) (p : Pt) (j : Nat) : Int := if j / 3 = g then rowP p (j % 3) else f j
theorem put9 (f : Nat → Int) (g : Nat) (p : Pt) (h : g < 3) : List.take (g * 3) (c9 f) ++ [iv 1, iv p.x, iv p.y] ++ List.drop (g * 3 + 3) (c9 f) = c9 (putRow f g p) := by
  rcases g with _ | _ | _ | g <;> first | rfl | omega
theorem okPt_iff {p : Pt} : okPt p = true ↔ (-262144 ≤ p.x ∧ p.x ≤ 262144) ∧ -262144 ≤ p.y ∧ p.y ≤ 262144 := by
  simp only [okPt, Bool.and_eq_true, inR_iff]
theorem putRow_tab {f : Nat → Int} {p : Pt} (g : Nat) (h : Tab f) (hp : okPt p = true) : Tab (putRow f g p) := by
  have hp := okPt_iff.1 hp
  refine ⟨fun k hk => ?_, fun j hj => ?_⟩
  · unfold putRow
    have e : 3 * k % 3 = 0 := by omega
    rw [e]
    split
    · simp only [rowP]; omega
    · exact h.n k hk
  · unfold putRow
    split
    · rcases (j % 3) with _ | _ | k <;> simp only [rowP] <;> omega
    · exact h.a j hj
def sgn (w : Int) : Int := if w < 0 then -1 else 1
def part (ps : List Sup) (p : Pt) (g : Nat) : Int := sgn (det (sumsL ps)) * det (putRow (sumsL ps) g p)
def whole (ps : List Sup) : Int := sgn (det (sumsL ps)) * det (sumsL ps)
theorem sgn_mul (w x : Int) : sgn w * x = if w < 0 then -x else x := by unfold sgn; split <;> omega
theorem part_B {ps : List Sup} {p : Pt} (g : Nat) (h : chkP ps = 0) (hp : okPt p = true) : -11399736556781568 ≤ part ps p g ∧ part ps p g ≤ 11399736556781568 := by
  have := det_B (putRow_tab g (sums_tab h) hp)
  unfold part
  rw [sgn_mul]
  split <;> omega
theorem whole_B {ps : List Sup} (h : chkP ps = 0) : 0 < whole ps ∧ whole ps ≤ 11399736556781568 := by
  have h1 := det_B (sums_tab h)
  have h2 := (chkP_ok h).2.2
  unfold whole
  rw [sgn_mul]
  split <;> omega
theorem fn60 (ps : List Sup) (p : Pt) (h : chkP ps = 0) (hp : okPt p = true) : Sy.Fn Try.prog 60 [aDk ps, .agg (cPt p)] (.tup [.agg (c3 (part ps p)), iv (whole ps)]) := by
  refine Fn_of_W mixed Xt60 rfl ?_
  have hw := whole_B h
  have hd := det_B (sums_tab h)
  have c95 := fun g => fn95 (putRow (sumsL ps) g p) (putRow_tab g (sums_tab h) hp)
  have hpart : ∀ g, IntKind.i64.wrap (sgn (det (sumsL ps)) * det (putRow (sumsL ps) g p)) = part ps p g := fun g => by
    have := part_B g h hp
    exact wrap64 ⟨by unfold part at this; omega, by unfold part at this; omega⟩
  have hwh : IntKind.i64.wrap (sgn (det (sumsL ps)) * det (sumsL ps)) = whole ps := by
    exact wrap64 ⟨by unfold whole at hw; omega, by unfold whole at hw; omega⟩
  have htab := sums_tab h
  unfold aDk
  generalize hF : sumsL ps = F at *
  repeat' (first | refine WK_go ?_ | refine W_seqL ?_ | refine W_seq ?_ | (refine W_regL ?_; simp (maxSteps := 400000) (disch := omega) only [push_cast, ↓reduceIte, reduceCtorEq, Nat.reduceAdd, Nat.reduceSub, Nat.reduceEqDiff, Nat.reduceLeDiff, Nat.reduceLT, Nat.reduceBEq, Nat.reduceDiv, Nat.reduceMod, Nat.reducePow, Nat.reduceMul, Int.reduceToNat, Int.reduceLT, Int.reduceLE]) | refine W_block ?_ | (refine W_skip ?_; simp (maxSteps := 400000) (disch := omega) only [push_cast, ↓reduceIte, reduceCtorEq, Nat.reduceAdd, Nat.reduceSub, Nat.reduceEqDiff, Nat.reduceLeDiff, Nat.reduceLT, Nat.reduceBEq, Nat.reduceDiv, Nat.reduceMod, Nat.reducePow, Nat.reduceMul, Int.reduceToNat, Int.reduceLT, Int.reduceLE]) | (refine W_exit ?_; simp (maxSteps := 400000) (disch := omega) only [push_cast, ↓reduceIte, reduceCtorEq, Nat.reduceAdd, Nat.reduceSub, Nat.reduceEqDiff, Nat.reduceLeDiff, Nat.reduceLT, Nat.reduceBEq, Nat.reduceDiv, Nat.reduceMod, Nat.reducePow, Nat.reduceMul, Int.reduceToNat, Int.reduceLT, Int.reduceLE]) | refine And.intro (by omega) ?_ | refine And.intro (by intro hq; (try simp only [Bool.and_eq_true, Bool.or_eq_true, Bool.and_eq_false_iff, Bool.or_eq_false_iff, decide_eq_true_eq, decide_eq_false_iff_not, Bool.not_eq_true', Bool.not_eq_false', beq_iff_eq, beq_eq_false_iff_ne, ne_eq] at hq); omega) ?_ | fail)
  refine W_meet [(6, iv (sgn (det F)))] [] ?_ ?_
  · unfold sgn
    refine W_condD (by rfl) (fun h1 => ?_) (fun h1 => ?_)
    · rw [if_pos h1]
      repeat' (first | refine WK_go ?_ | refine W_seqL ?_ | refine W_seq ?_ | (refine W_regL ?_; simp (maxSteps := 400000) (disch := omega) only [push_cast, ↓reduceIte, reduceCtorEq, Nat.reduceAdd, Nat.reduceSub, Nat.reduceEqDiff, Nat.reduceLeDiff, Nat.reduceLT, Nat.reduceBEq, Nat.reduceDiv, Nat.reduceMod, Nat.reducePow, Nat.reduceMul, Int.reduceToNat, Int.reduceLT, Int.reduceLE]) | refine W_block ?_ | (refine W_skip ?_; simp (maxSteps := 400000) (disch := omega) only [push_cast, ↓reduceIte, reduceCtorEq, Nat.reduceAdd, Nat.reduceSub, Nat.reduceEqDiff, Nat.reduceLeDiff, Nat.reduceLT, Nat.reduceBEq, Nat.reduceDiv, Nat.reduceMod, Nat.reducePow, Nat.reduceMul, Int.reduceToNat, Int.reduceLT, Int.reduceLE]) | (refine W_exit ?_; simp (maxSteps := 400000) (disch := omega) only [push_cast, ↓reduceIte, reduceCtorEq, Nat.reduceAdd, Nat.reduceSub, Nat.reduceEqDiff, Nat.reduceLeDiff, Nat.reduceLT, Nat.reduceBEq, Nat.reduceDiv, Nat.reduceMod, Nat.reducePow, Nat.reduceMul, Int.reduceToNat, Int.reduceLT, Int.reduceLE]) | refine And.intro (by omega) ?_ | refine And.intro (by intro hq; (try simp only [Bool.and_eq_true, Bool.or_eq_true, Bool.and_eq_false_iff, Bool.or_eq_false_iff, decide_eq_true_eq, decide_eq_false_iff_not, Bool.not_eq_true', Bool.not_eq_false', beq_iff_eq, beq_eq_false_iff_ne, ne_eq] at hq); omega) ?_ | fail)
      rfl
    · rw [if_neg h1]
      repeat' (first | refine WK_go ?_ | refine W_seqL ?_ | refine W_seq ?_ | (refine W_regL ?_; simp (maxSteps := 400000) (disch := omega) only [push_cast, ↓reduceIte, reduceCtorEq, Nat.reduceAdd, Nat.reduceSub, Nat.reduceEqDiff, Nat.reduceLeDiff, Nat.reduceLT, Nat.reduceBEq, Nat.reduceDiv, Nat.reduceMod, Nat.reducePow, Nat.reduceMul, Int.reduceToNat, Int.reduceLT, Int.reduceLE]) | refine W_block ?_ | (refine W_skip ?_; simp (maxSteps := 400000) (disch := omega) only [push_cast, ↓reduceIte, reduceCtorEq, Nat.reduceAdd, Nat.reduceSub, Nat.reduceEqDiff, Nat.reduceLeDiff, Nat.reduceLT, Nat.reduceBEq, Nat.reduceDiv, Nat.reduceMod, Nat.reducePow, Nat.reduceMul, Int.reduceToNat, Int.reduceLT, Int.reduceLE]) | (refine W_exit ?_; simp (maxSteps := 400000) (disch := omega) only [push_cast, ↓reduceIte, reduceCtorEq, Nat.reduceAdd, Nat.reduceSub, Nat.reduceEqDiff, Nat.reduceLeDiff, Nat.reduceLT, Nat.reduceBEq, Nat.reduceDiv, Nat.reduceMod, Nat.reducePow, Nat.reduceMul, Int.reduceToNat, Int.reduceLT, Int.reduceLE]) | refine And.intro (by omega) ?_ | refine And.intro (by intro hq; (try simp only [Bool.and_eq_true, Bool.or_eq_true, Bool.and_eq_false_iff, Bool.or_eq_false_iff, decide_eq_true_eq, decide_eq_false_iff_not, Bool.not_eq_true', Bool.not_eq_false', beq_iff_eq, beq_eq_false_iff_ne, ne_eq] at hq); omega) ?_ | fail)
      rfl
  simp (maxSteps := 400000) (disch := omega) only [push_cast, ↓reduceIte, reduceCtorEq, Nat.reduceAdd, Nat.reduceSub, Nat.reduceEqDiff, Nat.reduceLeDiff, Nat.reduceLT, Nat.reduceBEq, Nat.reduceDiv, Nat.reduceMod, Nat.reducePow, Nat.reduceMul, Int.reduceToNat, Int.reduceLT, Int.reduceLE]
  repeat' (first | refine WK_go ?_ | refine W_seqL ?_ | refine W_seq ?_ | (refine W_regL ?_; simp (maxSteps := 400000) (disch := omega) only [push_cast, ↓reduceIte, reduceCtorEq, Nat.reduceAdd, Nat.reduceSub, Nat.reduceEqDiff, Nat.reduceLeDiff, Nat.reduceLT, Nat.reduceBEq, Nat.reduceDiv, Nat.reduceMod, Nat.reducePow, Nat.reduceMul, Int.reduceToNat, Int.reduceLT, Int.reduceLE]) | refine W_block ?_ | (refine W_skip ?_; simp (maxSteps := 400000) (disch := omega) only [push_cast, ↓reduceIte, reduceCtorEq, Nat.reduceAdd, Nat.reduceSub, Nat.reduceEqDiff, Nat.reduceLeDiff, Nat.reduceLT, Nat.reduceBEq, Nat.reduceDiv, Nat.reduceMod, Nat.reducePow, Nat.reduceMul, Int.reduceToNat, Int.reduceLT, Int.reduceLE]) | (refine W_exit ?_; simp (maxSteps := 400000) (disch := omega) only [push_cast, ↓reduceIte, reduceCtorEq, Nat.reduceAdd, Nat.reduceSub, Nat.reduceEqDiff, Nat.reduceLeDiff, Nat.reduceLT, Nat.reduceBEq, Nat.reduceDiv, Nat.reduceMod, Nat.reducePow, Nat.reduceMul, Int.reduceToNat, Int.reduceLT, Int.reduceLE]) | refine And.intro (by omega) ?_ | refine And.intro (by intro hq; (try simp only [Bool.and_eq_true, Bool.or_eq_true, Bool.and_eq_false_iff, Bool.or_eq_false_iff, decide_eq_true_eq, decide_eq_false_iff_not, Bool.not_eq_true', Bool.not_eq_false', beq_iff_eq, beq_eq_false_iff_ne, ne_eq] at hq); omega) ?_ | fail)
  refine W_loopU (fun k : Nat => [(14, iv k)]) (fun k => [(1, .cells (c3 (upto (part ps p) k)))]) (fun k => k ≤ 3) (fun k => 3 - k) 0 (by omega) (by rfl) (by rfl) (fun k hk => ?_)
  simp (maxSteps := 400000) (disch := omega) only [push_cast, ↓reduceIte, reduceCtorEq, Nat.reduceAdd, Nat.reduceSub, Nat.reduceEqDiff, Nat.reduceLeDiff, Nat.reduceLT, Nat.reduceBEq, Nat.reduceDiv, Nat.reduceMod, Nat.reducePow, Nat.reduceMul, Int.reduceToNat, Int.reduceLT, Int.reduceLE]
  repeat' (first | refine WK_go ?_ | refine W_seqL ?_ | refine W_seq ?_ | (refine W_regL ?_; simp (maxSteps := 400000) (disch := omega) only [push_cast, ↓reduceIte, reduceCtorEq, Nat.reduceAdd, Nat.reduceSub, Nat.reduceEqDiff, Nat.reduceLeDiff, Nat.reduceLT, Nat.reduceBEq, Nat.reduceDiv, Nat.reduceMod, Nat.reducePow, Nat.reduceMul, Int.reduceToNat, Int.reduceLT, Int.reduceLE]) | refine W_block ?_ | (refine W_skip ?_; simp (maxSteps := 400000) (disch := omega) only [push_cast, ↓reduceIte, reduceCtorEq, Nat.reduceAdd, Nat.reduceSub, Nat.reduceEqDiff, Nat.reduceLeDiff, Nat.reduceLT, Nat.reduceBEq, Nat.reduceDiv, Nat.reduceMod, Nat.reducePow, Nat.reduceMul, Int.reduceToNat, Int.reduceLT, Int.reduceLE]) | (refine W_exit ?_; simp (maxSteps := 400000) (disch := omega) only [push_cast, ↓reduceIte, reduceCtorEq, Nat.reduceAdd, Nat.reduceSub, Nat.reduceEqDiff, Nat.reduceLeDiff, Nat.reduceLT, Nat.reduceBEq, Nat.reduceDiv, Nat.reduceMod, Nat.reducePow, Nat.reduceMul, Int.reduceToNat, Int.reduceLT, Int.reduceLE]) | refine And.intro (by omega) ?_ | refine And.intro (by intro hq; (try simp only [Bool.and_eq_true, Bool.or_eq_true, Bool.and_eq_false_iff, Bool.or_eq_false_iff, decide_eq_true_eq, decide_eq_false_iff_not, Bool.not_eq_true', Bool.not_eq_false', beq_iff_eq, beq_eq_false_iff_ne, ne_eq] at hq); omega) ?_ | fail)
  refine W_condD (by rfl) (fun h6 => ?_) (fun h6 => ?_)
  · have hk3 : k < 3 := by omega
    have hput := put9 F k p hk3
    have hset := set3' (part ps p) k hk3
    repeat' (first | refine WK_go ?_ | refine W_seqL ?_ | refine W_seq ?_ | (refine W_regL ?_; simp (maxSteps := 400000) (disch := omega) only [push_cast, ↓reduceIte, reduceCtorEq, Nat.reduceAdd, Nat.reduceSub, Nat.reduceEqDiff, Nat.reduceLeDiff, Nat.reduceLT, Nat.reduceBEq, Nat.reduceDiv, Nat.reduceMod, Nat.reducePow, Nat.reduceMul, Int.reduceToNat, Int.reduceLT, Int.reduceLE, hput, hset, hpart]) | refine W_block ?_ | (refine W_skip ?_; simp (maxSteps := 400000) (disch := omega) only [push_cast, ↓reduceIte, reduceCtorEq, Nat.reduceAdd, Nat.reduceSub, Nat.reduceEqDiff, Nat.reduceLeDiff, Nat.reduceLT, Nat.reduceBEq, Nat.reduceDiv, Nat.reduceMod, Nat.reducePow, Nat.reduceMul, Int.reduceToNat, Int.reduceLT, Int.reduceLE, hput, hset, hpart]) | (refine W_exit ?_; simp (maxSteps := 400000) (disch := omega) only [push_cast, ↓reduceIte, reduceCtorEq, Nat.reduceAdd, Nat.reduceSub, Nat.reduceEqDiff, Nat.reduceLeDiff, Nat.reduceLT, Nat.reduceBEq, Nat.reduceDiv, Nat.reduceMod, Nat.reducePow, Nat.reduceMul, Int.reduceToNat, Int.reduceLT, Int.reduceLE, hput, hset, hpart]) | refine And.intro (by omega) ?_ | refine And.intro (by intro hq; (try simp only [Bool.and_eq_true, Bool.or_eq_true, Bool.and_eq_false_iff, Bool.or_eq_false_iff, decide_eq_true_eq, decide_eq_false_iff_not, Bool.not_eq_true', Bool.not_eq_false', beq_iff_eq, beq_eq_false_iff_ne, ne_eq] at hq); omega) ?_ | (refine CallC.now (c95 k) ?_; simp (maxSteps := 400000) (disch := omega) only [push_cast, ↓reduceIte, reduceCtorEq, Nat.reduceAdd, Nat.reduceSub, Nat.reduceEqDiff, Nat.reduceLeDiff, Nat.reduceLT, Nat.reduceBEq, Nat.reduceDiv, Nat.reduceMod, Nat.reducePow, Nat.reduceMul, Int.reduceToNat, Int.reduceLT, Int.reduceLE, hput, hset, hpart]) | fail)
    refine ⟨k + 1, by omega, by omega, by rfl, ?_⟩
    simp (maxSteps := 400000) (disch := omega) only [push_cast, ↓reduceIte, reduceCtorEq, Nat.reduceAdd, Nat.reduceSub, Nat.reduceEqDiff, Nat.reduceLeDiff, Nat.reduceLT, Nat.reduceBEq, Nat.reduceDiv, Nat.reduceMod, Nat.reducePow, Nat.reduceMul, Int.reduceToNat, Int.reduceLT, Int.reduceLE, S.mk.injEq, List.cons.injEq, Prod.mk.injEq, AV.v.injEq, Value.int.injEq, Value.bool.injEq, Blk.cells.injEq]
  · obtain rfl : k = 3 := by omega
    repeat' (first | refine WK_go ?_ | refine W_seqL ?_ | refine W_seq ?_ | (refine W_regL ?_; simp (maxSteps := 400000) (disch := omega) only [push_cast, ↓reduceIte, reduceCtorEq, Nat.reduceAdd, Nat.reduceSub, Nat.reduceEqDiff, Nat.reduceLeDiff, Nat.reduceLT, Nat.reduceBEq, Nat.reduceDiv, Nat.reduceMod, Nat.reducePow, Nat.reduceMul, Int.reduceToNat, Int.reduceLT, Int.reduceLE, upto3, hwh]) | refine W_block ?_ | (refine W_skip ?_; simp (maxSteps := 400000) (disch := omega) only [push_cast, ↓reduceIte, reduceCtorEq, Nat.reduceAdd, Nat.reduceSub, Nat.reduceEqDiff, Nat.reduceLeDiff, Nat.reduceLT, Nat.reduceBEq, Nat.reduceDiv, Nat.reduceMod, Nat.reducePow, Nat.reduceMul, Int.reduceToNat, Int.reduceLT, Int.reduceLE, upto3, hwh]) | (refine W_exit ?_; simp (maxSteps := 400000) (disch := omega) only [push_cast, ↓reduceIte, reduceCtorEq, Nat.reduceAdd, Nat.reduceSub, Nat.reduceEqDiff, Nat.reduceLeDiff, Nat.reduceLT, Nat.reduceBEq, Nat.reduceDiv, Nat.reduceMod, Nat.reducePow, Nat.reduceMul, Int.reduceToNat, Int.reduceLT, Int.reduceLE, upto3, hwh]) | refine And.intro (by omega) ?_ | refine And.intro (by intro hq; (try simp only [Bool.and_eq_true, Bool.or_eq_true, Bool.and_eq_false_iff, Bool.or_eq_false_iff, decide_eq_true_eq, decide_eq_false_iff_not, Bool.not_eq_true', Bool.not_eq_false', beq_iff_eq, beq_eq_false_iff_ne, ne_eq] at hq); omega) ?_ | fail)
    refine W_ret ⟨[_, _], ⟨⟨by simp [len3], rfl⟩, rfl, rfl⟩, ?_⟩
    rfl
end Go.Proofs.Ytfkjdjlcaojedaa

