/- Part 4 of the proof of: RoadHours: for every input the law returns true; each argument reads behind the call as it read before. -/
import Derived.Test.YtfbdlmenhoagmaaP3
import Derived.Test.YtfbdlmenhoagmaaChecked
import Derived.Laws.Bits64b
namespace Go.Proofs.Ytfbdlmenhoagmaa
open Go Sy
set_option maxRecDepth 100000
def Xn12_1 : C := regL [2, 3, 4, 5, 6, 7, 8, 9] none [⟨some 8, .box true 25 (.tmp 0), none⟩, ⟨some 9, .box true 26 (.tmp 1), none⟩, ⟨some 16, .mv (.const (.bool false)), none⟩]
def Xn12_4 : C := regL [2, 3, 4, 5, 6, 7, 8, 9, 60] none [⟨some 37, .ld 25 3 true (.tmp 8), none⟩, ⟨some 38, .ld 26 6 true (.tmp 9), none⟩, ⟨some 39, .mv (.tmp 3), none⟩, ⟨some 40, .mv (.tmp 4), none⟩, ⟨some 41, .call 13 [.tmp 37, .tmp 38, .tmp 39, .tmp 40], none⟩, ⟨some 42, .un .not (.tmp 41), none⟩, ⟨some 43, .mv (.tmp 42), none⟩, ⟨some 44, .mv (.tmp 2), some (43, false)⟩, ⟨some 45, .len (.tmp 44), some (43, false)⟩, ⟨some 46, .bin 3 .gtr (.tmp 45) (.const (.int .i64 100)), some (43, false)⟩, ⟨some 47, .pick 43 (.const (.bool true)) (.tmp 46), none⟩, ⟨some 48, .mv (.tmp 47), none⟩, ⟨some 49, .mv (.tmp 6), some (48, false)⟩, ⟨some 50, .len (.tmp 49), some (48, false)⟩, ⟨some 51, .bin 3 .gtr (.tmp 50) (.const (.int .i64 100)), some (48, false)⟩, ⟨some 52, .pick 48 (.const (.bool true)) (.tmp 51), none⟩, ⟨some 53, .mv (.tmp 52), none⟩, ⟨some 54, .mv (.tmp 5), some (53, false)⟩, ⟨some 55, .bin 2 .lss (.tmp 54) (.const (.int .i64 0)), some (53, false)⟩, ⟨some 56, .pick 53 (.const (.bool true)) (.tmp 55), none⟩, ⟨some 57, .mv (.tmp 56), none⟩, ⟨some 58, .mv (.tmp 5), some (57, false)⟩, ⟨some 59, .bin 2 .gtr (.tmp 58) (.const (.int .i64 1099511562240)), some (57, false)⟩, ⟨some 60, .pick 57 (.const (.bool true)) (.tmp 59), none⟩]
def Xn12_7 : C := regL [16] none [⟨some 61, .call 14 [], none⟩, ⟨some 16, .mv (.tmp 61), none⟩]
def Xn12_6 : C := .seq Xn12_7 .ret
def Xn12_5 : C := .cond (.tmp 60) Xn12_6 .skip
def Xn12_3 : C := .seq Xn12_4 Xn12_5
def Xn12_11 : C := regL [2, 3, 4, 5, 6, 7, 8, 9, 17, 18, 19] none [⟨some 63, .ld 25 3 true (.tmp 8), none⟩, ⟨some 64, .ld 26 6 true (.tmp 9), none⟩, ⟨some 65, .mv (.tmp 2), none⟩, ⟨some 66, .mv (.tmp 3), none⟩, ⟨some 67, .mv (.tmp 4), none⟩, ⟨some 68, .mv (.tmp 5), none⟩, ⟨some 69, .call 45 [.tmp 63, .tmp 64, .tmp 65, .tmp 66, .tmp 67, .tmp 68], none⟩, ⟨some 62, .mv (.tmp 69), none⟩, ⟨some 70, .ext 0 (.tmp 62), none⟩, ⟨some 71, .ext 1 (.tmp 62), none⟩, ⟨some 72, .ext 2 (.tmp 62), none⟩, ⟨some 17, .mv (.tmp 70), none⟩, ⟨some 18, .mv (.tmp 71), none⟩, ⟨some 19, .mv (.tmp 72), none⟩]
def Xn12_13 : C := regL [2, 3, 4, 5, 6, 7, 8, 9, 17, 18, 19, 20, 21] none [⟨some 74, .ld 25 3 true (.tmp 8), none⟩, ⟨some 75, .ld 26 6 true (.tmp 9), none⟩, ⟨some 76, .mv (.tmp 2), none⟩, ⟨some 77, .mv (.tmp 3), none⟩, ⟨some 78, .mv (.tmp 5), none⟩, ⟨some 79, .call 47 [.tmp 74, .tmp 75, .tmp 76, .tmp 77, .tmp 78], none⟩, ⟨some 73, .mv (.tmp 79), none⟩, ⟨some 80, .ext 0 (.tmp 73), none⟩, ⟨some 81, .ext 1 (.tmp 73), none⟩, ⟨some 20, .mv (.tmp 80), none⟩, ⟨some 21, .mv (.tmp 81), none⟩]
def Xn12_16 : C := regL [2, 3, 4, 5, 6, 7, 8, 9, 17, 18, 19, 20, 21, 83] none [⟨some 82, .mv (.tmp 21), none⟩, ⟨some 83, .bin 34 .eql (.tmp 82) (.const (.int .i64 3)), none⟩]
def Xn12_19 : C := regL [16] none [⟨some 84, .mv (.tmp 19), none⟩, ⟨some 85, .mv (.tmp 21), none⟩, ⟨some 86, .bin 34 .eql (.tmp 84) (.tmp 85), none⟩, ⟨some 87, .mv (.tmp 86), none⟩, ⟨some 88, .call 14 [], some (87, true)⟩, ⟨some 89, .pick 87 (.tmp 88) (.const (.bool false)), none⟩, ⟨some 16, .mv (.tmp 89), none⟩]
def Xn12_18 : C := .seq Xn12_19 .ret
def Xn12_17 : C := .cond (.tmp 83) Xn12_18 .skip
def Xn12_15 : C := .seq Xn12_16 Xn12_17
def Xn12_24 : C := regL [2, 3, 4, 5, 6, 7, 8, 9, 17, 18, 19, 20, 118] none [⟨some 90, .mv (.tmp 21), none⟩, ⟨some 91, .bin 34 .neq (.tmp 90) (.const (.int .i64 0)), none⟩, ⟨some 92, .mv (.tmp 91), none⟩, ⟨some 93, .mv (.tmp 20), some (92, false)⟩, ⟨some 94, .len (.tmp 93), some (92, false)⟩, ⟨some 95, .fa 0 (.tmp 8), some (92, false)⟩, ⟨some 96, .ld 3 1 false (.tmp 95), some (92, false)⟩, ⟨some 97, .bin 3 .neq (.tmp 94) (.tmp 96), some (92, false)⟩, ⟨some 98, .pick 92 (.const (.bool true)) (.tmp 97), none⟩, ⟨some 99, .mv (.tmp 98), none⟩, ⟨some 100, .ld 25 3 true (.tmp 8), some (99, false)⟩, ⟨some 101, .ld 26 6 true (.tmp 9), some (99, false)⟩, ⟨some 102, .mv (.tmp 2), some (99, false)⟩, ⟨some 103, .mv (.tmp 3), some (99, false)⟩, ⟨some 104, .mv (.tmp 5), some (99, false)⟩, ⟨some 105, .mv (.tmp 20), some (99, false)⟩, ⟨some 106, .call 49 [.tmp 100, .tmp 101, .tmp 102, .tmp 103, .tmp 104, .tmp 105], some (99, false)⟩, ⟨some 107, .bin 34 .neq (.tmp 106) (.const (.int .i64 0)), some (99, false)⟩, ⟨some 108, .pick 99 (.const (.bool true)) (.tmp 107), none⟩, ⟨some 109, .mv (.tmp 108), none⟩, ⟨some 110, .mv (.tmp 19), some (109, false)⟩, ⟨some 111, .bin 34 .eql (.tmp 110) (.const (.int .i64 0)), some (109, false)⟩, ⟨some 112, .mv (.tmp 20), some (109, false)⟩, ⟨some 113, .mv (.tmp 4), some (109, false)⟩, ⟨some 114, .ia 1 (.tmp 112) (.tmp 113), some (109, false)⟩, ⟨some 115, .ld 2 1 false (.tmp 114), some (109, false)⟩, ⟨some 116, .bin 2 .geq (.tmp 115) (.const (.int .i64 0)), some (109, false)⟩, ⟨some 117, .eqb 4 true (.tmp 111) (.tmp 116), some (109, false)⟩, ⟨some 118, .pick 109 (.const (.bool true)) (.tmp 117), none⟩]
def Xn12_27 : C := regL [16] none [⟨some 16, .mv (.const (.bool false)), none⟩]
def Xn12_26 : C := .seq Xn12_27 .ret
def Xn12_25 : C := .cond (.tmp 118) Xn12_26 .skip
def Xn12_23 : C := .seq Xn12_24 Xn12_25
def Xn12_31 : C := regL [2, 3, 4, 5, 6, 7, 8, 9, 17, 18, 19, 20, 22] none [⟨some 119, .ld 25 3 true (.tmp 8), none⟩, ⟨some 120, .ld 26 6 true (.tmp 9), none⟩, ⟨some 121, .mv (.tmp 2), none⟩, ⟨some 122, .mv (.tmp 3), none⟩, ⟨some 123, .mv (.tmp 5), none⟩, ⟨some 124, .mv (.tmp 6), none⟩, ⟨some 125, .call 49 [.tmp 119, .tmp 120, .tmp 121, .tmp 122, .tmp 123, .tmp 124], none⟩, ⟨some 126, .bin 34 .eql (.tmp 125) (.const (.int .i64 0)), none⟩, ⟨some 22, .mv (.tmp 126), none⟩]
def Xn12_34 : C := regL [2, 3, 4, 5, 6, 7, 8, 9, 17, 18, 19, 20, 22, 134] none [⟨some 127, .mv (.tmp 22), none⟩, ⟨some 128, .mv (.tmp 127), none⟩, ⟨some 129, .mv (.tmp 6), some (128, true)⟩, ⟨some 130, .len (.tmp 129), some (128, true)⟩, ⟨some 131, .fa 0 (.tmp 8), some (128, true)⟩, ⟨some 132, .ld 3 1 false (.tmp 131), some (128, true)⟩, ⟨some 133, .bin 3 .neq (.tmp 130) (.tmp 132), some (128, true)⟩, ⟨some 134, .pick 128 (.tmp 133) (.const (.bool false)), none⟩]
def Xn12_37 : C := regL [16] none [⟨some 16, .mv (.const (.bool false)), none⟩]
def Xn12_36 : C := .seq Xn12_37 .ret
def Xn12_35 : C := .cond (.tmp 134) Xn12_36 .skip
def Xn12_33 : C := .seq Xn12_34 Xn12_35
def Xn12_42 : C := regL [2, 3, 4, 5, 6, 7, 8, 9, 17, 18, 19, 20, 22, 136] none [⟨some 135, .mv (.tmp 19), none⟩, ⟨some 136, .bin 34 .eql (.tmp 135) (.const (.int .i64 0)), none⟩]
def Xn12_45 : C := regL [2, 3, 4, 5, 6, 7, 8, 9, 17, 18, 19, 20, 22, 23, 24] none [⟨some 138, .ld 25 3 true (.tmp 8), none⟩, ⟨some 139, .mv (.tmp 17), none⟩, ⟨some 140, .mv (.tmp 5), none⟩, ⟨some 141, .call 34 [.tmp 138, .tmp 139, .tmp 140], none⟩, ⟨some 137, .mv (.tmp 141), none⟩, ⟨some 142, .ext 0 (.tmp 137), none⟩, ⟨some 143, .ext 1 (.tmp 137), none⟩, ⟨some 23, .mv (.tmp 142), none⟩, ⟨some 24, .mv (.tmp 143), none⟩]
def Xn12_47 : C := regL [2, 3, 4, 5, 6, 7, 8, 9, 17, 18, 19, 20, 22, 23, 24, 25, 26] none [⟨some 145, .ld 25 3 true (.tmp 8), none⟩, ⟨some 146, .mv (.tmp 3), none⟩, ⟨some 147, .mv (.tmp 4), none⟩, ⟨some 148, .mv (.tmp 17), none⟩, ⟨some 149, .call 30 [.tmp 145, .tmp 146, .tmp 147, .tmp 148], none⟩, ⟨some 144, .mv (.tmp 149), none⟩, ⟨some 150, .ext 0 (.tmp 144), none⟩, ⟨some 151, .ext 1 (.tmp 144), none⟩, ⟨some 25, .mv (.tmp 150), none⟩, ⟨some 26, .mv (.tmp 151), none⟩]
def Xn12_49 : C := regL [2, 3, 4, 5, 6, 7, 8, 9, 18, 19, 20, 22, 23, 24, 25, 26, 27, 28] none [⟨some 153, .ld 25 3 true (.tmp 8), none⟩, ⟨some 154, .ld 26 6 true (.tmp 9), none⟩, ⟨some 155, .mv (.tmp 2), none⟩, ⟨some 156, .mv (.tmp 17), none⟩, ⟨some 157, .call 20 [.tmp 153, .tmp 154, .tmp 155, .tmp 156], none⟩, ⟨some 152, .mv (.tmp 157), none⟩, ⟨some 158, .ext 0 (.tmp 152), none⟩, ⟨some 159, .ext 1 (.tmp 152), none⟩, ⟨some 27, .mv (.tmp 158), none⟩, ⟨some 28, .mv (.tmp 159), none⟩]
def Xn12_51 : C := regL [2, 3, 4, 5, 6, 7, 8, 9, 18, 19, 22, 191] none [⟨some 160, .mv (.tmp 24), none⟩, ⟨some 161, .bin 34 .neq (.tmp 160) (.const (.int .i64 0)), none⟩, ⟨some 162, .mv (.tmp 161), none⟩, ⟨some 163, .mv (.tmp 26), some (162, false)⟩, ⟨some 164, .bin 34 .neq (.tmp 163) (.const (.int .i64 0)), some (162, false)⟩, ⟨some 165, .pick 162 (.const (.bool true)) (.tmp 164), none⟩, ⟨some 166, .mv (.tmp 165), none⟩, ⟨some 167, .mv (.tmp 28), some (166, false)⟩, ⟨some 168, .bin 34 .neq (.tmp 167) (.const (.int .i64 0)), some (166, false)⟩, ⟨some 169, .pick 166 (.const (.bool true)) (.tmp 168), none⟩, ⟨some 170, .mv (.tmp 169), none⟩, ⟨some 171, .mv (.tmp 23), some (170, false)⟩, ⟨some 172, .mv (.tmp 18), some (170, false)⟩, ⟨some 173, .bin 2 .neq (.tmp 171) (.tmp 172), some (170, false)⟩, ⟨some 174, .pick 170 (.const (.bool true)) (.tmp 173), none⟩, ⟨some 175, .mv (.tmp 174), none⟩, ⟨some 176, .mv (.tmp 18), some (175, false)⟩, ⟨some 177, .mv (.tmp 20), some (175, false)⟩, ⟨some 178, .mv (.tmp 4), some (175, false)⟩, ⟨some 179, .ia 1 (.tmp 177) (.tmp 178), some (175, false)⟩, ⟨some 180, .ld 2 1 false (.tmp 179), some (175, false)⟩, ⟨some 181, .bin 2 .neq (.tmp 176) (.tmp 180), some (175, false)⟩, ⟨some 182, .pick 175 (.const (.bool true)) (.tmp 181), none⟩, ⟨some 183, .mv (.tmp 182), none⟩, ⟨some 184, .mv (.tmp 25), some (183, false)⟩, ⟨some 185, .un .not (.tmp 184), some (183, false)⟩, ⟨some 186, .pick 183 (.const (.bool true)) (.tmp 185), none⟩, ⟨some 187, .mv (.tmp 186), none⟩, ⟨some 188, .mv (.tmp 27), some (187, false)⟩, ⟨some 189, .len (.tmp 188), some (187, false)⟩, ⟨some 190, .bin 3 .neq (.tmp 189) (.const (.int .i64 0)), some (187, false)⟩, ⟨some 191, .pick 187 (.const (.bool true)) (.tmp 190), none⟩]
def Xn12_54 : C := regL [16] none [⟨some 16, .mv (.const (.bool false)), none⟩]
def Xn12_53 : C := .seq Xn12_54 .ret
def Xn12_52 : C := .cond (.tmp 191) Xn12_53 .skip
def Xn12_50 : C := .seq Xn12_51 Xn12_52
def Xn12_48 : C := .seq Xn12_49 Xn12_50
def Xn12_46 : C := .seq Xn12_47 Xn12_48
def Xn12_44 : C := .seq Xn12_45 Xn12_46
def Xn12_58 : C := regL [2, 3, 4, 5, 6, 7, 8, 9, 18, 19, 22, 198] none [⟨some 192, .mv (.tmp 19), none⟩, ⟨some 193, .bin 34 .neq (.tmp 192) (.const (.int .i64 15)), none⟩, ⟨some 194, .mv (.tmp 193), none⟩, ⟨some 195, .mv (.tmp 17), some (194, false)⟩, ⟨some 196, .len (.tmp 195), some (194, false)⟩, ⟨some 197, .bin 3 .neq (.tmp 196) (.const (.int .i64 0)), some (194, false)⟩, ⟨some 198, .pick 194 (.const (.bool true)) (.tmp 197), none⟩]
def Xn12_61 : C := regL [16] none [⟨some 16, .mv (.const (.bool false)), none⟩]
def Xn12_60 : C := .seq Xn12_61 .ret
def Xn12_59 : C := .cond (.tmp 198) Xn12_60 .skip
def Xn12_57 : C := .seq Xn12_58 Xn12_59
def Xn12_43 : C := .cond (.tmp 136) Xn12_44 Xn12_57
def Xn12_41 : C := .seq Xn12_42 Xn12_43
def Xn12_65 : C := regL [2, 4, 5, 6, 7, 8, 9, 18, 19, 22, 29] (some [0, 0, 0, 0, 8, 24, 63, 127]) [⟨some 199, .ld 25 3 true (.tmp 8), none⟩, ⟨some 200, .mv (.tmp 4), none⟩, ⟨some 201, .mv (.tmp 3), none⟩, ⟨some 202, .fa 0 (.tmp 8), none⟩, ⟨some 203, .ld 3 1 false (.tmp 202), none⟩, ⟨some 204, .mks 4 1 1 (.bool false) (.tmp 203) (.tmp 203), none⟩, ⟨some 205, .call 36 [.tmp 199, .tmp 200, .const (.int .i64 40), .const (.slice none 0 0), .tmp 201, .tmp 204], none⟩, ⟨some 29, .mv (.tmp 205), none⟩]
def Xn12_68 : C := regL [2, 4, 5, 6, 7, 8, 9, 18, 19, 22, 29, 30] none [⟨some 30, .mv (.const (.int .i64 0)), none⟩]
def Xn12_73 : C := regL [2, 4, 5, 6, 7, 8, 9, 18, 19, 22, 29, 30, 209] none [⟨some 206, .mv (.tmp 30), none⟩, ⟨some 207, .mv (.tmp 29), none⟩, ⟨some 208, .len (.tmp 207), none⟩, ⟨some 209, .bin 3 .lss (.tmp 206) (.tmp 208), none⟩]
def Xn12_74 : C := .cond (.tmp 209) .skip (.exit 0)
def Xn12_72 : C := .seq Xn12_73 Xn12_74
def Xn12_80 : C := regL [2, 4, 5, 6, 7, 8, 9, 18, 19, 22, 29, 30, 31, 32] (some [0, 0, 0, 0, 0, 24, 56, 127, 255, 511, 511, 1023, 4095]) [⟨some 213, .ld 25 3 true (.tmp 8), none⟩, ⟨some 214, .ld 26 6 true (.tmp 9), none⟩, ⟨some 215, .mv (.tmp 2), none⟩, ⟨some 216, .mv (.tmp 29), none⟩, ⟨some 217, .mv (.tmp 30), none⟩, ⟨some 218, .ia 1 (.tmp 216) (.tmp 217), none⟩, ⟨some 219, .ld 27 1 false (.tmp 218), none⟩, ⟨some 220, .call 20 [.tmp 213, .tmp 214, .tmp 215, .tmp 219], none⟩, ⟨some 212, .mv (.tmp 220), none⟩, ⟨some 221, .ext 0 (.tmp 212), none⟩, ⟨some 222, .ext 1 (.tmp 212), none⟩, ⟨some 31, .mv (.tmp 221), none⟩, ⟨some 32, .mv (.tmp 222), none⟩]
def Xn12_82 : C := regL [2, 4, 5, 6, 7, 8, 9, 18, 19, 22, 29, 30, 31, 32, 33, 34] (some [0, 0, 0, 6, 14, 0, 63, 127, 255, 255, 511, 2047]) [⟨some 224, .ld 25 3 true (.tmp 8), none⟩, ⟨some 225, .mv (.tmp 29), none⟩, ⟨some 226, .mv (.tmp 30), none⟩, ⟨some 227, .ia 1 (.tmp 225) (.tmp 226), none⟩, ⟨some 228, .ld 27 1 false (.tmp 227), none⟩, ⟨some 229, .mv (.tmp 5), none⟩, ⟨some 230, .call 34 [.tmp 224, .tmp 228, .tmp 229], none⟩, ⟨some 223, .mv (.tmp 230), none⟩, ⟨some 231, .ext 0 (.tmp 223), none⟩, ⟨some 232, .ext 1 (.tmp 223), none⟩, ⟨some 33, .mv (.tmp 231), none⟩, ⟨some 34, .mv (.tmp 232), none⟩]
def Xn12_84 : C := regL [2, 4, 5, 6, 7, 8, 9, 18, 19, 22, 29, 30, 31, 32, 33, 34, 35, 36] (some [0, 0, 0, 6, 14, 0, 0, 64, 224, 511, 1023, 2047, 2047, 4095, 16383]) [⟨some 234, .ld 25 3 true (.tmp 8), none⟩, ⟨some 235, .mv (.tmp 29), none⟩, ⟨some 236, .mv (.tmp 30), none⟩, ⟨some 237, .ia 1 (.tmp 235) (.tmp 236), none⟩, ⟨some 238, .ld 27 1 false (.tmp 237), none⟩, ⟨some 239, .mv (.tmp 5), none⟩, ⟨some 240, .mv (.tmp 7), none⟩, ⟨some 241, .cvt .i64 (.tmp 240), none⟩, ⟨some 242, .bin 2 .add (.tmp 239) (.tmp 241), none⟩, ⟨some 243, .call 34 [.tmp 234, .tmp 238, .tmp 242], none⟩, ⟨some 233, .mv (.tmp 243), none⟩, ⟨some 244, .ext 0 (.tmp 233), none⟩, ⟨some 245, .ext 1 (.tmp 233), none⟩, ⟨some 35, .mv (.tmp 244), none⟩, ⟨some 36, .mv (.tmp 245), none⟩]
def Xn12_87 : C := regL [2, 4, 5, 6, 7, 8, 9, 18, 19, 22, 29, 30, 31, 33, 260] none [⟨some 246, .mv (.tmp 32), none⟩, ⟨some 247, .bin 34 .neq (.tmp 246) (.const (.int .i64 0)), none⟩, ⟨some 248, .mv (.tmp 247), none⟩, ⟨some 249, .mv (.tmp 34), some (248, false)⟩, ⟨some 250, .bin 34 .neq (.tmp 249) (.const (.int .i64 0)), some (248, false)⟩, ⟨some 251, .pick 248 (.const (.bool true)) (.tmp 250), none⟩, ⟨some 252, .mv (.tmp 251), none⟩, ⟨some 253, .mv (.tmp 36), some (252, false)⟩, ⟨some 254, .bin 34 .neq (.tmp 253) (.const (.int .i64 0)), some (252, false)⟩, ⟨some 255, .pick 252 (.const (.bool true)) (.tmp 254), none⟩, ⟨some 256, .mv (.tmp 255), none⟩, ⟨some 257, .mv (.tmp 35), some (256, false)⟩, ⟨some 258, .mv (.tmp 33), some (256, false)⟩, ⟨some 259, .bin 2 .lss (.tmp 257) (.tmp 258), some (256, false)⟩, ⟨some 260, .pick 256 (.const (.bool true)) (.tmp 259), none⟩]
def Xn12_90 : C := regL [16] none [⟨some 16, .mv (.const (.bool false)), none⟩]
def Xn12_89 : C := .seq Xn12_90 .ret
def Xn12_88 : C := .cond (.tmp 260) Xn12_89 .skip
def Xn12_86 : C := .seq Xn12_87 Xn12_88
def Xn12_94 : C := regL [2, 4, 5, 6, 7, 8, 9, 18, 19, 22, 29, 30, 290] none [⟨some 261, .mv (.tmp 31), none⟩, ⟨some 262, .len (.tmp 261), none⟩, ⟨some 263, .bin 3 .eql (.tmp 262) (.const (.int .i64 0)), none⟩, ⟨some 264, .mv (.tmp 263), none⟩, ⟨some 265, .mv (.tmp 19), some (264, true)⟩, ⟨some 266, .bin 34 .neq (.tmp 265) (.const (.int .i64 0)), some (264, true)⟩, ⟨some 267, .mv (.tmp 266), some (264, true)⟩, ⟨some 268, .mv (.tmp 33), some (267, false)⟩, ⟨some 269, .mv (.tmp 18), some (267, false)⟩, ⟨some 270, .bin 2 .lss (.tmp 268) (.tmp 269), some (267, false)⟩, ⟨some 271, .pick 267 (.const (.bool true)) (.tmp 270), some (264, true)⟩, ⟨some 272, .mv (.tmp 271), some (264, true)⟩, ⟨some 273, .mv (.tmp 22), some (272, false)⟩, ⟨some 274, .mv (.tmp 273), some (272, false)⟩, ⟨some 275, .mv (.tmp 6), some (274, true)⟩, ⟨some 276, .mv (.tmp 4), some (274, true)⟩, ⟨some 277, .ia 1 (.tmp 275) (.tmp 276), some (274, true)⟩, ⟨some 278, .ld 2 1 false (.tmp 277), some (274, true)⟩, ⟨some 279, .bin 2 .lss (.tmp 278) (.const (.int .i64 0)), some (274, true)⟩, ⟨some 280, .mv (.tmp 279), some (274, true)⟩, ⟨some 281, .mv (.tmp 33), some (280, false)⟩, ⟨some 282, .mv (.tmp 6), some (280, false)⟩, ⟨some 283, .mv (.tmp 4), some (280, false)⟩, ⟨some 284, .ia 1 (.tmp 282) (.tmp 283), some (280, false)⟩, ⟨some 285, .ld 2 1 false (.tmp 284), some (280, false)⟩, ⟨some 286, .bin 2 .lss (.tmp 281) (.tmp 285), some (280, false)⟩, ⟨some 287, .pick 280 (.const (.bool true)) (.tmp 286), some (274, true)⟩, ⟨some 288, .pick 274 (.tmp 287) (.const (.bool false)), some (272, false)⟩, ⟨some 289, .pick 272 (.const (.bool true)) (.tmp 288), some (264, true)⟩, ⟨some 290, .pick 264 (.tmp 289) (.const (.bool false)), none⟩]
def Xn12_97 : C := regL [16] none [⟨some 16, .mv (.const (.bool false)), none⟩]
def Xn12_96 : C := .seq Xn12_97 .ret
def Xn12_95 : C := .cond (.tmp 290) Xn12_96 .skip
def Xn12_93 : C := .seq Xn12_94 Xn12_95
def Xn12_85 : C := seqL [2, 4, 5, 6, 7, 8, 9, 18, 19, 22, 29, 30, 31, 33] Xn12_86 Xn12_93
def Xn12_83 : C := .seq Xn12_84 Xn12_85
def Xn12_81 : C := .seq Xn12_82 Xn12_83
def Xn12_79 : C := .seq Xn12_80 Xn12_81
def Xn12_78 : C := .block 1 Xn12_79
def Xn12_100 : C := regL [2, 4, 5, 6, 7, 8, 9, 18, 19, 22, 29, 30] none [⟨some 210, .mv (.tmp 30), none⟩, ⟨some 211, .bin 3 .add (.tmp 210) (.const (.int .i64 1)), none⟩, ⟨some 30, .mv (.tmp 211), none⟩]
def Xn12_77 : C := seqL [2, 4, 5, 6, 7, 8, 9, 18, 19, 22, 29, 30] Xn12_78 Xn12_100
def Xn12_71 : C := seqL [2, 4, 5, 6, 7, 8, 9, 18, 19, 22, 29, 30] Xn12_72 Xn12_77
def Xn12_70 : C := loopL [2, 4, 5, 6, 7, 8, 9, 18, 19, 22, 29, 30] Xn12_71
def Xn12_69 : C := .block 0 Xn12_70
def Xn12_67 : C := .seq Xn12_68 Xn12_69
def Xn12_102 : C := regL [16] none [⟨some 291, .call 14 [], none⟩, ⟨some 16, .mv (.tmp 291), none⟩]
def Xn12_101 : C := .seq Xn12_102 .ret
def Xn12_66 : C := seqL [] Xn12_67 Xn12_101
def Xn12_64 : C := .seq Xn12_65 Xn12_66
def Xn12_40 : C := seqL [2, 3, 4, 5, 6, 7, 8, 9, 18, 19, 22] Xn12_41 Xn12_64
def Xn12_32 : C := seqL [2, 3, 4, 5, 6, 7, 8, 9, 17, 18, 19, 20, 22] Xn12_33 Xn12_40
def Xn12_30 : C := .seq Xn12_31 Xn12_32
def Xn12_22 : C := seqL [2, 3, 4, 5, 6, 7, 8, 9, 17, 18, 19, 20] Xn12_23 Xn12_30
def Xn12_14 : C := seqL [2, 3, 4, 5, 6, 7, 8, 9, 17, 18, 19, 20, 21] Xn12_15 Xn12_22
def Xn12_12 : C := .seq Xn12_13 Xn12_14
def Xn12_10 : C := .seq Xn12_11 Xn12_12
def Xn12_2 : C := seqL [2, 3, 4, 5, 6, 7, 8, 9] Xn12_3 Xn12_10
def Xn12_0 : C := .seq Xn12_1 Xn12_2
theorem Xt12 : Text Try.prog 12 Xn12_0 292 8 [.t 16] := ⟨⟨Try.f12, [8, 9], Try.func12, by kernel_rfl, by kernel_rfl, by kernel_rfl, by kernel_rfl⟩⟩
def Xn13_1 : C := regL [2, 3, 4, 5] none [⟨some 4, .box true 25 (.tmp 0), none⟩, ⟨some 5, .box true 26 (.tmp 1), none⟩, ⟨some 8, .mv (.const (.bool false)), none⟩]
def Xn13_3 : C := regL [8] none [⟨some 9, .ld 25 3 true (.tmp 4), none⟩, ⟨some 10, .call 25 [.tmp 9], none⟩, ⟨some 11, .un .not (.tmp 10), none⟩, ⟨some 12, .mv (.tmp 11), none⟩, ⟨some 13, .ld 25 3 true (.tmp 4), some (12, true)⟩, ⟨some 14, .call 16 [.tmp 13], some (12, true)⟩, ⟨some 15, .bin 34 .eql (.tmp 14) (.const (.int .i64 0)), some (12, true)⟩, ⟨some 16, .pick 12 (.tmp 15) (.const (.bool false)), none⟩, ⟨some 17, .mv (.tmp 16), none⟩, ⟨some 18, .ld 26 6 true (.tmp 5), some (17, true)⟩, ⟨some 19, .call 29 [.tmp 18], some (17, true)⟩, ⟨some 20, .bin 34 .eql (.tmp 19) (.const (.int .i64 0)), some (17, true)⟩, ⟨some 21, .pick 17 (.tmp 20) (.const (.bool false)), none⟩, ⟨some 22, .mv (.tmp 21), none⟩, ⟨some 23, .mv (.tmp 2), some (22, true)⟩, ⟨some 24, .bin 3 .geq (.tmp 23) (.const (.int .i64 0)), some (22, true)⟩, ⟨some 25, .pick 22 (.tmp 24) (.const (.bool false)), none⟩, ⟨some 26, .mv (.tmp 25), none⟩, ⟨some 27, .mv (.tmp 2), some (26, true)⟩, ⟨some 28, .fa 0 (.tmp 4), some (26, true)⟩, ⟨some 29, .ld 3 1 false (.tmp 28), some (26, true)⟩, ⟨some 30, .bin 3 .lss (.tmp 27) (.tmp 29), some (26, true)⟩, ⟨some 31, .pick 26 (.tmp 30) (.const (.bool false)), none⟩, ⟨some 32, .mv (.tmp 31), none⟩, ⟨some 33, .mv (.tmp 3), some (32, true)⟩, ⟨some 34, .bin 3 .geq (.tmp 33) (.const (.int .i64 0)), some (32, true)⟩, ⟨some 35, .pick 32 (.tmp 34) (.const (.bool false)), none⟩, ⟨some 36, .mv (.tmp 35), none⟩, ⟨some 37, .mv (.tmp 3), some (36, true)⟩, ⟨some 38, .fa 0 (.tmp 4), some (36, true)⟩, ⟨some 39, .ld 3 1 false (.tmp 38), some (36, true)⟩, ⟨some 40, .bin 3 .lss (.tmp 37) (.tmp 39), some (36, true)⟩, ⟨some 41, .pick 36 (.tmp 40) (.const (.bool false)), none⟩, ⟨some 8, .mv (.tmp 41), none⟩]
def Xn13_2 : C := .seq Xn13_3 .ret
def Xn13_0 : C := .seq Xn13_1 Xn13_2
theorem Xt13 : Text Try.prog 13 Xn13_0 42 4 [.t 8] := ⟨⟨Try.f13, [4, 5], Try.func13, by kernel_rfl, by kernel_rfl, by kernel_rfl, by kernel_rfl⟩⟩
def Xn14_1 : C := regL [] none [⟨some 0, .mv (.const (.bool false)), none⟩]
def Xn14_3 : C := regL [1, 2] none [⟨some 6, .call 51 [], none⟩, ⟨some 7, .bld (.agg #[.int .i64 0, .int .i64 0, .int .i64 0, .int .i64 0, .int .i64 0, .int .i64 0]) [(0, 1, .const (.int .i64 0)), (1, 1, .const (.int .i64 4000))], none⟩, ⟨some 8, .call 15 [.tmp 6, .tmp 7, .const (.int .i64 0), .const (.int .i64 2)], none⟩, ⟨some 5, .mv (.tmp 8), none⟩, ⟨some 9, .ext 0 (.tmp 5), none⟩, ⟨some 10, .ext 1 (.tmp 5), none⟩, ⟨some 1, .alc 33 (.agg #[.slice none 0 0, .slice none 0 0, .int .i64 0, .int .i64 0]), none⟩, ⟨none, .st 33 4 (.tmp 1) (.tmp 9), none⟩, ⟨some 2, .mv (.tmp 10), none⟩]
def Xn14_5 : C := regL [1, 2, 3, 4] none [⟨some 12, .call 51 [], none⟩, ⟨some 13, .bls 3 1 2 (.int .i64 0) [(0, 1, .const (.int .i64 0)), (1, 1, .const (.int .i64 1))], none⟩, ⟨some 14, .call 34 [.tmp 12, .tmp 13, .const (.int .i64 500)], none⟩, ⟨some 11, .mv (.tmp 14), none⟩, ⟨some 15, .ext 0 (.tmp 11), none⟩, ⟨some 16, .ext 1 (.tmp 11), none⟩, ⟨some 3, .mv (.tmp 15), none⟩, ⟨some 4, .mv (.tmp 16), none⟩]
def Xn14_7 : C := regL [0] none [⟨some 17, .mv (.tmp 2), none⟩, ⟨some 18, .bin 34 .eql (.tmp 17) (.const (.int .i64 0)), none⟩, ⟨some 19, .mv (.tmp 18), none⟩, ⟨some 20, .mv (.tmp 4), some (19, true)⟩, ⟨some 21, .bin 34 .eql (.tmp 20) (.const (.int .i64 0)), some (19, true)⟩, ⟨some 22, .pick 19 (.tmp 21) (.const (.bool false)), none⟩, ⟨some 23, .mv (.tmp 22), none⟩, ⟨some 24, .fa 2 (.tmp 1), some (23, true)⟩, ⟨some 25, .ld 2 1 false (.tmp 24), some (23, true)⟩, ⟨some 26, .bin 2 .eql (.tmp 25) (.const (.int .i64 24)), some (23, true)⟩, ⟨some 27, .pick 23 (.tmp 26) (.const (.bool false)), none⟩, ⟨some 28, .mv (.tmp 27), none⟩, ⟨some 29, .fa 0 (.tmp 1), some (28, true)⟩, ⟨some 30, .ld 27 1 false (.tmp 29), some (28, true)⟩, ⟨some 31, .len (.tmp 30), some (28, true)⟩, ⟨some 32, .bin 3 .eql (.tmp 31) (.const (.int .i64 2)), some (28, true)⟩, ⟨some 33, .pick 28 (.tmp 32) (.const (.bool false)), none⟩, ⟨some 34, .mv (.tmp 33), none⟩, ⟨some 35, .fa 1 (.tmp 1), some (34, true)⟩, ⟨some 36, .ld 27 1 false (.tmp 35), some (34, true)⟩, ⟨some 37, .len (.tmp 36), some (34, true)⟩, ⟨some 38, .bin 3 .eql (.tmp 37) (.const (.int .i64 1)), some (34, true)⟩, ⟨some 39, .pick 34 (.tmp 38) (.const (.bool false)), none⟩, ⟨some 40, .mv (.tmp 39), none⟩, ⟨some 41, .mv (.tmp 3), some (40, true)⟩, ⟨some 42, .bin 2 .eql (.tmp 41) (.const (.int .i64 1980)), some (40, true)⟩, ⟨some 43, .pick 40 (.tmp 42) (.const (.bool false)), none⟩, ⟨some 0, .mv (.tmp 43), none⟩]
def Xn14_6 : C := .seq Xn14_7 .ret
def Xn14_4 : C := .seq Xn14_5 Xn14_6
def Xn14_2 : C := .seq Xn14_3 Xn14_4
def Xn14_0 : C := .seq Xn14_1 Xn14_2
theorem Xt14 : Text Try.prog 14 Xn14_0 44 0 [.t 0] := ⟨⟨Try.f14, [], Try.func14, by kernel_rfl, by kernel_rfl, by kernel_rfl, by kernel_rfl⟩⟩
def Xn15_1 : C := regL [4, 5, 6, 7, 8] none [⟨some 4, .box true 25 (.tmp 0), none⟩, ⟨some 5, .box true 26 (.tmp 1), none⟩, ⟨some 6, .box false 3 (.tmp 2), none⟩, ⟨some 7, .box true 3 (.tmp 3), none⟩, ⟨some 8, .alc 33 (.agg #[.slice none 0 0, .slice none 0 0, .int .i64 0, .int .i64 0]), none⟩, ⟨some 9, .mv (.const (.int .i64 0)), none⟩]
def Xn15_3 : C := regL [4, 6, 7, 8, 10, 11] none [⟨some 20, .ld 25 3 true (.tmp 4), none⟩, ⟨some 21, .ld 26 6 true (.tmp 5), none⟩, ⟨some 22, .call 52 [.tmp 20, .tmp 21], none⟩, ⟨some 19, .mv (.tmp 22), none⟩, ⟨some 23, .ext 0 (.tmp 19), none⟩, ⟨some 24, .ext 1 (.tmp 19), none⟩, ⟨some 10, .alc 89 (.agg #[.int .i64 0, .slice none 0 0, .slice none 0 0, .int .i64 0, .int .i64 0, .int .i64 0, .int .i64 0, .int .i64 0, .int .i64 0]), none⟩, ⟨none, .st 89 9 (.tmp 10) (.tmp 23), none⟩, ⟨some 11, .mv (.tmp 24), none⟩]
def Xn15_6 : C := regL [4, 6, 7, 8, 10, 11, 26] none [⟨some 25, .mv (.tmp 11), none⟩, ⟨some 26, .bin 34 .neq (.tmp 25) (.const (.int .i64 0)), none⟩]
def Xn15_9 : C := regL [8, 9] none [⟨some 27, .bld (.agg #[.slice none 0 0, .slice none 0 0, .int .i64 0, .int .i64 0]) [], none⟩, ⟨some 28, .mv (.tmp 11), none⟩, ⟨none, .st 33 4 (.tmp 8) (.tmp 27), none⟩, ⟨some 9, .mv (.tmp 28), none⟩]
def Xn15_8 : C := .seq Xn15_9 .ret
def Xn15_7 : C := .cond (.tmp 26) Xn15_8 .skip
def Xn15_5 : C := .seq Xn15_6 Xn15_7
def Xn15_14 : C := regL [4, 6, 7, 8, 10, 12] none [⟨some 29, .ld 25 3 true (.tmp 4), none⟩, ⟨some 30, .ld 3 1 false (.tmp 6), none⟩, ⟨some 31, .ld 3 1 false (.tmp 7), none⟩, ⟨some 32, .bls 3 1 2 (.int .i64 0) [(0, 1, .tmp 30), (1, 1, .tmp 31)], none⟩, ⟨some 33, .call 53 [.tmp 29, .tmp 32], none⟩, ⟨some 12, .mv (.tmp 33), none⟩]
def Xn15_16 : C := regL [4, 6, 7, 8, 10, 12, 35] none [⟨some 34, .mv (.tmp 12), none⟩, ⟨some 35, .bin 34 .neq (.tmp 34) (.const (.int .i64 0)), none⟩]
def Xn15_19 : C := regL [8, 9] none [⟨some 36, .bld (.agg #[.slice none 0 0, .slice none 0 0, .int .i64 0, .int .i64 0]) [], none⟩, ⟨some 37, .mv (.tmp 12), none⟩, ⟨none, .st 33 4 (.tmp 8) (.tmp 36), none⟩, ⟨some 9, .mv (.tmp 37), none⟩]
def Xn15_18 : C := .seq Xn15_19 .ret
def Xn15_17 : C := .cond (.tmp 35) Xn15_18 .skip
def Xn15_15 : C := .seq Xn15_16 Xn15_17
def Xn15_13 : C := .seq Xn15_14 Xn15_15
def Xn15_23 : C := regL [4, 6, 7, 8, 10, 13, 14, 15] none [⟨some 39, .fa 2 (.tmp 4), none⟩, ⟨some 40, .ld 23 1 false (.tmp 39), none⟩, ⟨some 41, .len (.tmp 40), none⟩, ⟨some 42, .call 55 [.tmp 41], none⟩, ⟨some 43, .mkf 56 [] [.tmp 10, .tmp 7, .tmp 6], none⟩, ⟨some 44, .call 54 [.tmp 42, .tmp 43], none⟩, ⟨some 38, .mv (.tmp 44), none⟩, ⟨some 45, .ext 0 (.tmp 38), none⟩, ⟨some 46, .ext 1 (.tmp 38), none⟩, ⟨some 47, .ext 2 (.tmp 38), none⟩, ⟨some 13, .mv (.tmp 45), none⟩, ⟨some 14, .mv (.tmp 46), none⟩, ⟨some 15, .mv (.tmp 47), none⟩]
def Xn15_26 : C := regL [4, 6, 7, 8, 10, 13, 14, 49] none [⟨some 48, .mv (.tmp 15), none⟩, ⟨some 49, .un .not (.tmp 48), none⟩]
def Xn15_29 : C := regL [8, 9] none [⟨some 50, .bld (.agg #[.slice none 0 0, .slice none 0 0, .int .i64 0, .int .i64 0]) [], none⟩, ⟨none, .st 33 4 (.tmp 8) (.tmp 50), none⟩, ⟨some 9, .mv (.const (.int .i64 15)), none⟩]
def Xn15_28 : C := .seq Xn15_29 .ret
def Xn15_27 : C := .cond (.tmp 49) Xn15_28 .skip
def Xn15_25 : C := .seq Xn15_26 Xn15_27
def Xn15_33 : C := regL [4, 6, 7, 8, 10, 13, 16] none [⟨some 51, .mv (.tmp 13), none⟩, ⟨some 52, .call 61 [.tmp 51], none⟩, ⟨some 53, .call 60 [.tmp 52], none⟩, ⟨some 54, .mv (.tmp 14), none⟩, ⟨some 55, .bld (.agg #[.slice none 0 0, .slice none 0 0, .int .i64 0, .int .i64 0]) [(1, 1, .tmp 53), (2, 1, .tmp 54)], none⟩, ⟨some 16, .alc 33 (.agg #[.slice none 0 0, .slice none 0 0, .int .i64 0, .int .i64 0]), none⟩, ⟨none, .st 33 4 (.tmp 16) (.tmp 55), none⟩]
def Xn15_35 : C := regL [4, 6, 7, 8, 10, 13, 16, 17] (some [0, 0, 0, 0, 12, 31, 0, 127]) [⟨some 56, .ld 89 9 true (.tmp 10), none⟩, ⟨some 57, .ld 3 1 false (.tmp 7), none⟩, ⟨some 58, .ld 89 9 true (.tmp 10), none⟩, ⟨some 59, .mv (.tmp 13), none⟩, ⟨some 60, .call 58 [.tmp 58, .tmp 59], none⟩, ⟨some 61, .call 57 [.tmp 56, .tmp 57, .const (.bool true), .tmp 60], none⟩, ⟨some 17, .alc 69 (.slice none 0 0), none⟩, ⟨none, .st 69 1 (.tmp 17) (.tmp 61), none⟩]
def Xn15_41 : C := regL [4, 6, 7, 8, 10, 13, 16, 17, 64] none [⟨some 62, .ld 3 1 false (.tmp 6), none⟩, ⟨some 63, .ld 3 1 false (.tmp 7), none⟩, ⟨some 64, .bin 3 .neq (.tmp 62) (.tmp 63), none⟩]
def Xn15_42 : C := .cond (.tmp 64) .skip (.exit 0)
def Xn15_40 : C := .seq Xn15_41 Xn15_42
def Xn15_47 : C := regL [4, 6, 7, 8, 10, 13, 16, 17, 18] none [⟨some 65, .fa 1 (.tmp 4), none⟩, ⟨some 66, .ld 22 1 false (.tmp 65), none⟩, ⟨some 67, .mkf 63 [] [.tmp 6, .tmp 17], none⟩, ⟨some 68, .call 62 [.tmp 66, .tmp 67], none⟩, ⟨some 18, .mv (.tmp 68), none⟩]
def Xn15_53 : C := regL [4, 6, 7, 8, 10, 13, 16, 17, 18, 73] none [⟨some 69, .ld 89 9 true (.tmp 10), none⟩, ⟨some 70, .mv (.tmp 13), none⟩, ⟨some 71, .mv (.tmp 18), none⟩, ⟨some 72, .call 64 [.tmp 69, .tmp 70, .tmp 71], none⟩, ⟨some 73, .un .not (.tmp 72), none⟩]
def Xn15_54 : C := .cond (.tmp 73) .skip (.exit 2)
def Xn15_52 : C := .seq Xn15_53 Xn15_54
def Xn15_58 : C := regL [4, 6, 7, 8, 10, 13, 16, 17, 18] none [⟨some 74, .mv (.tmp 18), none⟩, ⟨some 75, .fa 1 (.tmp 4), none⟩, ⟨some 76, .ld 22 1 false (.tmp 75), none⟩, ⟨some 77, .mv (.tmp 18), none⟩, ⟨some 78, .bin 3 .add (.tmp 77) (.const (.int .i64 1)), none⟩, ⟨some 79, .slc 22 12 (.tmp 76) (some (.tmp 78)) none, none⟩, ⟨some 80, .mkf 65 [] [.tmp 6, .tmp 17], none⟩, ⟨some 81, .call 62 [.tmp 79, .tmp 80], none⟩, ⟨some 82, .bin 3 .add (.const (.int .i64 1)) (.tmp 81), none⟩, ⟨some 83, .bin 3 .add (.tmp 74) (.tmp 82), none⟩, ⟨some 18, .mv (.tmp 83), none⟩]
def Xn15_57 : C := .block 3 Xn15_58
def Xn15_51 : C := seqL [4, 6, 7, 8, 10, 13, 16, 17, 18] Xn15_52 Xn15_57
def Xn15_50 : C := loopL [4, 6, 7, 8, 10, 13, 16, 17, 18] Xn15_51
def Xn15_49 : C := .block 2 Xn15_50
def Xn15_60 : C := regL [4, 6, 7, 8, 10, 13, 16, 17, 18] none [⟨some 84, .fa 0 (.tmp 16), none⟩, ⟨some 85, .ld 27 1 false (.tmp 84), none⟩, ⟨some 86, .mv (.tmp 18), none⟩, ⟨some 87, .bls 3 1 1 (.int .i64 0) [(0, 1, .tmp 86)], none⟩, ⟨some 88, .app 3 1 8 (.tmp 85) (.tmp 87), none⟩, ⟨some 89, .fa 0 (.tmp 16), none⟩, ⟨none, .st 27 1 (.tmp 89) (.tmp 88), none⟩]
def Xn15_62 : C := regL [4, 6, 7, 8, 10, 13, 16, 17, 18] (some [0, 1, 0, 4, 0, 28, 60, 124, 255, 511, 1023]) [⟨some 90, .fa 3 (.tmp 16), none⟩, ⟨some 91, .ld 2 1 false (.tmp 90), none⟩, ⟨some 92, .fa 1 (.tmp 4), none⟩, ⟨some 93, .ld 22 1 false (.tmp 92), none⟩, ⟨some 94, .mv (.tmp 18), none⟩, ⟨some 95, .ia 12 (.tmp 93) (.tmp 94), none⟩, ⟨some 96, .fa 3 (.tmp 95), none⟩, ⟨some 97, .ld 2 1 false (.tmp 96), none⟩, ⟨some 98, .bin 2 .add (.tmp 91) (.tmp 97), none⟩, ⟨some 99, .fa 3 (.tmp 16), none⟩, ⟨none, .st 2 1 (.tmp 99) (.tmp 98), none⟩]
def Xn15_63 : C := regL [4, 6, 7, 8, 10, 13, 16, 17] none [⟨some 100, .fa 1 (.tmp 4), none⟩, ⟨some 101, .ld 22 1 false (.tmp 100), none⟩, ⟨some 102, .mv (.tmp 18), none⟩, ⟨some 103, .ia 12 (.tmp 101) (.tmp 102), none⟩, ⟨some 104, .fa 1 (.tmp 103), none⟩, ⟨some 105, .ld 3 1 false (.tmp 104), none⟩, ⟨none, .st 3 1 (.tmp 6) (.tmp 105), none⟩]
def Xn15_61 : C := .seq Xn15_62 Xn15_63
def Xn15_59 : C := .seq Xn15_60 Xn15_61
def Xn15_48 : C := seqL [4, 6, 7, 8, 10, 13, 16, 17, 18] Xn15_49 Xn15_59
def Xn15_46 : C := .seq Xn15_47 Xn15_48
def Xn15_45 : C := .block 1 Xn15_46
def Xn15_39 : C := seqL [4, 6, 7, 8, 10, 13, 16, 17] Xn15_40 Xn15_45
def Xn15_38 : C := loopL [4, 6, 7, 8, 10, 13, 16, 17] Xn15_39
def Xn15_37 : C := .block 0 Xn15_38
def Xn15_65 : C := regL [8, 9] none [⟨some 106, .ld 33 4 true (.tmp 16), none⟩, ⟨none, .st 33 4 (.tmp 8) (.tmp 106), none⟩, ⟨some 9, .mv (.const (.int .i64 0)), none⟩]
def Xn15_64 : C := .seq Xn15_65 .ret
def Xn15_36 : C := seqL [8, 16] Xn15_37 Xn15_64
def Xn15_34 : C := .seq Xn15_35 Xn15_36
def Xn15_32 : C := .seq Xn15_33 Xn15_34
def Xn15_24 : C := seqL [4, 6, 7, 8, 10, 13, 14] Xn15_25 Xn15_32
def Xn15_22 : C := .seq Xn15_23 Xn15_24
def Xn15_12 : C := seqL [4, 6, 7, 8, 10] Xn15_13 Xn15_22
def Xn15_4 : C := seqL [4, 6, 7, 8, 10] Xn15_5 Xn15_12
def Xn15_2 : C := .seq Xn15_3 Xn15_4
def Xn15_0 : C := .seq Xn15_1 Xn15_2
theorem Xt15 : Text Try.prog 15 Xn15_0 107 4 [.c 8 4 true, .t 9] := ⟨⟨Try.f15, [4, 5, 7], Try.func15, by kernel_rfl, by kernel_rfl, by kernel_rfl, by kernel_rfl⟩⟩
def Xn16_1 : C := regL [1] none [⟨some 1, .box true 25 (.tmp 0), none⟩, ⟨some 2, .mv (.const (.int .i64 0)), none⟩]
def Xn16_4 : C := regL [1, 17] none [⟨some 8, .fa 1 (.tmp 1), none⟩, ⟨some 9, .ld 22 1 false (.tmp 8), none⟩, ⟨some 10, .len (.tmp 9), none⟩, ⟨some 11, .bin 3 .gtr (.tmp 10) (.const (.int .i64 256)), none⟩, ⟨some 12, .mv (.tmp 11), none⟩, ⟨some 13, .fa 2 (.tmp 1), some (12, false)⟩, ⟨some 14, .ld 23 1 false (.tmp 13), some (12, false)⟩, ⟨some 15, .len (.tmp 14), some (12, false)⟩, ⟨some 16, .bin 3 .gtr (.tmp 15) (.const (.int .i64 10)), some (12, false)⟩, ⟨some 17, .pick 12 (.const (.bool true)) (.tmp 16), none⟩]
def Xn16_7 : C := regL [2] none [⟨some 2, .mv (.const (.int .i64 6)), none⟩]
def Xn16_6 : C := .seq Xn16_7 .ret
def Xn16_5 : C := .cond (.tmp 17) Xn16_6 .skip
def Xn16_3 : C := .seq Xn16_4 Xn16_5
def Xn16_12 : C := regL [1, 3] none [⟨some 3, .mv (.const (.int .i64 0)), none⟩]
def Xn16_17 : C := regL [1, 3, 22] none [⟨some 18, .mv (.tmp 3), none⟩, ⟨some 19, .fa 2 (.tmp 1), none⟩, ⟨some 20, .ld 23 1 false (.tmp 19), none⟩, ⟨some 21, .len (.tmp 20), none⟩, ⟨some 22, .bin 3 .lss (.tmp 18) (.tmp 21), none⟩]
def Xn16_18 : C := .cond (.tmp 22) .skip (.exit 0)
def Xn16_16 : C := .seq Xn16_17 Xn16_18
def Xn16_24 : C := regL [1, 3, 32] none [⟨some 25, .fa 2 (.tmp 1), none⟩, ⟨some 26, .ld 23 1 false (.tmp 25), none⟩, ⟨some 27, .mv (.tmp 3), none⟩, ⟨some 28, .ia 4 (.tmp 26) (.tmp 27), none⟩, ⟨some 29, .fa 0 (.tmp 28), none⟩, ⟨some 30, .ld 27 1 false (.tmp 29), none⟩, ⟨some 31, .len (.tmp 30), none⟩, ⟨some 32, .bin 3 .gtr (.tmp 31) (.const (.int .i64 16)), none⟩]
def Xn16_27 : C := regL [2] none [⟨some 2, .mv (.const (.int .i64 6)), none⟩]
def Xn16_26 : C := .seq Xn16_27 .ret
def Xn16_25 : C := .cond (.tmp 32) Xn16_26 .skip
def Xn16_23 : C := .seq Xn16_24 Xn16_25
def Xn16_22 : C := .block 1 Xn16_23
def Xn16_30 : C := regL [1, 3] none [⟨some 23, .mv (.tmp 3), none⟩, ⟨some 24, .bin 3 .add (.tmp 23) (.const (.int .i64 1)), none⟩, ⟨some 3, .mv (.tmp 24), none⟩]
def Xn16_21 : C := seqL [1, 3] Xn16_22 Xn16_30
def Xn16_15 : C := seqL [1, 3] Xn16_16 Xn16_21
def Xn16_14 : C := loopL [1, 3] Xn16_15
def Xn16_13 : C := .block 0 Xn16_14
def Xn16_11 : C := .seq Xn16_12 Xn16_13
def Xn16_33 : C := regL [1, 40] none [⟨some 33, .fa 0 (.tmp 1), none⟩, ⟨some 34, .ld 3 1 false (.tmp 33), none⟩, ⟨some 35, .bin 3 .lss (.tmp 34) (.const (.int .i64 1)), none⟩, ⟨some 36, .mv (.tmp 35), none⟩, ⟨some 37, .fa 0 (.tmp 1), some (36, false)⟩, ⟨some 38, .ld 3 1 false (.tmp 37), some (36, false)⟩, ⟨some 39, .bin 3 .gtr (.tmp 38) (.const (.int .i64 64)), some (36, false)⟩, ⟨some 40, .pick 36 (.const (.bool true)) (.tmp 39), none⟩]
def Xn16_36 : C := regL [2] none [⟨some 2, .mv (.const (.int .i64 2)), none⟩]
def Xn16_35 : C := .seq Xn16_36 .ret
def Xn16_34 : C := .cond (.tmp 40) Xn16_35 .skip
def Xn16_32 : C := .seq Xn16_33 Xn16_34
def Xn16_41 : C := regL [1, 4] none [⟨some 4, .mv (.const (.int .i64 0)), none⟩]
def Xn16_46 : C := regL [1, 4, 45] none [⟨some 41, .mv (.tmp 4), none⟩, ⟨some 42, .fa 1 (.tmp 1), none⟩, ⟨some 43, .ld 22 1 false (.tmp 42), none⟩, ⟨some 44, .len (.tmp 43), none⟩, ⟨some 45, .bin 3 .lss (.tmp 41) (.tmp 44), none⟩]
def Xn16_47 : C := .cond (.tmp 45) .skip (.exit 2)
def Xn16_45 : C := .seq Xn16_46 Xn16_47
def Xn16_53 : C := regL [1, 4, 5] none [⟨some 48, .fa 1 (.tmp 1), none⟩, ⟨some 49, .ld 22 1 false (.tmp 48), none⟩, ⟨some 50, .mv (.tmp 4), none⟩, ⟨some 51, .ia 12 (.tmp 49) (.tmp 50), none⟩, ⟨some 52, .ld 67 12 true (.tmp 51), none⟩, ⟨some 5, .alc 67 (.agg #[.int .i64 0, .int .i64 0, .int .i64 0, .int .i64 0, .int .i64 0, .int .i64 0, .int .i64 0, .int .i64 0, .int .i64 0, .int .i64 0, .int .i64 0, .int .i64 0]), none⟩, ⟨none, .st 67 12 (.tmp 5) (.tmp 52), none⟩]
def Xn16_55 : C := regL [1, 4, 126] none [⟨some 53, .fa 0 (.tmp 5), none⟩, ⟨some 54, .ld 3 1 false (.tmp 53), none⟩, ⟨some 55, .bin 3 .lss (.tmp 54) (.const (.int .i64 0)), none⟩, ⟨some 56, .mv (.tmp 55), none⟩, ⟨some 57, .fa 0 (.tmp 5), some (56, false)⟩, ⟨some 58, .ld 3 1 false (.tmp 57), some (56, false)⟩, ⟨some 59, .fa 0 (.tmp 1), some (56, false)⟩, ⟨some 60, .ld 3 1 false (.tmp 59), some (56, false)⟩, ⟨some 61, .bin 3 .geq (.tmp 58) (.tmp 60), some (56, false)⟩, ⟨some 62, .pick 56 (.const (.bool true)) (.tmp 61), none⟩, ⟨some 63, .mv (.tmp 62), none⟩, ⟨some 64, .fa 1 (.tmp 5), some (63, false)⟩, ⟨some 65, .ld 3 1 false (.tmp 64), some (63, false)⟩, ⟨some 66, .bin 3 .lss (.tmp 65) (.const (.int .i64 0)), some (63, false)⟩, ⟨some 67, .pick 63 (.const (.bool true)) (.tmp 66), none⟩, ⟨some 68, .mv (.tmp 67), none⟩, ⟨some 69, .fa 1 (.tmp 5), some (68, false)⟩, ⟨some 70, .ld 3 1 false (.tmp 69), some (68, false)⟩, ⟨some 71, .fa 0 (.tmp 1), some (68, false)⟩, ⟨some 72, .ld 3 1 false (.tmp 71), some (68, false)⟩, ⟨some 73, .bin 3 .geq (.tmp 70) (.tmp 72), some (68, false)⟩, ⟨some 74, .pick 68 (.const (.bool true)) (.tmp 73), none⟩, ⟨some 75, .mv (.tmp 74), none⟩, ⟨some 76, .fa 0 (.tmp 5), some (75, false)⟩, ⟨some 77, .ld 3 1 false (.tmp 76), some (75, false)⟩, ⟨some 78, .fa 1 (.tmp 5), some (75, false)⟩, ⟨some 79, .ld 3 1 false (.tmp 78), some (75, false)⟩, ⟨some 80, .bin 3 .eql (.tmp 77) (.tmp 79), some (75, false)⟩, ⟨some 81, .pick 75 (.const (.bool true)) (.tmp 80), none⟩, ⟨some 82, .mv (.tmp 81), none⟩, ⟨some 83, .fa 2 (.tmp 5), some (82, false)⟩, ⟨some 84, .ld 2 1 false (.tmp 83), some (82, false)⟩, ⟨some 85, .call 66 [.tmp 84, .const (.int .i64 1), .const (.int .i64 1073741824)], some (82, false)⟩, ⟨some 86, .un .not (.tmp 85), some (82, false)⟩, ⟨some 87, .pick 82 (.const (.bool true)) (.tmp 86), none⟩, ⟨some 88, .mv (.tmp 87), none⟩, ⟨some 89, .fa 3 (.tmp 5), some (88, false)⟩, ⟨some 90, .ld 2 1 false (.tmp 89), some (88, false)⟩, ⟨some 91, .call 66 [.tmp 90, .const (.int .i64 1), .const (.int .i64 1440)], some (88, false)⟩, ⟨some 92, .un .not (.tmp 91), some (88, false)⟩, ⟨some 93, .pick 88 (.const (.bool true)) (.tmp 92), none⟩, ⟨some 94, .mv (.tmp 93), none⟩, ⟨some 95, .fa 4 (.tmp 5), some (94, false)⟩, ⟨some 96, .ld 2 1 false (.tmp 95), some (94, false)⟩, ⟨some 97, .bin 2 .lss (.tmp 96) (.const (.int .i64 0)), some (94, false)⟩, ⟨some 98, .pick 94 (.const (.bool true)) (.tmp 97), none⟩, ⟨some 99, .mv (.tmp 98), none⟩, ⟨some 100, .fa 4 (.tmp 5), some (99, false)⟩, ⟨some 101, .ld 2 1 false (.tmp 100), some (99, false)⟩, ⟨some 102, .fa 5 (.tmp 5), some (99, false)⟩, ⟨some 103, .ld 2 1 false (.tmp 102), some (99, false)⟩, ⟨some 104, .bin 2 .geq (.tmp 101) (.tmp 103), some (99, false)⟩, ⟨some 105, .pick 99 (.const (.bool true)) (.tmp 104), none⟩, ⟨some 106, .mv (.tmp 105), none⟩, ⟨some 107, .fa 5 (.tmp 5), some (106, false)⟩, ⟨some 108, .ld 2 1 false (.tmp 107), some (106, false)⟩, ⟨some 109, .bin 2 .gtr (.tmp 108) (.const (.int .i64 1440)), some (106, false)⟩, ⟨some 110, .pick 106 (.const (.bool true)) (.tmp 109), none⟩, ⟨some 111, .mv (.tmp 110), none⟩, ⟨some 112, .fa 5 (.tmp 5), some (111, false)⟩, ⟨some 113, .ld 2 1 false (.tmp 112), some (111, false)⟩, ⟨some 114, .fa 4 (.tmp 5), some (111, false)⟩, ⟨some 115, .ld 2 1 false (.tmp 114), some (111, false)⟩, ⟨some 116, .bin 2 .sub (.tmp 113) (.tmp 115), some (111, false)⟩, ⟨some 117, .fa 3 (.tmp 5), some (111, false)⟩, ⟨some 118, .ld 2 1 false (.tmp 117), some (111, false)⟩, ⟨some 119, .bin 2 .lss (.tmp 116) (.tmp 118), some (111, false)⟩, ⟨some 120, .pick 111 (.const (.bool true)) (.tmp 119), none⟩, ⟨some 121, .mv (.tmp 120), none⟩, ⟨some 122, .fa 6 (.tmp 5), some (121, false)⟩, ⟨some 123, .ld 26 6 true (.tmp 122), some (121, false)⟩, ⟨some 124, .call 29 [.tmp 123], some (121, false)⟩, ⟨some 125, .bin 34 .neq (.tmp 124) (.const (.int .i64 0)), some (121, false)⟩, ⟨some 126, .pick 121 (.const (.bool true)) (.tmp 125), none⟩]
def Xn16_58 : C := regL [2] none [⟨some 2, .mv (.const (.int .i64 2)), none⟩]
def Xn16_57 : C := .seq Xn16_58 .ret
def Xn16_56 : C := .cond (.tmp 126) Xn16_57 .skip
def Xn16_54 : C := .seq Xn16_55 Xn16_56
def Xn16_52 : C := .seq Xn16_53 Xn16_54
def Xn16_51 : C := .block 3 Xn16_52
def Xn16_61 : C := regL [1, 4] none [⟨some 46, .mv (.tmp 4), none⟩, ⟨some 47, .bin 3 .add (.tmp 46) (.const (.int .i64 1)), none⟩, ⟨some 4, .mv (.tmp 47), none⟩]
def Xn16_50 : C := seqL [1, 4] Xn16_51 Xn16_61
def Xn16_44 : C := seqL [1, 4] Xn16_45 Xn16_50
def Xn16_43 : C := loopL [1, 4] Xn16_44
def Xn16_42 : C := .block 2 Xn16_43
def Xn16_40 : C := .seq Xn16_41 Xn16_42
def Xn16_64 : C := regL [1, 6] none [⟨some 6, .mv (.const (.int .i64 0)), none⟩]
def Xn16_69 : C := regL [1, 6, 131] none [⟨some 127, .mv (.tmp 6), none⟩, ⟨some 128, .fa 2 (.tmp 1), none⟩, ⟨some 129, .ld 23 1 false (.tmp 128), none⟩, ⟨some 130, .len (.tmp 129), none⟩, ⟨some 131, .bin 3 .lss (.tmp 127) (.tmp 130), none⟩]
def Xn16_70 : C := .cond (.tmp 131) .skip (.exit 4)
def Xn16_68 : C := .seq Xn16_69 Xn16_70
def Xn16_76 : C := regL [1, 6, 7] none [⟨some 134, .fa 2 (.tmp 1), none⟩, ⟨some 135, .ld 23 1 false (.tmp 134), none⟩, ⟨some 136, .mv (.tmp 6), none⟩, ⟨some 137, .ia 4 (.tmp 135) (.tmp 136), none⟩, ⟨some 138, .ld 29 4 true (.tmp 137), none⟩, ⟨some 7, .alc 29 (.agg #[.slice none 0 0, .int .i64 0, .int .i64 0, .int .i64 0]), none⟩, ⟨none, .st 29 4 (.tmp 7) (.tmp 138), none⟩]
def Xn16_78 : C := regL [1, 6, 173] none [⟨some 139, .fa 0 (.tmp 7), none⟩, ⟨some 140, .ld 27 1 false (.tmp 139), none⟩, ⟨some 141, .len (.tmp 140), none⟩, ⟨some 142, .bin 3 .lss (.tmp 141) (.const (.int .i64 1)), none⟩, ⟨some 143, .mv (.tmp 142), none⟩, ⟨some 144, .fa 1 (.tmp 7), some (143, false)⟩, ⟨some 145, .ld 3 1 false (.tmp 144), some (143, false)⟩, ⟨some 146, .bin 3 .lss (.tmp 145) (.const (.int .i64 0)), some (143, false)⟩, ⟨some 147, .pick 143 (.const (.bool true)) (.tmp 146), none⟩, ⟨some 148, .mv (.tmp 147), none⟩, ⟨some 149, .fa 1 (.tmp 7), some (148, false)⟩, ⟨some 150, .ld 3 1 false (.tmp 149), some (148, false)⟩, ⟨some 151, .bin 3 .gtr (.tmp 150) (.const (.int .i64 5)), some (148, false)⟩, ⟨some 152, .pick 148 (.const (.bool true)) (.tmp 151), none⟩, ⟨some 153, .mv (.tmp 152), none⟩, ⟨some 154, .fa 2 (.tmp 7), some (153, false)⟩, ⟨some 155, .ld 2 1 false (.tmp 154), some (153, false)⟩, ⟨some 156, .call 66 [.tmp 155, .const (.int .i64 0), .const (.int .i64 1073741824)], some (153, false)⟩, ⟨some 157, .un .not (.tmp 156), some (153, false)⟩, ⟨some 158, .pick 153 (.const (.bool true)) (.tmp 157), none⟩, ⟨some 159, .mv (.tmp 158), none⟩, ⟨some 160, .fa 3 (.tmp 7), some (159, false)⟩, ⟨some 161, .ld 2 1 false (.tmp 160), some (159, false)⟩, ⟨some 162, .call 66 [.tmp 161, .const (.int .i64 1), .const (.int .i64 1073741824)], some (159, false)⟩, ⟨some 163, .un .not (.tmp 162), some (159, false)⟩, ⟨some 164, .pick 159 (.const (.bool true)) (.tmp 163), none⟩, ⟨some 165, .mv (.tmp 164), none⟩, ⟨some 166, .fa 0 (.tmp 7), some (165, false)⟩, ⟨some 167, .ld 27 1 false (.tmp 166), some (165, false)⟩, ⟨some 168, .fa 1 (.tmp 1), some (165, false)⟩, ⟨some 169, .ld 22 1 false (.tmp 168), some (165, false)⟩, ⟨some 170, .len (.tmp 169), some (165, false)⟩, ⟨some 171, .call 67 [.tmp 167, .tmp 170], some (165, false)⟩, ⟨some 172, .un .not (.tmp 171), some (165, false)⟩, ⟨some 173, .pick 165 (.const (.bool true)) (.tmp 172), none⟩]
def Xn16_81 : C := regL [2] none [⟨some 2, .mv (.const (.int .i64 2)), none⟩]
def Xn16_80 : C := .seq Xn16_81 .ret
def Xn16_79 : C := .cond (.tmp 173) Xn16_80 .skip
def Xn16_77 : C := .seq Xn16_78 Xn16_79
def Xn16_75 : C := .seq Xn16_76 Xn16_77
def Xn16_74 : C := .block 5 Xn16_75
def Xn16_84 : C := regL [1, 6] none [⟨some 132, .mv (.tmp 6), none⟩, ⟨some 133, .bin 3 .add (.tmp 132) (.const (.int .i64 1)), none⟩, ⟨some 6, .mv (.tmp 133), none⟩]
def Xn16_73 : C := seqL [1, 6] Xn16_74 Xn16_84
def Xn16_67 : C := seqL [1, 6] Xn16_68 Xn16_73
def Xn16_66 : C := loopL [1, 6] Xn16_67
def Xn16_65 : C := .block 4 Xn16_66
def Xn16_63 : C := .seq Xn16_64 Xn16_65
def Xn16_86 : C := regL [2] none [⟨some 2, .mv (.const (.int .i64 0)), none⟩]
def Xn16_85 : C := .seq Xn16_86 .ret
def Xn16_62 : C := seqL [] Xn16_63 Xn16_85
def Xn16_39 : C := seqL [1] Xn16_40 Xn16_62
def Xn16_31 : C := seqL [1] Xn16_32 Xn16_39
def Xn16_10 : C := seqL [1] Xn16_11 Xn16_31
def Xn16_2 : C := seqL [1] Xn16_3 Xn16_10
def Xn16_0 : C := .seq Xn16_1 Xn16_2
theorem Xt16 : Text Try.prog 16 Xn16_0 174 1 [.t 2] := ⟨⟨Try.f16, [1], Try.func16, by kernel_rfl, by kernel_rfl, by kernel_rfl, by kernel_rfl⟩⟩
def Xn20_1 : C := regL [2, 3, 4, 5] none [⟨some 4, .box true 25 (.tmp 0), none⟩, ⟨some 5, .box true 26 (.tmp 1), none⟩, ⟨some 8, .mv (.const (.slice none 0 0)), none⟩, ⟨some 9, .mv (.const (.int .i64 0)), none⟩]
def Xn20_3 : C := regL [2, 3, 4, 10, 11] none [⟨some 17, .ld 25 3 true (.tmp 4), none⟩, ⟨some 18, .ld 26 6 true (.tmp 5), none⟩, ⟨some 19, .call 52 [.tmp 17, .tmp 18], none⟩, ⟨some 16, .mv (.tmp 19), none⟩, ⟨some 20, .ext 0 (.tmp 16), none⟩, ⟨some 21, .ext 1 (.tmp 16), none⟩, ⟨some 10, .alc 89 (.agg #[.int .i64 0, .slice none 0 0, .slice none 0 0, .int .i64 0, .int .i64 0, .int .i64 0, .int .i64 0, .int .i64 0, .int .i64 0]), none⟩, ⟨none, .st 89 9 (.tmp 10) (.tmp 20), none⟩, ⟨some 11, .mv (.tmp 21), none⟩]
def Xn20_6 : C := regL [2, 3, 4, 10, 11, 23] none [⟨some 22, .mv (.tmp 11), none⟩, ⟨some 23, .bin 34 .neq (.tmp 22) (.const (.int .i64 0)), none⟩]
def Xn20_9 : C := regL [8, 9] none [⟨some 24, .mv (.tmp 11), none⟩, ⟨some 8, .mv (.const (.slice none 0 0)), none⟩, ⟨some 9, .mv (.tmp 24), none⟩]
def Xn20_8 : C := .seq Xn20_9 .ret
def Xn20_7 : C := .cond (.tmp 23) Xn20_8 .skip
def Xn20_5 : C := .seq Xn20_6 Xn20_7
def Xn20_14 : C := regL [2, 3, 4, 10, 30] none [⟨some 25, .mv (.tmp 2), none⟩, ⟨some 26, .fa 2 (.tmp 4), none⟩, ⟨some 27, .ld 23 1 false (.tmp 26), none⟩, ⟨some 28, .len (.tmp 27), none⟩, ⟨some 29, .call 73 [.tmp 25, .tmp 28], none⟩, ⟨some 30, .un .not (.tmp 29), none⟩]
def Xn20_17 : C := regL [8, 9] none [⟨some 8, .mv (.const (.slice none 0 0)), none⟩, ⟨some 9, .mv (.const (.int .i64 3)), none⟩]
def Xn20_16 : C := .seq Xn20_17 .ret
def Xn20_15 : C := .cond (.tmp 30) Xn20_16 .skip
def Xn20_13 : C := .seq Xn20_14 Xn20_15
def Xn20_22 : C := regL [2, 3, 10, 12] none [⟨some 31, .ld 25 3 true (.tmp 4), none⟩, ⟨some 32, .mv (.tmp 3), none⟩, ⟨some 33, .call 68 [.tmp 31, .tmp 32], none⟩, ⟨some 12, .mv (.tmp 33), none⟩]
def Xn20_24 : C := regL [2, 3, 10, 12, 35] none [⟨some 34, .mv (.tmp 12), none⟩, ⟨some 35, .bin 34 .neq (.tmp 34) (.const (.int .i64 0)), none⟩]
def Xn20_27 : C := regL [8, 9] none [⟨some 36, .mv (.tmp 12), none⟩, ⟨some 8, .mv (.const (.slice none 0 0)), none⟩, ⟨some 9, .mv (.tmp 36), none⟩]
def Xn20_26 : C := .seq Xn20_27 .ret
def Xn20_25 : C := .cond (.tmp 35) Xn20_26 .skip
def Xn20_23 : C := .seq Xn20_24 Xn20_25
def Xn20_21 : C := .seq Xn20_22 Xn20_23
def Xn20_31 : C := regL [2, 3, 10, 13] none [⟨some 13, .mv (.const (.slice none 0 0)), none⟩]
def Xn20_34 : C := regL [2, 10, 13, 37, 38, 39] none [⟨some 37, .mv (.tmp 3), none⟩, ⟨some 38, .len (.tmp 37), none⟩, ⟨some 39, .mv (.const (.int .i64 0)), none⟩]
def Xn20_38 : C := regL [2, 10, 13, 37, 38, 39, 40] none [⟨some 40, .bin 3 .lss (.tmp 39) (.tmp 38), none⟩]
def Xn20_40 : C := .cond (.tmp 40) .skip (.exit 0)
def Xn20_46 : C := regL [2, 10, 13, 15, 37, 38, 39] none [⟨some 41, .ia 1 (.tmp 37) (.tmp 39), none⟩, ⟨some 42, .ld 3 1 false (.tmp 41), none⟩, ⟨some 15, .mv (.tmp 42), none⟩]
def Xn20_47 : C := regL [2, 10, 13, 37, 38, 39] (some [0, 0, 0, 4, 0, 30, 63, 127]) [⟨some 43, .mv (.tmp 13), none⟩, ⟨some 44, .ld 89 9 true (.tmp 10), none⟩, ⟨some 45, .mv (.tmp 2), none⟩, ⟨some 46, .call 76 [.tmp 45], none⟩, ⟨some 47, .mv (.tmp 15), none⟩, ⟨some 48, .call 75 [.tmp 44, .tmp 46, .tmp 47], none⟩, ⟨some 49, .call 74 [.tmp 43, .tmp 48], none⟩, ⟨some 13, .mv (.tmp 49), none⟩]
def Xn20_45 : C := .seq Xn20_46 Xn20_47
def Xn20_44 : C := .block 1 Xn20_45
def Xn20_48 : C := regL [2, 10, 13, 37, 38, 39] none [⟨some 50, .bin 3 .add (.tmp 39) (.const (.int .i64 1)), none⟩, ⟨some 39, .mv (.tmp 50), none⟩]
def Xn20_43 : C := seqL [2, 10, 13, 37, 38, 39] Xn20_44 Xn20_48
def Xn20_39 : C := seqL [2, 10, 13, 37, 38, 39] Xn20_40 Xn20_43
def Xn20_37 : C := .seq Xn20_38 Xn20_39
def Xn20_36 : C := loopL [2, 10, 13, 37, 38, 39] Xn20_37
def Xn20_35 : C := .block 0 Xn20_36
def Xn20_33 : C := .seq Xn20_34 Xn20_35
def Xn20_50 : C := regL [8, 9] none [⟨some 51, .mv (.tmp 13), none⟩, ⟨some 8, .mv (.tmp 51), none⟩, ⟨some 9, .mv (.const (.int .i64 0)), none⟩]
def Xn20_49 : C := .seq Xn20_50 .ret
def Xn20_32 : C := seqL [13] Xn20_33 Xn20_49
def Xn20_30 : C := .seq Xn20_31 Xn20_32
def Xn20_20 : C := seqL [2, 3, 10] Xn20_21 Xn20_30
def Xn20_12 : C := seqL [2, 3, 4, 10] Xn20_13 Xn20_20
def Xn20_4 : C := seqL [2, 3, 4, 10] Xn20_5 Xn20_12
def Xn20_2 : C := .seq Xn20_3 Xn20_4
def Xn20_0 : C := .seq Xn20_1 Xn20_2
theorem Xt20 : Text Try.prog 20 Xn20_0 52 4 [.t 8, .t 9] := ⟨⟨Try.f20, [4, 5], Try.func20, by kernel_rfl, by kernel_rfl, by kernel_rfl, by kernel_rfl⟩⟩
def Xn25_1 : C := regL [1] none [⟨some 1, .box true 25 (.tmp 0), none⟩, ⟨some 2, .mv (.const (.bool false)), none⟩]
def Xn25_4 : C := regL [1, 13] none [⟨some 4, .fa 1 (.tmp 1), none⟩, ⟨some 5, .ld 22 1 false (.tmp 4), none⟩, ⟨some 6, .len (.tmp 5), none⟩, ⟨some 7, .bin 3 .gtr (.tmp 6) (.const (.int .i64 300)), none⟩, ⟨some 8, .mv (.tmp 7), none⟩, ⟨some 9, .fa 2 (.tmp 1), some (8, false)⟩, ⟨some 10, .ld 23 1 false (.tmp 9), some (8, false)⟩, ⟨some 11, .len (.tmp 10), some (8, false)⟩, ⟨some 12, .bin 3 .gtr (.tmp 11) (.const (.int .i64 20)), some (8, false)⟩, ⟨some 13, .pick 8 (.const (.bool true)) (.tmp 12), none⟩]
def Xn25_7 : C := regL [2] none [⟨some 2, .mv (.const (.bool true)), none⟩]
def Xn25_6 : C := .seq Xn25_7 .ret
def Xn25_5 : C := .cond (.tmp 13) Xn25_6 .skip
def Xn25_3 : C := .seq Xn25_4 Xn25_5
def Xn25_12 : C := regL [1, 3] none [⟨some 3, .mv (.const (.int .i64 0)), none⟩]
def Xn25_17 : C := regL [1, 3, 18] none [⟨some 14, .mv (.tmp 3), none⟩, ⟨some 15, .fa 2 (.tmp 1), none⟩, ⟨some 16, .ld 23 1 false (.tmp 15), none⟩, ⟨some 17, .len (.tmp 16), none⟩, ⟨some 18, .bin 3 .lss (.tmp 14) (.tmp 17), none⟩]
def Xn25_18 : C := .cond (.tmp 18) .skip (.exit 0)
def Xn25_16 : C := .seq Xn25_17 Xn25_18
def Xn25_24 : C := regL [1, 3, 28] none [⟨some 21, .fa 2 (.tmp 1), none⟩, ⟨some 22, .ld 23 1 false (.tmp 21), none⟩, ⟨some 23, .mv (.tmp 3), none⟩, ⟨some 24, .ia 4 (.tmp 22) (.tmp 23), none⟩, ⟨some 25, .fa 0 (.tmp 24), none⟩, ⟨some 26, .ld 27 1 false (.tmp 25), none⟩, ⟨some 27, .len (.tmp 26), none⟩, ⟨some 28, .bin 3 .gtr (.tmp 27) (.const (.int .i64 40)), none⟩]
def Xn25_27 : C := regL [2] none [⟨some 2, .mv (.const (.bool true)), none⟩]
def Xn25_26 : C := .seq Xn25_27 .ret
def Xn25_25 : C := .cond (.tmp 28) Xn25_26 .skip
def Xn25_23 : C := .seq Xn25_24 Xn25_25
def Xn25_22 : C := .block 1 Xn25_23
def Xn25_30 : C := regL [1, 3] none [⟨some 19, .mv (.tmp 3), none⟩, ⟨some 20, .bin 3 .add (.tmp 19) (.const (.int .i64 1)), none⟩, ⟨some 3, .mv (.tmp 20), none⟩]
def Xn25_21 : C := seqL [1, 3] Xn25_22 Xn25_30
def Xn25_15 : C := seqL [1, 3] Xn25_16 Xn25_21
def Xn25_14 : C := loopL [1, 3] Xn25_15
def Xn25_13 : C := .block 0 Xn25_14
def Xn25_11 : C := .seq Xn25_12 Xn25_13
def Xn25_32 : C := regL [2] none [⟨some 29, .ld 25 3 true (.tmp 1), none⟩, ⟨some 30, .call 16 [.tmp 29], none⟩, ⟨some 31, .bin 34 .eql (.tmp 30) (.const (.int .i64 0)), none⟩, ⟨some 32, .mv (.tmp 31), none⟩, ⟨some 33, .fa 0 (.tmp 1), some (32, true)⟩, ⟨some 34, .ld 3 1 false (.tmp 33), some (32, true)⟩, ⟨some 35, .bin 3 .gtr (.tmp 34) (.const (.int .i64 12)), some (32, true)⟩, ⟨some 36, .mv (.tmp 35), some (32, true)⟩, ⟨some 37, .fa 1 (.tmp 1), some (36, false)⟩, ⟨some 38, .ld 22 1 false (.tmp 37), some (36, false)⟩, ⟨some 39, .len (.tmp 38), some (36, false)⟩, ⟨some 40, .bin 3 .gtr (.tmp 39) (.const (.int .i64 30)), some (36, false)⟩, ⟨some 41, .pick 36 (.const (.bool true)) (.tmp 40), some (32, true)⟩, ⟨some 42, .mv (.tmp 41), some (32, true)⟩, ⟨some 43, .fa 2 (.tmp 1), some (42, false)⟩, ⟨some 44, .ld 23 1 false (.tmp 43), some (42, false)⟩, ⟨some 45, .len (.tmp 44), some (42, false)⟩, ⟨some 46, .bin 3 .gtr (.tmp 45) (.const (.int .i64 5)), some (42, false)⟩, ⟨some 47, .pick 42 (.const (.bool true)) (.tmp 46), some (32, true)⟩, ⟨some 48, .pick 32 (.tmp 47) (.const (.bool false)), none⟩, ⟨some 2, .mv (.tmp 48), none⟩]
def Xn25_31 : C := .seq Xn25_32 .ret
def Xn25_10 : C := seqL [1] Xn25_11 Xn25_31
def Xn25_2 : C := seqL [1] Xn25_3 Xn25_10
def Xn25_0 : C := .seq Xn25_1 Xn25_2
theorem Xt25 : Text Try.prog 25 Xn25_0 49 1 [.t 2] := ⟨⟨Try.f25, [1], Try.func25, by kernel_rfl, by kernel_rfl, by kernel_rfl, by kernel_rfl⟩⟩
def Xn27_1 : C := regL [1] none [⟨some 1, .box true 25 (.tmp 0), none⟩, ⟨some 2, .mv (.const (.int .i64 0)), none⟩]
def Xn27_4 : C := regL [1, 20] none [⟨some 6, .fa 1 (.tmp 1), none⟩, ⟨some 7, .ld 22 1 false (.tmp 6), none⟩, ⟨some 8, .len (.tmp 7), none⟩, ⟨some 9, .bin 3 .gtr (.tmp 8) (.const (.int .i64 256)), none⟩, ⟨some 10, .mv (.tmp 9), none⟩, ⟨some 11, .fa 2 (.tmp 1), some (10, false)⟩, ⟨some 12, .ld 23 1 false (.tmp 11), some (10, false)⟩, ⟨some 13, .len (.tmp 12), some (10, false)⟩, ⟨some 14, .bin 3 .gtr (.tmp 13) (.const (.int .i64 10)), some (10, false)⟩, ⟨some 15, .pick 10 (.const (.bool true)) (.tmp 14), none⟩, ⟨some 16, .mv (.tmp 15), none⟩, ⟨some 17, .fa 2 (.tmp 1), some (16, false)⟩, ⟨some 18, .ld 23 1 false (.tmp 17), some (16, false)⟩, ⟨some 19, .call 81 [.tmp 18, .func 82], some (16, false)⟩, ⟨some 20, .pick 16 (.const (.bool true)) (.tmp 19), none⟩]
def Xn27_7 : C := regL [2] none [⟨some 2, .mv (.const (.int .i64 6)), none⟩]
def Xn27_6 : C := .seq Xn27_7 .ret
def Xn27_5 : C := .cond (.tmp 20) Xn27_6 .skip
def Xn27_3 : C := .seq Xn27_4 Xn27_5
def Xn27_11 : C := regL [1, 3] none [⟨some 21, .mkf 83 [] [.tmp 1], none⟩, ⟨some 3, .alc 115 (.nilFunc), none⟩, ⟨none, .st 115 1 (.tmp 3) (.tmp 21), none⟩]
def Xn27_13 : C := regL [1, 4] none [⟨some 22, .mkf 84 [] [.tmp 3], none⟩, ⟨some 4, .mv (.tmp 22), none⟩]
def Xn27_15 : C := regL [1, 4, 5] none [⟨some 23, .mkf 86 [] [.tmp 1], none⟩, ⟨some 5, .mv (.tmp 23), none⟩]
def Xn27_18 : C := regL [43] none [⟨some 24, .fa 0 (.tmp 1), none⟩, ⟨some 25, .ld 3 1 false (.tmp 24), none⟩, ⟨some 26, .bin 3 .lss (.tmp 25) (.const (.int .i64 1)), none⟩, ⟨some 27, .mv (.tmp 26), none⟩, ⟨some 28, .fa 0 (.tmp 1), some (27, false)⟩, ⟨some 29, .ld 3 1 false (.tmp 28), some (27, false)⟩, ⟨some 30, .bin 3 .gtr (.tmp 29) (.const (.int .i64 64)), some (27, false)⟩, ⟨some 31, .pick 27 (.const (.bool true)) (.tmp 30), none⟩, ⟨some 32, .mv (.tmp 31), none⟩, ⟨some 33, .fa 1 (.tmp 1), some (32, false)⟩, ⟨some 34, .ld 22 1 false (.tmp 33), some (32, false)⟩, ⟨some 35, .mv (.tmp 4), some (32, false)⟩, ⟨some 36, .call 87 [.tmp 34, .tmp 35], some (32, false)⟩, ⟨some 37, .pick 32 (.const (.bool true)) (.tmp 36), none⟩, ⟨some 38, .mv (.tmp 37), none⟩, ⟨some 39, .fa 2 (.tmp 1), some (38, false)⟩, ⟨some 40, .ld 23 1 false (.tmp 39), some (38, false)⟩, ⟨some 41, .mv (.tmp 5), some (38, false)⟩, ⟨some 42, .call 81 [.tmp 40, .tmp 41], some (38, false)⟩, ⟨some 43, .pick 38 (.const (.bool true)) (.tmp 42), none⟩]
def Xn27_21 : C := regL [2] none [⟨some 2, .mv (.const (.int .i64 2)), none⟩]
def Xn27_20 : C := .seq Xn27_21 .ret
def Xn27_19 : C := .cond (.tmp 43) Xn27_20 .skip
def Xn27_17 : C := .seq Xn27_18 Xn27_19
def Xn27_25 : C := regL [2] none [⟨some 2, .mv (.const (.int .i64 0)), none⟩]
def Xn27_24 : C := .seq Xn27_25 .ret
def Xn27_16 : C := seqL [] Xn27_17 Xn27_24
def Xn27_14 : C := .seq Xn27_15 Xn27_16
def Xn27_12 : C := .seq Xn27_13 Xn27_14
def Xn27_10 : C := .seq Xn27_11 Xn27_12
def Xn27_2 : C := seqL [1] Xn27_3 Xn27_10
def Xn27_0 : C := .seq Xn27_1 Xn27_2
theorem Xt27 : Text Try.prog 27 Xn27_0 44 1 [.t 2] := ⟨⟨Try.f27, [1], Try.func27, by kernel_rfl, by kernel_rfl, by kernel_rfl, by kernel_rfl⟩⟩
def Xn28_1 : C := regL [1] none [⟨some 1, .box true 26 (.tmp 0), none⟩, ⟨some 2, .mv (.const (.int .i64 0)), none⟩]
def Xn28_4 : C := regL [4] none [⟨some 3, .sla 26 6 1 (.tmp 1), none⟩, ⟨some 4, .call 88 [.tmp 3, .func 89], none⟩]
def Xn28_7 : C := regL [2] none [⟨some 2, .mv (.const (.int .i64 2)), none⟩]
def Xn28_6 : C := .seq Xn28_7 .ret
def Xn28_5 : C := .cond (.tmp 4) Xn28_6 .skip
def Xn28_3 : C := .seq Xn28_4 Xn28_5
def Xn28_11 : C := regL [2] none [⟨some 2, .mv (.const (.int .i64 0)), none⟩]
def Xn28_10 : C := .seq Xn28_11 .ret
def Xn28_2 : C := seqL [] Xn28_3 Xn28_10
def Xn28_0 : C := .seq Xn28_1 Xn28_2
theorem Xt28 : Text Try.prog 28 Xn28_0 5 1 [.t 2] := ⟨⟨Try.f28, [1], Try.func28, by kernel_rfl, by kernel_rfl, by kernel_rfl, by kernel_rfl⟩⟩
def Xn29_1 : C := regL [1] none [⟨some 1, .box true 26 (.tmp 0), none⟩, ⟨some 2, .mv (.const (.int .i64 0)), none⟩]
def Xn29_4 : C := regL [1, 3] none [⟨some 3, .mv (.const (.int .i64 0)), none⟩]
def Xn29_9 : C := regL [1, 3, 5] none [⟨some 4, .mv (.tmp 3), none⟩, ⟨some 5, .bin 3 .lss (.tmp 4) (.const (.int .i64 6)), none⟩]
def Xn29_10 : C := .cond (.tmp 5) .skip (.exit 0)
def Xn29_8 : C := .seq Xn29_9 Xn29_10
def Xn29_16 : C := regL [1, 3, 12] none [⟨some 8, .mv (.tmp 3), none⟩, ⟨some 9, .iaa 6 1 (.tmp 1) (.tmp 8), none⟩, ⟨some 10, .ld 2 1 false (.tmp 9), none⟩, ⟨some 11, .call 66 [.tmp 10, .const (.int .i64 0), .const (.int .i64 1073741824)], none⟩, ⟨some 12, .un .not (.tmp 11), none⟩]
def Xn29_19 : C := regL [2] none [⟨some 2, .mv (.const (.int .i64 2)), none⟩]
def Xn29_18 : C := .seq Xn29_19 .ret
def Xn29_17 : C := .cond (.tmp 12) Xn29_18 .skip
def Xn29_15 : C := .seq Xn29_16 Xn29_17
def Xn29_14 : C := .block 1 Xn29_15
def Xn29_22 : C := regL [1, 3] none [⟨some 6, .mv (.tmp 3), none⟩, ⟨some 7, .bin 3 .add (.tmp 6) (.const (.int .i64 1)), none⟩, ⟨some 3, .mv (.tmp 7), none⟩]
def Xn29_13 : C := seqL [1, 3] Xn29_14 Xn29_22
def Xn29_7 : C := seqL [1, 3] Xn29_8 Xn29_13
def Xn29_6 : C := loopL [1, 3] Xn29_7
def Xn29_5 : C := .block 0 Xn29_6
def Xn29_3 : C := .seq Xn29_4 Xn29_5
def Xn29_24 : C := regL [2] none [⟨some 2, .mv (.const (.int .i64 0)), none⟩]
def Xn29_23 : C := .seq Xn29_24 .ret
def Xn29_2 : C := seqL [] Xn29_3 Xn29_23
def Xn29_0 : C := .seq Xn29_1 Xn29_2
theorem Xt29 : Text Try.prog 29 Xn29_0 13 1 [.t 2] := ⟨⟨Try.f29, [1], Try.func29, by kernel_rfl, by kernel_rfl, by kernel_rfl, by kernel_rfl⟩⟩
def Xn30_1 : C := regL [1, 2, 3, 4] none [⟨some 4, .box true 25 (.tmp 0), none⟩, ⟨some 8, .mv (.const (.bool false)), none⟩, ⟨some 9, .mv (.const (.int .i64 0)), none⟩]
def Xn30_4 : C := regL [1, 2, 3, 4, 10] none [⟨some 17, .ld 25 3 true (.tmp 4), none⟩, ⟨some 18, .call 27 [.tmp 17], none⟩, ⟨some 10, .mv (.tmp 18), none⟩]
def Xn30_6 : C := regL [1, 2, 3, 4, 10, 20] none [⟨some 19, .mv (.tmp 10), none⟩, ⟨some 20, .bin 34 .neq (.tmp 19) (.const (.int .i64 0)), none⟩]
def Xn30_9 : C := regL [8, 9] none [⟨some 21, .mv (.tmp 10), none⟩, ⟨some 8, .mv (.const (.bool false)), none⟩, ⟨some 9, .mv (.tmp 21), none⟩]
def Xn30_8 : C := .seq Xn30_9 .ret
def Xn30_7 : C := .cond (.tmp 20) Xn30_8 .skip
def Xn30_5 : C := .seq Xn30_6 Xn30_7
def Xn30_3 : C := .seq Xn30_4 Xn30_5
def Xn30_14 : C := regL [1, 2, 3, 4, 11] none [⟨some 22, .ld 25 3 true (.tmp 4), none⟩, ⟨some 23, .mv (.tmp 1), none⟩, ⟨some 24, .mv (.tmp 2), none⟩, ⟨some 25, .bls 3 1 2 (.int .i64 0) [(0, 1, .tmp 23), (1, 1, .tmp 24)], none⟩, ⟨some 26, .call 53 [.tmp 22, .tmp 25], none⟩, ⟨some 11, .mv (.tmp 26), none⟩]
def Xn30_16 : C := regL [1, 2, 3, 4, 11, 28] none [⟨some 27, .mv (.tmp 11), none⟩, ⟨some 28, .bin 34 .neq (.tmp 27) (.const (.int .i64 0)), none⟩]
def Xn30_19 : C := regL [8, 9] none [⟨some 29, .mv (.tmp 11), none⟩, ⟨some 8, .mv (.const (.bool false)), none⟩, ⟨some 9, .mv (.tmp 29), none⟩]
def Xn30_18 : C := .seq Xn30_19 .ret
def Xn30_17 : C := .cond (.tmp 28) Xn30_18 .skip
def Xn30_15 : C := .seq Xn30_16 Xn30_17
def Xn30_13 : C := .seq Xn30_14 Xn30_15
def Xn30_24 : C := regL [1, 2, 3, 4, 12] none [⟨some 30, .ld 25 3 true (.tmp 4), none⟩, ⟨some 31, .mv (.tmp 3), none⟩, ⟨some 32, .call 68 [.tmp 30, .tmp 31], none⟩, ⟨some 12, .mv (.tmp 32), none⟩]
def Xn30_26 : C := regL [1, 2, 3, 4, 12, 34] none [⟨some 33, .mv (.tmp 12), none⟩, ⟨some 34, .bin 34 .neq (.tmp 33) (.const (.int .i64 0)), none⟩]
def Xn30_29 : C := regL [8, 9] none [⟨some 35, .mv (.tmp 12), none⟩, ⟨some 8, .mv (.const (.bool false)), none⟩, ⟨some 9, .mv (.tmp 35), none⟩]
def Xn30_28 : C := .seq Xn30_29 .ret
def Xn30_27 : C := .cond (.tmp 34) Xn30_28 .skip
def Xn30_25 : C := .seq Xn30_26 Xn30_27
def Xn30_23 : C := .seq Xn30_24 Xn30_25
def Xn30_33 : C := regL [1, 2, 3, 4, 13] none [⟨some 36, .mkm 130 0, none⟩, ⟨some 37, .mv (.tmp 1), none⟩, ⟨none, .mup 130 0 (.tmp 36) (.tmp 37) (.const (.int .i64 1)), none⟩, ⟨some 38, .mv (.tmp 36), none⟩, ⟨some 13, .mv (.tmp 38), none⟩]
def Xn30_36 : C := regL [1, 2, 4, 13, 39, 40, 41] none [⟨some 39, .mv (.tmp 3), none⟩, ⟨some 40, .len (.tmp 39), none⟩, ⟨some 41, .mv (.const (.int .i64 0)), none⟩]
def Xn30_40 : C := regL [1, 2, 4, 13, 39, 40, 41, 42] none [⟨some 42, .bin 3 .lss (.tmp 41) (.tmp 40), none⟩]
def Xn30_42 : C := .cond (.tmp 42) .skip (.exit 0)
def Xn30_48 : C := regL [1, 2, 4, 13, 15, 39, 40, 41] none [⟨some 43, .ia 1 (.tmp 39) (.tmp 41), none⟩, ⟨some 44, .ld 3 1 false (.tmp 43), none⟩, ⟨some 15, .mv (.tmp 44), none⟩]
def Xn30_50 : C := regL [1, 2, 4, 13, 16, 39, 40, 41] none [⟨some 45, .fa 1 (.tmp 4), none⟩, ⟨some 46, .ld 22 1 false (.tmp 45), none⟩, ⟨some 47, .mv (.tmp 15), none⟩, ⟨some 48, .ia 12 (.tmp 46) (.tmp 47), none⟩, ⟨some 49, .ld 67 12 true (.tmp 48), none⟩, ⟨some 16, .alc 67 (.agg #[.int .i64 0, .int .i64 0, .int .i64 0, .int .i64 0, .int .i64 0, .int .i64 0, .int .i64 0, .int .i64 0, .int .i64 0, .int .i64 0, .int .i64 0, .int .i64 0]), none⟩, ⟨none, .st 67 12 (.tmp 16) (.tmp 49), none⟩]
def Xn30_53 : C := regL [1, 2, 4, 13, 16, 39, 40, 41] none [⟨some 50, .mv (.tmp 13), none⟩, ⟨some 51, .fa 1 (.tmp 16), none⟩, ⟨some 52, .ld 3 1 false (.tmp 51), none⟩, ⟨some 53, .mlk 130 0 (.int .i64 0) (.tmp 50) (.tmp 52) false, none⟩, ⟨some 54, .bin 3 .add (.tmp 53) (.const (.int .i64 1)), none⟩, ⟨none, .mup 130 0 (.tmp 50) (.tmp 52) (.tmp 54), none⟩]
def Xn30_55 : C := regL [2, 4, 13, 16, 39, 40, 41, 65] none [⟨some 55, .fa 0 (.tmp 16), none⟩, ⟨some 56, .ld 3 1 false (.tmp 55), none⟩, ⟨some 57, .mv (.tmp 1), none⟩, ⟨some 58, .bin 3 .neq (.tmp 56) (.tmp 57), none⟩, ⟨some 59, .mv (.tmp 58), none⟩, ⟨some 60, .mv (.tmp 13), some (59, false)⟩, ⟨some 61, .fa 1 (.tmp 16), some (59, false)⟩, ⟨some 62, .ld 3 1 false (.tmp 61), some (59, false)⟩, ⟨some 63, .mlk 130 0 (.int .i64 0) (.tmp 60) (.tmp 62) false, some (59, false)⟩, ⟨some 64, .bin 3 .gtr (.tmp 63) (.const (.int .i64 1)), some (59, false)⟩, ⟨some 65, .pick 59 (.const (.bool true)) (.tmp 64), none⟩]
def Xn30_58 : C := regL [8, 9] none [⟨some 8, .mv (.const (.bool false)), none⟩, ⟨some 9, .mv (.const (.int .i64 0)), none⟩]
def Xn30_57 : C := .seq Xn30_58 .ret
def Xn30_56 : C := .cond (.tmp 65) Xn30_57 .skip
def Xn30_54 : C := .seq Xn30_55 Xn30_56
def Xn30_52 : C := .seq Xn30_53 Xn30_54
def Xn30_61 : C := regL [1, 2, 4, 13, 39, 40, 41] none [⟨some 66, .fa 1 (.tmp 16), none⟩, ⟨some 67, .ld 3 1 false (.tmp 66), none⟩, ⟨some 1, .mv (.tmp 67), none⟩]
def Xn30_51 : C := seqL [2, 4, 13, 16, 39, 40, 41] Xn30_52 Xn30_61
def Xn30_49 : C := .seq Xn30_50 Xn30_51
def Xn30_47 : C := .seq Xn30_48 Xn30_49
def Xn30_46 : C := .block 1 Xn30_47
def Xn30_62 : C := regL [1, 2, 4, 13, 39, 40, 41] none [⟨some 68, .bin 3 .add (.tmp 41) (.const (.int .i64 1)), none⟩, ⟨some 41, .mv (.tmp 68), none⟩]
def Xn30_45 : C := seqL [1, 2, 4, 13, 39, 40, 41] Xn30_46 Xn30_62
def Xn30_41 : C := seqL [1, 2, 4, 13, 39, 40, 41] Xn30_42 Xn30_45
def Xn30_39 : C := .seq Xn30_40 Xn30_41
def Xn30_38 : C := loopL [1, 2, 4, 13, 39, 40, 41] Xn30_39
def Xn30_37 : C := .block 0 Xn30_38
def Xn30_35 : C := .seq Xn30_36 Xn30_37
def Xn30_64 : C := regL [8, 9] none [⟨some 69, .mv (.tmp 1), none⟩, ⟨some 70, .mv (.tmp 2), none⟩, ⟨some 71, .bin 3 .eql (.tmp 69) (.tmp 70), none⟩, ⟨some 8, .mv (.tmp 71), none⟩, ⟨some 9, .mv (.const (.int .i64 0)), none⟩]
def Xn30_63 : C := .seq Xn30_64 .ret
def Xn30_34 : C := seqL [1, 2] Xn30_35 Xn30_63
def Xn30_32 : C := .seq Xn30_33 Xn30_34
def Xn30_22 : C := seqL [1, 2, 3, 4] Xn30_23 Xn30_32
def Xn30_12 : C := seqL [1, 2, 3, 4] Xn30_13 Xn30_22
def Xn30_2 : C := seqL [1, 2, 3, 4] Xn30_3 Xn30_12
def Xn30_0 : C := .seq Xn30_1 Xn30_2
theorem Xt30 : Text Try.prog 30 Xn30_0 72 4 [.t 8, .t 9] := ⟨⟨Try.f30, [4], Try.func30, by kernel_rfl, by kernel_rfl, by kernel_rfl, by kernel_rfl⟩⟩
def Xn34_1 : C := regL [1, 2, 3] none [⟨some 3, .box true 25 (.tmp 0), none⟩, ⟨some 6, .mv (.const (.int .i64 0)), none⟩, ⟨some 7, .mv (.const (.int .i64 0)), none⟩]
def Xn34_4 : C := regL [1, 2, 3, 8] none [⟨some 13, .ld 25 3 true (.tmp 3), none⟩, ⟨some 14, .call 27 [.tmp 13], none⟩, ⟨some 8, .mv (.tmp 14), none⟩]
def Xn34_6 : C := regL [1, 2, 3, 8, 16] none [⟨some 15, .mv (.tmp 8), none⟩, ⟨some 16, .bin 34 .neq (.tmp 15) (.const (.int .i64 0)), none⟩]
def Xn34_9 : C := regL [6, 7] none [⟨some 17, .mv (.tmp 8), none⟩, ⟨some 6, .mv (.const (.int .i64 0)), none⟩, ⟨some 7, .mv (.tmp 17), none⟩]
def Xn34_8 : C := .seq Xn34_9 .ret
def Xn34_7 : C := .cond (.tmp 16) Xn34_8 .skip
def Xn34_5 : C := .seq Xn34_6 Xn34_7
def Xn34_3 : C := .seq Xn34_4 Xn34_5
def Xn34_14 : C := regL [1, 2, 3, 9] none [⟨some 18, .ld 25 3 true (.tmp 3), none⟩, ⟨some 19, .mv (.tmp 1), none⟩, ⟨some 20, .call 68 [.tmp 18, .tmp 19], none⟩, ⟨some 9, .mv (.tmp 20), none⟩]
def Xn34_16 : C := regL [1, 2, 3, 9, 22] none [⟨some 21, .mv (.tmp 9), none⟩, ⟨some 22, .bin 34 .neq (.tmp 21) (.const (.int .i64 0)), none⟩]
def Xn34_19 : C := regL [6, 7] none [⟨some 23, .mv (.tmp 9), none⟩, ⟨some 6, .mv (.const (.int .i64 0)), none⟩, ⟨some 7, .mv (.tmp 23), none⟩]
def Xn34_18 : C := .seq Xn34_19 .ret
def Xn34_17 : C := .cond (.tmp 22) Xn34_18 .skip
def Xn34_15 : C := .seq Xn34_16 Xn34_17
def Xn34_13 : C := .seq Xn34_14 Xn34_15
def Xn34_24 : C := regL [1, 2, 3, 26] none [⟨some 24, .mv (.tmp 2), none⟩, ⟨some 25, .call 85 [.tmp 24, .const (.int .i64 0), .const (.int .i64 1099511627776)], none⟩, ⟨some 26, .un .not (.tmp 25), none⟩]
def Xn34_27 : C := regL [6, 7] none [⟨some 6, .mv (.const (.int .i64 0)), none⟩, ⟨some 7, .mv (.const (.int .i64 3)), none⟩]
def Xn34_26 : C := .seq Xn34_27 .ret
def Xn34_25 : C := .cond (.tmp 26) Xn34_26 .skip
def Xn34_23 : C := .seq Xn34_24 Xn34_25
def Xn34_31 : C := regL [1, 3, 10] none [⟨some 27, .mv (.tmp 2), none⟩, ⟨some 10, .mv (.tmp 27), none⟩]
def Xn34_34 : C := regL [1, 3, 10, 28, 29, 30] none [⟨some 28, .mv (.tmp 1), none⟩, ⟨some 29, .len (.tmp 28), none⟩, ⟨some 30, .mv (.const (.int .i64 0)), none⟩]
def Xn34_38 : C := regL [1, 3, 10, 28, 29, 30, 31] none [⟨some 31, .bin 3 .lss (.tmp 30) (.tmp 29), none⟩]
def Xn34_40 : C := .cond (.tmp 31) .skip (.exit 0)
def Xn34_46 : C := regL [1, 3, 10, 11, 12, 28, 29, 30] none [⟨some 32, .mv (.tmp 30), none⟩, ⟨some 33, .ia 1 (.tmp 28) (.tmp 30), none⟩, ⟨some 34, .ld 3 1 false (.tmp 33), none⟩, ⟨some 11, .mv (.tmp 32), none⟩, ⟨some 12, .mv (.tmp 34), none⟩]
def Xn34_49 : C := regL [1, 3, 10, 12, 28, 29, 30, 55] (some [0, 1, 3, 7, 15, 7, 63, 127, 255, 7, 519, 7, 7, 4103, 14343, 30727, 65031, 130567, 261639, 524287, 1048575]) [⟨some 35, .mv (.tmp 11), none⟩, ⟨some 36, .bin 3 .gtr (.tmp 35) (.const (.int .i64 0)), none⟩, ⟨some 37, .mv (.tmp 36), none⟩, ⟨some 38, .fa 1 (.tmp 3), some (37, true)⟩, ⟨some 39, .ld 22 1 false (.tmp 38), some (37, true)⟩, ⟨some 40, .mv (.tmp 12), some (37, true)⟩, ⟨some 41, .ia 12 (.tmp 39) (.tmp 40), some (37, true)⟩, ⟨some 42, .fa 0 (.tmp 41), some (37, true)⟩, ⟨some 43, .ld 3 1 false (.tmp 42), some (37, true)⟩, ⟨some 44, .fa 1 (.tmp 3), some (37, true)⟩, ⟨some 45, .ld 22 1 false (.tmp 44), some (37, true)⟩, ⟨some 46, .mv (.tmp 1), some (37, true)⟩, ⟨some 47, .mv (.tmp 11), some (37, true)⟩, ⟨some 48, .bin 3 .sub (.tmp 47) (.const (.int .i64 1)), some (37, true)⟩, ⟨some 49, .ia 1 (.tmp 46) (.tmp 48), some (37, true)⟩, ⟨some 50, .ld 3 1 false (.tmp 49), some (37, true)⟩, ⟨some 51, .ia 12 (.tmp 45) (.tmp 50), some (37, true)⟩, ⟨some 52, .fa 1 (.tmp 51), some (37, true)⟩, ⟨some 53, .ld 3 1 false (.tmp 52), some (37, true)⟩, ⟨some 54, .bin 3 .neq (.tmp 43) (.tmp 53), some (37, true)⟩, ⟨some 55, .pick 37 (.tmp 54) (.const (.bool false)), none⟩]
def Xn34_52 : C := regL [6, 7] none [⟨some 6, .mv (.const (.int .i64 0)), none⟩, ⟨some 7, .mv (.const (.int .i64 16)), none⟩]
def Xn34_51 : C := .seq Xn34_52 .ret
def Xn34_50 : C := .cond (.tmp 55) Xn34_51 .skip
def Xn34_48 : C := .seq Xn34_49 Xn34_50
def Xn34_55 : C := regL [1, 3, 10, 28, 29, 30] none [⟨some 56, .fa 1 (.tmp 3), none⟩, ⟨some 57, .ld 22 1 false (.tmp 56), none⟩, ⟨some 58, .mv (.tmp 12), none⟩, ⟨some 59, .ia 12 (.tmp 57) (.tmp 58), none⟩, ⟨some 60, .ld 67 12 true (.tmp 59), none⟩, ⟨some 61, .mv (.tmp 10), none⟩, ⟨some 62, .call 93 [.tmp 60, .tmp 61], none⟩, ⟨some 10, .mv (.tmp 62), none⟩]
def Xn34_47 : C := seqL [1, 3, 10, 12, 28, 29, 30] Xn34_48 Xn34_55
def Xn34_45 : C := .seq Xn34_46 Xn34_47
def Xn34_44 : C := .block 1 Xn34_45
def Xn34_56 : C := regL [1, 3, 10, 28, 29, 30] none [⟨some 63, .bin 3 .add (.tmp 30) (.const (.int .i64 1)), none⟩, ⟨some 30, .mv (.tmp 63), none⟩]
def Xn34_43 : C := seqL [1, 3, 10, 28, 29, 30] Xn34_44 Xn34_56
def Xn34_39 : C := seqL [1, 3, 10, 28, 29, 30] Xn34_40 Xn34_43
def Xn34_37 : C := .seq Xn34_38 Xn34_39
def Xn34_36 : C := loopL [1, 3, 10, 28, 29, 30] Xn34_37
def Xn34_35 : C := .block 0 Xn34_36
def Xn34_33 : C := .seq Xn34_34 Xn34_35
def Xn34_58 : C := regL [6, 7] none [⟨some 64, .mv (.tmp 10), none⟩, ⟨some 6, .mv (.tmp 64), none⟩, ⟨some 7, .mv (.const (.int .i64 0)), none⟩]
def Xn34_57 : C := .seq Xn34_58 .ret
def Xn34_32 : C := seqL [10] Xn34_33 Xn34_57
def Xn34_30 : C := .seq Xn34_31 Xn34_32
def Xn34_22 : C := seqL [1, 2, 3] Xn34_23 Xn34_30
def Xn34_12 : C := seqL [1, 2, 3] Xn34_13 Xn34_22
def Xn34_2 : C := seqL [1, 2, 3] Xn34_3 Xn34_12
def Xn34_0 : C := .seq Xn34_1 Xn34_2
theorem Xt34 : Text Try.prog 34 Xn34_0 65 3 [.t 6, .t 7] := ⟨⟨Try.f34, [3], Try.func34, by kernel_rfl, by kernel_rfl, by kernel_rfl, by kernel_rfl⟩⟩
def Xn36_1 : C := regL [1, 2, 3, 4, 5, 6] none [⟨some 6, .box true 25 (.tmp 0), none⟩, ⟨some 12, .mv (.const (.slice none 0 0)), none⟩]
def Xn36_4 : C := regL [1, 2, 3, 4, 5, 6, 18] none [⟨some 16, .mv (.tmp 4), none⟩, ⟨some 17, .mv (.tmp 1), none⟩, ⟨some 18, .bin 3 .eql (.tmp 16) (.tmp 17), none⟩]
def Xn36_7 : C := regL [12] none [⟨some 19, .mv (.tmp 3), none⟩, ⟨some 20, .bls 27 1 1 (.slice none 0 0) [(0, 1, .tmp 19)], none⟩, ⟨some 12, .mv (.tmp 20), none⟩]
def Xn36_6 : C := .seq Xn36_7 .ret
def Xn36_5 : C := .cond (.tmp 18) Xn36_6 .skip
def Xn36_3 : C := .seq Xn36_4 Xn36_5
def Xn36_11 : C := regL [1, 2, 3, 4, 5, 6, 13] none [⟨some 13, .mv (.const (.slice none 0 0)), none⟩]
def Xn36_13 : C := regL [1, 2, 3, 4, 6, 13, 14] none [⟨some 21, .bls 4 1 0 (.bool false) [], none⟩, ⟨some 22, .mv (.tmp 5), none⟩, ⟨some 23, .app 4 1 1 (.tmp 21) (.tmp 22), none⟩, ⟨some 14, .mv (.tmp 23), none⟩]
def Xn36_15 : C := regL [1, 2, 3, 4, 6, 13, 14] none [⟨some 24, .mv (.tmp 14), none⟩, ⟨some 25, .mv (.tmp 4), none⟩, ⟨some 26, .ia 1 (.tmp 24) (.tmp 25), none⟩, ⟨none, .st 4 1 (.tmp 26) (.const (.bool true)), none⟩]
def Xn36_18 : C := regL [1, 2, 3, 4, 6, 13, 14, 15] none [⟨some 15, .mv (.const (.int .i64 0)), none⟩]
def Xn36_23 : C := regL [1, 2, 3, 4, 6, 13, 14, 15, 37] none [⟨some 27, .mv (.tmp 15), none⟩, ⟨some 28, .fa 1 (.tmp 6), none⟩, ⟨some 29, .ld 22 1 false (.tmp 28), none⟩, ⟨some 30, .len (.tmp 29), none⟩, ⟨some 31, .bin 3 .lss (.tmp 27) (.tmp 30), none⟩, ⟨some 32, .mv (.tmp 31), none⟩, ⟨some 33, .mv (.tmp 13), some (32, true)⟩, ⟨some 34, .len (.tmp 33), some (32, true)⟩, ⟨some 35, .mv (.tmp 2), some (32, true)⟩, ⟨some 36, .bin 3 .lss (.tmp 34) (.tmp 35), some (32, true)⟩, ⟨some 37, .pick 32 (.tmp 36) (.const (.bool false)), none⟩]
def Xn36_24 : C := .cond (.tmp 37) .skip (.exit 0)
def Xn36_22 : C := .seq Xn36_23 Xn36_24
def Xn36_30 : C := regL [1, 2, 3, 4, 6, 13, 14, 15, 59] none [⟨some 40, .fa 1 (.tmp 6), none⟩, ⟨some 41, .ld 22 1 false (.tmp 40), none⟩, ⟨some 42, .mv (.tmp 15), none⟩, ⟨some 43, .ia 12 (.tmp 41) (.tmp 42), none⟩, ⟨some 44, .fa 0 (.tmp 43), none⟩, ⟨some 45, .ld 3 1 false (.tmp 44), none⟩, ⟨some 46, .mv (.tmp 4), none⟩, ⟨some 47, .bin 3 .eql (.tmp 45) (.tmp 46), none⟩, ⟨some 48, .mv (.tmp 47), none⟩, ⟨some 49, .mv (.tmp 14), some (48, true)⟩, ⟨some 50, .fa 1 (.tmp 6), some (48, true)⟩, ⟨some 51, .ld 22 1 false (.tmp 50), some (48, true)⟩, ⟨some 52, .mv (.tmp 15), some (48, true)⟩, ⟨some 53, .ia 12 (.tmp 51) (.tmp 52), some (48, true)⟩, ⟨some 54, .fa 1 (.tmp 53), some (48, true)⟩, ⟨some 55, .ld 3 1 false (.tmp 54), some (48, true)⟩, ⟨some 56, .ia 1 (.tmp 49) (.tmp 55), some (48, true)⟩, ⟨some 57, .ld 4 1 false (.tmp 56), some (48, true)⟩, ⟨some 58, .un .not (.tmp 57), some (48, true)⟩, ⟨some 59, .pick 48 (.tmp 58) (.const (.bool false)), none⟩]
def Xn36_32 : C := regL [1, 2, 3, 4, 6, 13, 14, 15] (some [0, 0, 0, 0, 0, 16, 56, 0, 0, 384, 0, 1024, 3968, 0, 8192, 0, 57344, 122880, 253952, 0, 1048574, 2097151, 4194303]) [⟨some 60, .mv (.tmp 13), none⟩, ⟨some 61, .ld 25 3 true (.tmp 6), none⟩, ⟨some 62, .mv (.tmp 1), none⟩, ⟨some 63, .mv (.tmp 2), none⟩, ⟨some 64, .mv (.tmp 13), none⟩, ⟨some 65, .len (.tmp 64), none⟩, ⟨some 66, .bin 3 .sub (.tmp 63) (.tmp 65), none⟩, ⟨some 67, .bls 3 1 0 (.int .i64 0) [], none⟩, ⟨some 68, .mv (.tmp 3), none⟩, ⟨some 69, .app 3 1 8 (.tmp 67) (.tmp 68), none⟩, ⟨some 70, .mv (.tmp 15), none⟩, ⟨some 71, .bls 3 1 1 (.int .i64 0) [(0, 1, .tmp 70)], none⟩, ⟨some 72, .app 3 1 8 (.tmp 69) (.tmp 71), none⟩, ⟨some 73, .fa 1 (.tmp 6), none⟩, ⟨some 74, .ld 22 1 false (.tmp 73), none⟩, ⟨some 75, .mv (.tmp 15), none⟩, ⟨some 76, .ia 12 (.tmp 74) (.tmp 75), none⟩, ⟨some 77, .fa 1 (.tmp 76), none⟩, ⟨some 78, .ld 3 1 false (.tmp 77), none⟩, ⟨some 79, .mv (.tmp 14), none⟩, ⟨some 80, .call 36 [.tmp 61, .tmp 62, .tmp 66, .tmp 72, .tmp 78, .tmp 79], none⟩, ⟨some 81, .app 27 1 24 (.tmp 60) (.tmp 80), none⟩, ⟨some 13, .mv (.tmp 81), none⟩]
def Xn36_31 : C := .cond (.tmp 59) Xn36_32 .skip
def Xn36_29 : C := .seq Xn36_30 Xn36_31
def Xn36_28 : C := .block 1 Xn36_29
def Xn36_34 : C := regL [1, 2, 3, 4, 6, 13, 14, 15] none [⟨some 38, .mv (.tmp 15), none⟩, ⟨some 39, .bin 3 .add (.tmp 38) (.const (.int .i64 1)), none⟩, ⟨some 15, .mv (.tmp 39), none⟩]
def Xn36_27 : C := seqL [1, 2, 3, 4, 6, 13, 14, 15] Xn36_28 Xn36_34
def Xn36_21 : C := seqL [1, 2, 3, 4, 6, 13, 14, 15] Xn36_22 Xn36_27
def Xn36_20 : C := loopL [1, 2, 3, 4, 6, 13, 14, 15] Xn36_21
def Xn36_19 : C := .block 0 Xn36_20
def Xn36_17 : C := .seq Xn36_18 Xn36_19
def Xn36_36 : C := regL [12] none [⟨some 82, .mv (.tmp 13), none⟩, ⟨some 12, .mv (.tmp 82), none⟩]
def Xn36_35 : C := .seq Xn36_36 .ret
def Xn36_16 : C := seqL [13] Xn36_17 Xn36_35
def Xn36_14 : C := .seq Xn36_15 Xn36_16
def Xn36_12 : C := .seq Xn36_13 Xn36_14
def Xn36_10 : C := .seq Xn36_11 Xn36_12
def Xn36_2 : C := seqL [1, 2, 3, 4, 5, 6] Xn36_3 Xn36_10
def Xn36_0 : C := .seq Xn36_1 Xn36_2
theorem Xt36 : Text Try.prog 36 Xn36_0 83 6 [.t 12] := ⟨⟨Try.f36, [6], Try.func36, by kernel_rfl, by kernel_rfl, by kernel_rfl, by kernel_rfl⟩⟩
end Go.Proofs.Ytfbdlmenhoagmaa

namespace Go.Proofs.Ytfbdlmenhoagmaa
open Go Sy
set_option maxRecDepth 100000
def Xn45_1 : C := regL [2, 3, 4, 5, 6, 7] none [⟨some 6, .box true 25 (.tmp 0), none⟩, ⟨some 7, .box true 26 (.tmp 1), none⟩, ⟨some 12, .mv (.const (.slice none 0 0)), none⟩, ⟨some 13, .mv (.const (.int .i64 0)), none⟩, ⟨some 14, .mv (.const (.int .i64 0)), none⟩]
def Xn45_3 : C := regL [2, 3, 4, 5, 6, 15, 16] none [⟨some 25, .ld 25 3 true (.tmp 6), none⟩, ⟨some 26, .ld 26 6 true (.tmp 7), none⟩, ⟨some 27, .mv (.tmp 2), none⟩, ⟨some 28, .mv (.tmp 3), none⟩, ⟨some 29, .mv (.tmp 4), none⟩, ⟨some 30, .mv (.tmp 5), none⟩, ⟨some 31, .call 108 [.tmp 25, .tmp 26, .tmp 27, .tmp 28, .tmp 29, .tmp 30], none⟩, ⟨some 24, .mv (.tmp 31), none⟩, ⟨some 32, .ext 0 (.tmp 24), none⟩, ⟨some 33, .ext 1 (.tmp 24), none⟩, ⟨some 15, .alc 89 (.agg #[.int .i64 0, .slice none 0 0, .slice none 0 0, .int .i64 0, .int .i64 0, .int .i64 0, .int .i64 0, .int .i64 0, .int .i64 0]), none⟩, ⟨none, .st 89 9 (.tmp 15) (.tmp 32), none⟩, ⟨some 16, .mv (.tmp 33), none⟩]
def Xn45_6 : C := regL [2, 3, 4, 5, 6, 15, 16, 35] none [⟨some 34, .mv (.tmp 16), none⟩, ⟨some 35, .bin 34 .neq (.tmp 34) (.const (.int .i64 0)), none⟩]
def Xn45_9 : C := regL [12, 13, 14] none [⟨some 36, .mv (.tmp 16), none⟩, ⟨some 12, .mv (.const (.slice none 0 0)), none⟩, ⟨some 13, .mv (.const (.int .i64 0)), none⟩, ⟨some 14, .mv (.tmp 36), none⟩]
def Xn45_8 : C := .seq Xn45_9 .ret
def Xn45_7 : C := .cond (.tmp 35) Xn45_8 .skip
def Xn45_5 : C := .seq Xn45_6 Xn45_7
def Xn45_13 : C := regL [3, 4, 5, 6, 15, 17] none [⟨some 37, .mv (.tmp 2), none⟩, ⟨some 38, .call 76 [.tmp 37], none⟩, ⟨some 17, .mv (.tmp 38), none⟩]
def Xn45_15 : C := regL [3, 4, 5, 6, 15, 17, 18] none [⟨some 39, .fa 0 (.tmp 6), none⟩, ⟨some 40, .ld 3 1 false (.tmp 39), none⟩, ⟨some 41, .mks 4 1 1 (.bool false) (.tmp 40) (.tmp 40), none⟩, ⟨some 18, .mv (.tmp 41), none⟩]
def Xn45_17 : C := regL [3, 4, 5, 6, 15, 17, 18, 19] none [⟨some 42, .ld 89 9 true (.tmp 15), none⟩, ⟨some 43, .mv (.tmp 17), none⟩, ⟨some 44, .mv (.tmp 3), none⟩, ⟨some 45, .mv (.tmp 5), none⟩, ⟨some 46, .mv (.tmp 18), none⟩, ⟨some 47, .call 109 [.tmp 42, .tmp 43, .tmp 44, .tmp 45, .tmp 46], none⟩, ⟨some 48, .mv (.tmp 4), none⟩, ⟨some 49, .ia 1 (.tmp 47) (.tmp 48), none⟩, ⟨some 50, .ld 2 1 false (.tmp 49), none⟩, ⟨some 19, .mv (.tmp 50), none⟩]
def Xn45_20 : C := regL [3, 4, 5, 6, 15, 17, 18, 19, 52] none [⟨some 51, .mv (.tmp 19), none⟩, ⟨some 52, .bin 2 .lss (.tmp 51) (.const (.int .i64 0)), none⟩]
def Xn45_23 : C := regL [12, 13, 14] none [⟨some 12, .mv (.const (.slice none 0 0)), none⟩, ⟨some 13, .mv (.const (.int .i64 0)), none⟩, ⟨some 14, .mv (.const (.int .i64 15)), none⟩]
def Xn45_22 : C := .seq Xn45_23 .ret
def Xn45_21 : C := .cond (.tmp 52) Xn45_22 .skip
def Xn45_19 : C := .seq Xn45_20 Xn45_21
def Xn45_27 : C := regL [3, 4, 5, 6, 15, 17, 18, 19, 20] none [⟨some 20, .mv (.const (.slice none 0 0)), none⟩]
def Xn45_33 : C := regL [3, 4, 5, 6, 15, 17, 18, 19, 20, 55] none [⟨some 53, .mv (.tmp 3), none⟩, ⟨some 54, .mv (.tmp 4), none⟩, ⟨some 55, .bin 3 .neq (.tmp 53) (.tmp 54), none⟩]
def Xn45_34 : C := .cond (.tmp 55) .skip (.exit 0)
def Xn45_32 : C := .seq Xn45_33 Xn45_34
def Xn45_39 : C := regL [3, 4, 5, 6, 15, 17, 18, 19, 20] none [⟨some 56, .mv (.tmp 18), none⟩, ⟨some 57, .mv (.tmp 3), none⟩, ⟨some 58, .ia 1 (.tmp 56) (.tmp 57), none⟩, ⟨none, .st 4 1 (.tmp 58) (.const (.bool true)), none⟩]
def Xn45_41 : C := regL [3, 4, 5, 6, 15, 17, 18, 19, 20, 60, 61, 62] none [⟨some 59, .fa 1 (.tmp 6), none⟩, ⟨some 60, .ld 22 1 false (.tmp 59), none⟩, ⟨some 61, .len (.tmp 60), none⟩, ⟨some 62, .mv (.const (.int .i64 0)), none⟩]
def Xn45_45 : C := regL [3, 4, 5, 6, 15, 17, 18, 19, 20, 60, 61, 62, 63] none [⟨some 63, .bin 3 .lss (.tmp 62) (.tmp 61), none⟩]
def Xn45_47 : C := .cond (.tmp 63) .skip (.exit 2)
def Xn45_53 : C := regL [3, 4, 5, 6, 15, 17, 18, 19, 20, 21, 22, 60, 61, 62] none [⟨some 64, .mv (.tmp 62), none⟩, ⟨some 65, .ia 12 (.tmp 60) (.tmp 62), none⟩, ⟨some 66, .ld 67 12 true (.tmp 65), none⟩, ⟨some 22, .alc 67 (.agg #[.int .i64 0, .int .i64 0, .int .i64 0, .int .i64 0, .int .i64 0, .int .i64 0, .int .i64 0, .int .i64 0, .int .i64 0, .int .i64 0, .int .i64 0, .int .i64 0]), none⟩, ⟨some 21, .mv (.tmp 64), none⟩, ⟨none, .st 67 12 (.tmp 22) (.tmp 66), none⟩]
def Xn45_56 : C := regL [3, 4, 5, 6, 15, 17, 18, 19, 20, 21, 22, 60, 61, 62, 84] none [⟨some 67, .fa 0 (.tmp 22), none⟩, ⟨some 68, .ld 3 1 false (.tmp 67), none⟩, ⟨some 69, .mv (.tmp 3), none⟩, ⟨some 70, .bin 3 .neq (.tmp 68) (.tmp 69), none⟩, ⟨some 71, .mv (.tmp 70), none⟩, ⟨some 72, .mv (.tmp 18), some (71, false)⟩, ⟨some 73, .fa 1 (.tmp 22), some (71, false)⟩, ⟨some 74, .ld 3 1 false (.tmp 73), some (71, false)⟩, ⟨some 75, .ia 1 (.tmp 72) (.tmp 74), some (71, false)⟩, ⟨some 76, .ld 4 1 false (.tmp 75), some (71, false)⟩, ⟨some 77, .pick 71 (.const (.bool true)) (.tmp 76), none⟩, ⟨some 78, .mv (.tmp 77), none⟩, ⟨some 79, .ld 89 9 true (.tmp 15), some (78, false)⟩, ⟨some 80, .mv (.tmp 17), some (78, false)⟩, ⟨some 81, .mv (.tmp 21), some (78, false)⟩, ⟨some 82, .call 64 [.tmp 79, .tmp 80, .tmp 81], some (78, false)⟩, ⟨some 83, .un .not (.tmp 82), some (78, false)⟩, ⟨some 84, .pick 78 (.const (.bool true)) (.tmp 83), none⟩]
def Xn45_57 : C := .cond (.tmp 84) (.exit 3) .skip
def Xn45_55 : C := .seq Xn45_56 Xn45_57
def Xn45_61 : C := regL [3, 4, 5, 6, 15, 17, 18, 19, 20, 21, 22, 23, 60, 61, 62] none [⟨some 85, .ld 67 12 true (.tmp 22), none⟩, ⟨some 86, .mv (.tmp 5), none⟩, ⟨some 87, .call 93 [.tmp 85, .tmp 86], none⟩, ⟨some 23, .mv (.tmp 87), none⟩]
def Xn45_63 : C := regL [3, 4, 5, 6, 15, 17, 18, 19, 20, 21, 22, 23, 60, 61, 62, 99] none [⟨some 88, .ld 89 9 true (.tmp 15), none⟩, ⟨some 89, .mv (.tmp 17), none⟩, ⟨some 90, .fa 1 (.tmp 22), none⟩, ⟨some 91, .ld 3 1 false (.tmp 90), none⟩, ⟨some 92, .mv (.tmp 23), none⟩, ⟨some 93, .mv (.tmp 18), none⟩, ⟨some 94, .call 109 [.tmp 88, .tmp 89, .tmp 91, .tmp 92, .tmp 93], none⟩, ⟨some 95, .mv (.tmp 4), none⟩, ⟨some 96, .ia 1 (.tmp 94) (.tmp 95), none⟩, ⟨some 97, .ld 2 1 false (.tmp 96), none⟩, ⟨some 98, .mv (.tmp 19), none⟩, ⟨some 99, .bin 2 .eql (.tmp 97) (.tmp 98), none⟩]
def Xn45_66 : C := regL [4, 6, 15, 17, 18, 19, 20, 22, 23] none [⟨some 100, .mv (.tmp 20), none⟩, ⟨some 101, .mv (.tmp 21), none⟩, ⟨some 102, .bls 3 1 1 (.int .i64 0) [(0, 1, .tmp 101)], none⟩, ⟨some 103, .app 3 1 8 (.tmp 100) (.tmp 102), none⟩, ⟨some 20, .mv (.tmp 103), none⟩]
def Xn45_68 : C := regL [3, 4, 5, 6, 15, 17, 18, 19, 20] none [⟨some 104, .fa 1 (.tmp 22), none⟩, ⟨some 105, .ld 3 1 false (.tmp 104), none⟩, ⟨some 106, .mv (.tmp 23), none⟩, ⟨some 3, .mv (.tmp 105), none⟩, ⟨some 5, .mv (.tmp 106), none⟩]
def Xn45_67 : C := .seq Xn45_68 (.exit 2)
def Xn45_65 : C := .seq Xn45_66 Xn45_67
def Xn45_64 : C := .cond (.tmp 99) Xn45_65 .skip
def Xn45_62 : C := .seq Xn45_63 Xn45_64
def Xn45_60 : C := .seq Xn45_61 Xn45_62
def Xn45_54 : C := seqL [3, 4, 5, 6, 15, 17, 18, 19, 20, 21, 22, 60, 61, 62] Xn45_55 Xn45_60
def Xn45_52 : C := .seq Xn45_53 Xn45_54
def Xn45_51 : C := .block 3 Xn45_52
def Xn45_71 : C := regL [3, 4, 5, 6, 15, 17, 18, 19, 20, 60, 61, 62] none [⟨some 107, .bin 3 .add (.tmp 62) (.const (.int .i64 1)), none⟩, ⟨some 62, .mv (.tmp 107), none⟩]
def Xn45_50 : C := seqL [3, 4, 5, 6, 15, 17, 18, 19, 20, 60, 61, 62] Xn45_51 Xn45_71
def Xn45_46 : C := seqL [3, 4, 5, 6, 15, 17, 18, 19, 20, 60, 61, 62] Xn45_47 Xn45_50
def Xn45_44 : C := .seq Xn45_45 Xn45_46
def Xn45_43 : C := loopL [3, 4, 5, 6, 15, 17, 18, 19, 20, 60, 61, 62] Xn45_44
def Xn45_42 : C := .block 2 Xn45_43
def Xn45_40 : C := .seq Xn45_41 Xn45_42
def Xn45_38 : C := .seq Xn45_39 Xn45_40
def Xn45_37 : C := .block 1 Xn45_38
def Xn45_31 : C := seqL [3, 4, 5, 6, 15, 17, 18, 19, 20] Xn45_32 Xn45_37
def Xn45_30 : C := loopL [3, 4, 5, 6, 15, 17, 18, 19, 20] Xn45_31
def Xn45_29 : C := .block 0 Xn45_30
def Xn45_73 : C := regL [12, 13, 14] none [⟨some 108, .mv (.tmp 20), none⟩, ⟨some 109, .mv (.tmp 19), none⟩, ⟨some 12, .mv (.tmp 108), none⟩, ⟨some 13, .mv (.tmp 109), none⟩, ⟨some 14, .mv (.const (.int .i64 0)), none⟩]
def Xn45_72 : C := .seq Xn45_73 .ret
def Xn45_28 : C := seqL [19, 20] Xn45_29 Xn45_72
def Xn45_26 : C := .seq Xn45_27 Xn45_28
def Xn45_18 : C := seqL [3, 4, 5, 6, 15, 17, 18, 19] Xn45_19 Xn45_26
def Xn45_16 : C := .seq Xn45_17 Xn45_18
def Xn45_14 : C := .seq Xn45_15 Xn45_16
def Xn45_12 : C := .seq Xn45_13 Xn45_14
def Xn45_4 : C := seqL [2, 3, 4, 5, 6, 15] Xn45_5 Xn45_12
def Xn45_2 : C := .seq Xn45_3 Xn45_4
def Xn45_0 : C := .seq Xn45_1 Xn45_2
theorem Xt45 : Text Try.prog 45 Xn45_0 110 6 [.t 12, .t 13, .t 14] := ⟨⟨Try.f45, [6, 7], Try.func45, by kernel_rfl, by kernel_rfl, by kernel_rfl, by kernel_rfl⟩⟩
def Xn47_1 : C := regL [2, 3, 4, 5, 6] none [⟨some 5, .box true 25 (.tmp 0), none⟩, ⟨some 6, .box true 26 (.tmp 1), none⟩, ⟨some 10, .mv (.const (.slice none 0 0)), none⟩, ⟨some 11, .mv (.const (.int .i64 0)), none⟩]
def Xn47_3 : C := regL [2, 3, 4, 5, 12, 13] none [⟨some 15, .ld 25 3 true (.tmp 5), none⟩, ⟨some 16, .ld 26 6 true (.tmp 6), none⟩, ⟨some 17, .mv (.tmp 2), none⟩, ⟨some 18, .mv (.tmp 3), none⟩, ⟨some 19, .mv (.tmp 3), none⟩, ⟨some 20, .mv (.tmp 4), none⟩, ⟨some 21, .call 108 [.tmp 15, .tmp 16, .tmp 17, .tmp 18, .tmp 19, .tmp 20], none⟩, ⟨some 14, .mv (.tmp 21), none⟩, ⟨some 22, .ext 0 (.tmp 14), none⟩, ⟨some 23, .ext 1 (.tmp 14), none⟩, ⟨some 12, .alc 89 (.agg #[.int .i64 0, .slice none 0 0, .slice none 0 0, .int .i64 0, .int .i64 0, .int .i64 0, .int .i64 0, .int .i64 0, .int .i64 0]), none⟩, ⟨none, .st 89 9 (.tmp 12) (.tmp 22), none⟩, ⟨some 13, .mv (.tmp 23), none⟩]
def Xn47_6 : C := regL [2, 3, 4, 5, 12, 13, 25] none [⟨some 24, .mv (.tmp 13), none⟩, ⟨some 25, .bin 34 .neq (.tmp 24) (.const (.int .i64 0)), none⟩]
def Xn47_9 : C := regL [10, 11] none [⟨some 26, .mv (.tmp 13), none⟩, ⟨some 10, .mv (.const (.slice none 0 0)), none⟩, ⟨some 11, .mv (.tmp 26), none⟩]
def Xn47_8 : C := .seq Xn47_9 .ret
def Xn47_7 : C := .cond (.tmp 25) Xn47_8 .skip
def Xn47_5 : C := .seq Xn47_6 Xn47_7
def Xn47_13 : C := regL [10, 11] (some [0, 0, 2, 0, 0, 0, 32, 96, 255, 511, 1023]) [⟨some 27, .ld 89 9 true (.tmp 12), none⟩, ⟨some 28, .mv (.tmp 2), none⟩, ⟨some 29, .call 76 [.tmp 28], none⟩, ⟨some 30, .mv (.tmp 3), none⟩, ⟨some 31, .mv (.tmp 4), none⟩, ⟨some 32, .fa 0 (.tmp 5), none⟩, ⟨some 33, .ld 3 1 false (.tmp 32), none⟩, ⟨some 34, .mks 4 1 1 (.bool false) (.tmp 33) (.tmp 33), none⟩, ⟨some 35, .call 109 [.tmp 27, .tmp 29, .tmp 30, .tmp 31, .tmp 34], none⟩, ⟨some 10, .mv (.tmp 35), none⟩, ⟨some 11, .mv (.const (.int .i64 0)), none⟩]
def Xn47_12 : C := .seq Xn47_13 .ret
def Xn47_4 : C := seqL [2, 3, 4, 5, 12] Xn47_5 Xn47_12
def Xn47_2 : C := .seq Xn47_3 Xn47_4
def Xn47_0 : C := .seq Xn47_1 Xn47_2
theorem Xt47 : Text Try.prog 47 Xn47_0 36 5 [.t 10, .t 11] := ⟨⟨Try.f47, [5, 6], Try.func47, by kernel_rfl, by kernel_rfl, by kernel_rfl, by kernel_rfl⟩⟩
def Xn49_1 : C := regL [2, 3, 4, 5, 6, 7] none [⟨some 6, .box true 25 (.tmp 0), none⟩, ⟨some 7, .box true 26 (.tmp 1), none⟩, ⟨some 12, .mv (.const (.int .i64 0)), none⟩]
def Xn49_3 : C := regL [2, 3, 4, 5, 6, 13, 14] none [⟨some 19, .ld 25 3 true (.tmp 6), none⟩, ⟨some 20, .ld 26 6 true (.tmp 7), none⟩, ⟨some 21, .mv (.tmp 2), none⟩, ⟨some 22, .mv (.tmp 3), none⟩, ⟨some 23, .mv (.tmp 3), none⟩, ⟨some 24, .mv (.tmp 4), none⟩, ⟨some 25, .call 108 [.tmp 19, .tmp 20, .tmp 21, .tmp 22, .tmp 23, .tmp 24], none⟩, ⟨some 18, .mv (.tmp 25), none⟩, ⟨some 26, .ext 0 (.tmp 18), none⟩, ⟨some 27, .ext 1 (.tmp 18), none⟩, ⟨some 13, .alc 89 (.agg #[.int .i64 0, .slice none 0 0, .slice none 0 0, .int .i64 0, .int .i64 0, .int .i64 0, .int .i64 0, .int .i64 0, .int .i64 0]), none⟩, ⟨none, .st 89 9 (.tmp 13) (.tmp 26), none⟩, ⟨some 14, .mv (.tmp 27), none⟩]
def Xn49_6 : C := regL [2, 3, 4, 5, 6, 13, 14, 29] none [⟨some 28, .mv (.tmp 14), none⟩, ⟨some 29, .bin 34 .neq (.tmp 28) (.const (.int .i64 0)), none⟩]
def Xn49_9 : C := regL [12] none [⟨some 30, .mv (.tmp 14), none⟩, ⟨some 12, .mv (.tmp 30), none⟩]
def Xn49_8 : C := .seq Xn49_9 .ret
def Xn49_7 : C := .cond (.tmp 29) Xn49_8 .skip
def Xn49_5 : C := .seq Xn49_6 Xn49_7
def Xn49_14 : C := regL [2, 3, 4, 5, 6, 13, 35] none [⟨some 31, .mv (.tmp 5), none⟩, ⟨some 32, .len (.tmp 31), none⟩, ⟨some 33, .fa 0 (.tmp 6), none⟩, ⟨some 34, .ld 3 1 false (.tmp 33), none⟩, ⟨some 35, .bin 3 .neq (.tmp 32) (.tmp 34), none⟩]
def Xn49_17 : C := regL [12] none [⟨some 12, .mv (.const (.int .i64 17)), none⟩]
def Xn49_16 : C := .seq Xn49_17 .ret
def Xn49_15 : C := .cond (.tmp 35) Xn49_16 .skip
def Xn49_13 : C := .seq Xn49_14 Xn49_15
def Xn49_22 : C := regL [2, 3, 4, 5, 6, 13, 37] none [⟨some 36, .mv (.tmp 5), none⟩, ⟨some 37, .call 88 [.tmp 36, .func 112], none⟩]
def Xn49_25 : C := regL [12] none [⟨some 12, .mv (.const (.int .i64 3)), none⟩]
def Xn49_24 : C := .seq Xn49_25 .ret
def Xn49_23 : C := .cond (.tmp 37) Xn49_24 .skip
def Xn49_21 : C := .seq Xn49_22 Xn49_23
def Xn49_30 : C := regL [2, 5, 6, 13, 44] none [⟨some 38, .mv (.tmp 5), none⟩, ⟨some 39, .mv (.tmp 3), none⟩, ⟨some 40, .ia 1 (.tmp 38) (.tmp 39), none⟩, ⟨some 41, .ld 2 1 false (.tmp 40), none⟩, ⟨some 42, .mv (.tmp 4), none⟩, ⟨some 43, .call 85 [.tmp 41, .const (.int .i64 0), .tmp 42], none⟩, ⟨some 44, .un .not (.tmp 43), none⟩]
def Xn49_33 : C := regL [12] none [⟨some 12, .mv (.const (.int .i64 16)), none⟩]
def Xn49_32 : C := .seq Xn49_33 .ret
def Xn49_31 : C := .cond (.tmp 44) Xn49_32 .skip
def Xn49_29 : C := .seq Xn49_30 Xn49_31
def Xn49_38 : C := regL [2, 5, 13, 46, 47, 48] none [⟨some 45, .fa 1 (.tmp 6), none⟩, ⟨some 46, .ld 22 1 false (.tmp 45), none⟩, ⟨some 47, .len (.tmp 46), none⟩, ⟨some 48, .mv (.const (.int .i64 0)), none⟩]
def Xn49_42 : C := regL [2, 5, 13, 46, 47, 48, 49] none [⟨some 49, .bin 3 .lss (.tmp 48) (.tmp 47), none⟩]
def Xn49_44 : C := .cond (.tmp 49) .skip (.exit 0)
def Xn49_50 : C := regL [2, 5, 13, 15, 16, 46, 47, 48] none [⟨some 50, .mv (.tmp 48), none⟩, ⟨some 51, .ia 12 (.tmp 46) (.tmp 48), none⟩, ⟨some 52, .ld 67 12 true (.tmp 51), none⟩, ⟨some 16, .alc 67 (.agg #[.int .i64 0, .int .i64 0, .int .i64 0, .int .i64 0, .int .i64 0, .int .i64 0, .int .i64 0, .int .i64 0, .int .i64 0, .int .i64 0, .int .i64 0, .int .i64 0]), none⟩, ⟨some 15, .mv (.tmp 50), none⟩, ⟨none, .st 67 12 (.tmp 16) (.tmp 52), none⟩]
def Xn49_53 : C := regL [2, 5, 13, 16, 46, 47, 48, 66] (some [0, 0, 2, 7, 15, 31, 63, 127, 127, 383, 127, 2047, 4095, 8191]) [⟨some 53, .mv (.tmp 5), none⟩, ⟨some 54, .fa 0 (.tmp 16), none⟩, ⟨some 55, .ld 3 1 false (.tmp 54), none⟩, ⟨some 56, .ia 1 (.tmp 53) (.tmp 55), none⟩, ⟨some 57, .ld 2 1 false (.tmp 56), none⟩, ⟨some 58, .bin 2 .lss (.tmp 57) (.const (.int .i64 0)), none⟩, ⟨some 59, .mv (.tmp 58), none⟩, ⟨some 60, .ld 89 9 true (.tmp 13), some (59, false)⟩, ⟨some 61, .mv (.tmp 2), some (59, false)⟩, ⟨some 62, .call 76 [.tmp 61], some (59, false)⟩, ⟨some 63, .mv (.tmp 15), some (59, false)⟩, ⟨some 64, .call 64 [.tmp 60, .tmp 62, .tmp 63], some (59, false)⟩, ⟨some 65, .un .not (.tmp 64), some (59, false)⟩, ⟨some 66, .pick 59 (.const (.bool true)) (.tmp 65), none⟩]
def Xn49_54 : C := .cond (.tmp 66) (.exit 1) .skip
def Xn49_52 : C := .seq Xn49_53 Xn49_54
def Xn49_58 : C := regL [2, 5, 13, 16, 17, 46, 47, 48] none [⟨some 67, .mv (.tmp 5), none⟩, ⟨some 68, .fa 1 (.tmp 16), none⟩, ⟨some 69, .ld 3 1 false (.tmp 68), none⟩, ⟨some 70, .ia 1 (.tmp 67) (.tmp 69), none⟩, ⟨some 71, .ld 2 1 false (.tmp 70), none⟩, ⟨some 17, .mv (.tmp 71), none⟩]
def Xn49_60 : C := regL [2, 5, 13, 46, 47, 48, 84] (some [0, 1, 3, 7, 7, 7, 7, 71, 231, 487, 1015, 2047, 4095]) [⟨some 72, .mv (.tmp 17), none⟩, ⟨some 73, .bin 2 .lss (.tmp 72) (.const (.int .i64 0)), none⟩, ⟨some 74, .mv (.tmp 73), none⟩, ⟨some 75, .mv (.tmp 17), some (74, false)⟩, ⟨some 76, .ld 67 12 true (.tmp 16), some (74, false)⟩, ⟨some 77, .mv (.tmp 5), some (74, false)⟩, ⟨some 78, .fa 0 (.tmp 16), some (74, false)⟩, ⟨some 79, .ld 3 1 false (.tmp 78), some (74, false)⟩, ⟨some 80, .ia 1 (.tmp 77) (.tmp 79), some (74, false)⟩, ⟨some 81, .ld 2 1 false (.tmp 80), some (74, false)⟩, ⟨some 82, .call 93 [.tmp 76, .tmp 81], some (74, false)⟩, ⟨some 83, .bin 2 .gtr (.tmp 75) (.tmp 82), some (74, false)⟩, ⟨some 84, .pick 74 (.const (.bool true)) (.tmp 83), none⟩]
def Xn49_63 : C := regL [12] none [⟨some 12, .mv (.const (.int .i64 16)), none⟩]
def Xn49_62 : C := .seq Xn49_63 .ret
def Xn49_61 : C := .cond (.tmp 84) Xn49_62 .skip
def Xn49_59 : C := .seq Xn49_60 Xn49_61
def Xn49_57 : C := .seq Xn49_58 Xn49_59
def Xn49_51 : C := seqL [2, 5, 13, 16, 46, 47, 48] Xn49_52 Xn49_57
def Xn49_49 : C := .seq Xn49_50 Xn49_51
def Xn49_48 : C := .block 1 Xn49_49
def Xn49_66 : C := regL [2, 5, 13, 46, 47, 48] none [⟨some 85, .bin 3 .add (.tmp 48) (.const (.int .i64 1)), none⟩, ⟨some 48, .mv (.tmp 85), none⟩]
def Xn49_47 : C := seqL [2, 5, 13, 46, 47, 48] Xn49_48 Xn49_66
def Xn49_43 : C := seqL [2, 5, 13, 46, 47, 48] Xn49_44 Xn49_47
def Xn49_41 : C := .seq Xn49_42 Xn49_43
def Xn49_40 : C := loopL [2, 5, 13, 46, 47, 48] Xn49_41
def Xn49_39 : C := .block 0 Xn49_40
def Xn49_37 : C := .seq Xn49_38 Xn49_39
def Xn49_68 : C := regL [12] none [⟨some 12, .mv (.const (.int .i64 0)), none⟩]
def Xn49_67 : C := .seq Xn49_68 .ret
def Xn49_36 : C := seqL [] Xn49_37 Xn49_67
def Xn49_28 : C := seqL [2, 5, 6, 13] Xn49_29 Xn49_36
def Xn49_20 : C := seqL [2, 3, 4, 5, 6, 13] Xn49_21 Xn49_28
def Xn49_12 : C := seqL [2, 3, 4, 5, 6, 13] Xn49_13 Xn49_20
def Xn49_4 : C := seqL [2, 3, 4, 5, 6, 13] Xn49_5 Xn49_12
def Xn49_2 : C := .seq Xn49_3 Xn49_4
def Xn49_0 : C := .seq Xn49_1 Xn49_2
theorem Xt49 : Text Try.prog 49 Xn49_0 86 6 [.t 12] := ⟨⟨Try.f49, [6, 7], Try.func49, by kernel_rfl, by kernel_rfl, by kernel_rfl, by kernel_rfl⟩⟩
def Xn51_1 : C := regL [0] none [⟨some 0, .alc 25 (.agg #[.int .i64 0, .slice none 0 0, .slice none 0 0]), none⟩]
def Xn51_3 : C := regL [0, 1] none [⟨some 4, .bld (.agg #[.int .i64 0, .int .i64 0, .int .i64 0, .int .i64 0, .int .i64 0, .int .i64 0]) [(0, 1, .const (.int .i64 5000)), (1, 1, .const (.int .i64 5000)), (2, 1, .const (.int .i64 5000)), (3, 1, .const (.int .i64 5000)), (4, 1, .const (.int .i64 5000)), (5, 1, .const (.int .i64 5000))], none⟩, ⟨some 1, .alc 26 (.agg #[.int .i64 0, .int .i64 0, .int .i64 0, .int .i64 0, .int .i64 0, .int .i64 0]), none⟩, ⟨none, .st 26 6 (.tmp 1) (.tmp 4), none⟩]
def Xn51_5 : C := regL [0, 1, 2] none [⟨some 5, .bld (.agg #[.int .i64 0, .int .i64 0, .int .i64 0, .int .i64 0, .int .i64 0, .int .i64 0, .int .i64 0, .int .i64 0, .int .i64 0, .int .i64 0, .int .i64 0, .int .i64 0]) [(0, 1, .const (.int .i64 0)), (1, 1, .const (.int .i64 1)), (2, 1, .const (.int .i64 10))], none⟩, ⟨some 6, .bld (.agg #[.int .i64 0, .int .i64 0, .int .i64 0, .int .i64 0, .int .i64 0, .int .i64 0, .int .i64 0, .int .i64 0, .int .i64 0, .int .i64 0, .int .i64 0, .int .i64 0]) [(0, 1, .const (.int .i64 1)), (1, 1, .const (.int .i64 2)), (2, 1, .const (.int .i64 10))], none⟩, ⟨some 7, .bld (.agg #[.int .i64 0, .int .i64 0, .int .i64 0, .int .i64 0, .int .i64 0, .int .i64 0, .int .i64 0, .int .i64 0, .int .i64 0, .int .i64 0, .int .i64 0, .int .i64 0]) [(0, 1, .const (.int .i64 0)), (1, 1, .const (.int .i64 2)), (2, 1, .const (.int .i64 15))], none⟩, ⟨some 8, .bls 67 12 3 (.agg #[.int .i64 0, .int .i64 0, .int .i64 0, .int .i64 0, .int .i64 0, .int .i64 0, .int .i64 0, .int .i64 0, .int .i64 0, .int .i64 0, .int .i64 0, .int .i64 0]) [(0, 12, .tmp 5), (12, 12, .tmp 6), (24, 12, .tmp 7)], none⟩, ⟨some 9, .bld (.agg #[.int .i64 0, .slice none 0 0, .slice none 0 0]) [(0, 1, .const (.int .i64 3)), (1, 1, .tmp 8)], none⟩, ⟨some 2, .alc 25 (.agg #[.int .i64 0, .slice none 0 0, .slice none 0 0]), none⟩, ⟨none, .st 25 3 (.tmp 2) (.tmp 9), none⟩]
def Xn51_8 : C := regL [0, 1, 2, 3] none [⟨some 3, .mv (.const (.int .i64 0)), none⟩]
def Xn51_13 : C := regL [0, 1, 2, 3, 11] none [⟨some 10, .mv (.tmp 3), none⟩, ⟨some 11, .bin 3 .lss (.tmp 10) (.const (.int .i64 3)), none⟩]
def Xn51_14 : C := .cond (.tmp 11) .skip (.exit 0)
def Xn51_12 : C := .seq Xn51_13 Xn51_14
def Xn51_19 : C := regL [0, 1, 2, 3] (some [0, 1, 0, 0, 8, 0, 0, 64, 0, 0, 512, 0, 0, 7, 8199, 24583, 57407, 122943, 254015, 516607, 1040895, 2089471, 4194303, 8388607, 16777215]) [⟨some 14, .fa 1 (.tmp 2), none⟩, ⟨some 15, .ld 22 1 false (.tmp 14), none⟩, ⟨some 16, .mv (.tmp 3), none⟩, ⟨some 17, .fa 1 (.tmp 2), none⟩, ⟨some 18, .ld 22 1 false (.tmp 17), none⟩, ⟨some 19, .mv (.tmp 3), none⟩, ⟨some 20, .fa 1 (.tmp 2), none⟩, ⟨some 21, .ld 22 1 false (.tmp 20), none⟩, ⟨some 22, .mv (.tmp 3), none⟩, ⟨some 23, .fa 1 (.tmp 2), none⟩, ⟨some 24, .ld 22 1 false (.tmp 23), none⟩, ⟨some 25, .mv (.tmp 3), none⟩, ⟨some 26, .ld 26 6 true (.tmp 1), none⟩, ⟨some 27, .ia 12 (.tmp 15) (.tmp 16), none⟩, ⟨some 28, .fa 3 (.tmp 27), none⟩, ⟨none, .st 2 1 (.tmp 28) (.const (.int .i64 60)), none⟩, ⟨some 29, .ia 12 (.tmp 18) (.tmp 19), none⟩, ⟨some 30, .fa 4 (.tmp 29), none⟩, ⟨none, .st 2 1 (.tmp 30) (.const (.int .i64 480)), none⟩, ⟨some 31, .ia 12 (.tmp 21) (.tmp 22), none⟩, ⟨some 32, .fa 5 (.tmp 31), none⟩, ⟨none, .st 2 1 (.tmp 32) (.const (.int .i64 600)), none⟩, ⟨some 33, .ia 12 (.tmp 24) (.tmp 25), none⟩, ⟨some 34, .fa 6 (.tmp 33), none⟩, ⟨none, .st 26 6 (.tmp 34) (.tmp 26), none⟩]
def Xn51_18 : C := .block 1 Xn51_19
def Xn51_20 : C := regL [0, 1, 2, 3] none [⟨some 12, .mv (.tmp 3), none⟩, ⟨some 13, .bin 3 .add (.tmp 12) (.const (.int .i64 1)), none⟩, ⟨some 3, .mv (.tmp 13), none⟩]
def Xn51_17 : C := seqL [0, 1, 2, 3] Xn51_18 Xn51_20
def Xn51_11 : C := seqL [0, 1, 2, 3] Xn51_12 Xn51_17
def Xn51_10 : C := loopL [0, 1, 2, 3] Xn51_11
def Xn51_9 : C := .block 0 Xn51_10
def Xn51_7 : C := .seq Xn51_8 Xn51_9
def Xn51_22 : C := regL [0, 2] (some [0, 1, 0, 4, 3, 19, 51, 115, 12, 268, 1023, 2047]) [⟨some 35, .fa 1 (.tmp 2), none⟩, ⟨some 36, .ld 22 1 false (.tmp 35), none⟩, ⟨some 37, .fa 1 (.tmp 2), none⟩, ⟨some 38, .ld 22 1 false (.tmp 37), none⟩, ⟨some 39, .ia 12 (.tmp 36) (.const (.int .i64 1)), none⟩, ⟨some 40, .fa 6 (.tmp 39), none⟩, ⟨some 41, .iaa 6 1 (.tmp 40) (.const (.int .i64 1)), none⟩, ⟨none, .st 2 1 (.tmp 41) (.const (.int .i64 3000)), none⟩, ⟨some 42, .ia 12 (.tmp 38) (.const (.int .i64 2)), none⟩, ⟨some 43, .fa 6 (.tmp 42), none⟩, ⟨some 44, .iaa 6 1 (.tmp 43) (.const (.int .i64 1)), none⟩, ⟨none, .st 2 1 (.tmp 44) (.const (.int .i64 2000)), none⟩]
def Xn51_24 : C := regL [0, 2] none [⟨some 45, .bls 3 1 1 (.int .i64 0) [(0, 1, .const (.int .i64 1))], none⟩, ⟨some 46, .bld (.agg #[.slice none 0 0, .int .i64 0, .int .i64 0, .int .i64 0]) [(0, 1, .tmp 45), (1, 1, .const (.int .i64 1)), (2, 1, .const (.int .i64 4000)), (3, 1, .const (.int .i64 4))], none⟩, ⟨some 47, .bls 3 1 1 (.int .i64 0) [(0, 1, .const (.int .i64 2))], none⟩, ⟨some 48, .bld (.agg #[.slice none 0 0, .int .i64 0, .int .i64 0, .int .i64 0]) [(0, 1, .tmp 47), (1, 1, .const (.int .i64 1)), (2, 1, .const (.int .i64 4000)), (3, 1, .const (.int .i64 12))], none⟩, ⟨some 49, .bls 29 4 2 (.agg #[.slice none 0 0, .int .i64 0, .int .i64 0, .int .i64 0]) [(0, 4, .tmp 46), (4, 4, .tmp 48)], none⟩, ⟨some 50, .fa 2 (.tmp 2), none⟩, ⟨none, .st 23 1 (.tmp 50) (.tmp 49), none⟩]
def Xn51_26 : C := regL [0] none [⟨some 51, .ld 25 3 true (.tmp 2), none⟩, ⟨none, .st 25 3 (.tmp 0) (.tmp 51), none⟩]
def Xn51_25 : C := .seq Xn51_26 .ret
def Xn51_23 : C := .seq Xn51_24 Xn51_25
def Xn51_21 : C := .seq Xn51_22 Xn51_23
def Xn51_6 : C := seqL [0, 2] Xn51_7 Xn51_21
def Xn51_4 : C := .seq Xn51_5 Xn51_6
def Xn51_2 : C := .seq Xn51_3 Xn51_4
def Xn51_0 : C := .seq Xn51_1 Xn51_2
theorem Xt51 : Text Try.prog 51 Xn51_0 52 0 [.c 0 3 true] := ⟨⟨Try.f51, [], Try.func51, by kernel_rfl, by kernel_rfl, by kernel_rfl, by kernel_rfl⟩⟩
def Xn52_1 : C := regL [2, 3, 4] none [⟨some 2, .box true 25 (.tmp 0), none⟩, ⟨some 3, .box true 26 (.tmp 1), none⟩, ⟨some 4, .alc 89 (.agg #[.int .i64 0, .slice none 0 0, .slice none 0 0, .int .i64 0, .int .i64 0, .int .i64 0, .int .i64 0, .int .i64 0, .int .i64 0]), none⟩, ⟨some 5, .mv (.const (.int .i64 0)), none⟩]
def Xn52_4 : C := regL [2, 3, 4, 6] none [⟨some 7, .ld 25 3 true (.tmp 2), none⟩, ⟨some 8, .call 27 [.tmp 7], none⟩, ⟨some 6, .mv (.tmp 8), none⟩]
def Xn52_6 : C := regL [2, 3, 4, 6, 10] none [⟨some 9, .mv (.tmp 6), none⟩, ⟨some 10, .bin 34 .neq (.tmp 9) (.const (.int .i64 0)), none⟩]
def Xn52_9 : C := regL [4, 5] none [⟨some 11, .bld (.agg #[.int .i64 0, .slice none 0 0, .slice none 0 0, .int .i64 0, .int .i64 0, .int .i64 0, .int .i64 0, .int .i64 0, .int .i64 0]) [], none⟩, ⟨some 12, .mv (.tmp 6), none⟩, ⟨none, .st 89 9 (.tmp 4) (.tmp 11), none⟩, ⟨some 5, .mv (.tmp 12), none⟩]
def Xn52_8 : C := .seq Xn52_9 .ret
def Xn52_7 : C := .cond (.tmp 10) Xn52_8 .skip
def Xn52_5 : C := .seq Xn52_6 Xn52_7
def Xn52_3 : C := .seq Xn52_4 Xn52_5
def Xn52_13 : C := regL [4, 5] (some [0, 0, 3, 0, 8, 31, 63]) [⟨some 13, .ld 25 3 true (.tmp 2), none⟩, ⟨some 14, .ld 26 6 true (.tmp 3), none⟩, ⟨some 15, .bld (.agg #[.int .i64 0, .slice none 0 0, .slice none 0 0, .int .i64 0, .int .i64 0, .int .i64 0, .int .i64 0, .int .i64 0, .int .i64 0]) [(0, 3, .tmp 13), (3, 6, .tmp 14)], none⟩, ⟨some 16, .ld 26 6 true (.tmp 3), none⟩, ⟨some 17, .call 28 [.tmp 16], none⟩, ⟨none, .st 89 9 (.tmp 4) (.tmp 15), none⟩, ⟨some 5, .mv (.tmp 17), none⟩]
def Xn52_12 : C := .seq Xn52_13 .ret
def Xn52_2 : C := seqL [2, 3, 4] Xn52_3 Xn52_12
def Xn52_0 : C := .seq Xn52_1 Xn52_2
theorem Xt52 : Text Try.prog 52 Xn52_0 18 2 [.c 4 9 true, .t 5] := ⟨⟨Try.f52, [2, 3], Try.func52, by kernel_rfl, by kernel_rfl, by kernel_rfl, by kernel_rfl⟩⟩
def Xn53_1 : C := regL [1, 2] none [⟨some 2, .box true 25 (.tmp 0), none⟩, ⟨some 4, .mv (.const (.int .i64 0)), none⟩]
def Xn53_4 : C := regL [7] none [⟨some 5, .mv (.tmp 1), none⟩, ⟨some 6, .mkf 113 [] [.tmp 2], none⟩, ⟨some 7, .call 70 [.tmp 5, .tmp 6], none⟩]
def Xn53_7 : C := regL [4] none [⟨some 4, .mv (.const (.int .i64 3)), none⟩]
def Xn53_6 : C := .seq Xn53_7 .ret
def Xn53_5 : C := .cond (.tmp 7) Xn53_6 .skip
def Xn53_3 : C := .seq Xn53_4 Xn53_5
def Xn53_11 : C := regL [4] none [⟨some 4, .mv (.const (.int .i64 0)), none⟩]
def Xn53_10 : C := .seq Xn53_11 .ret
def Xn53_2 : C := seqL [] Xn53_3 Xn53_10
def Xn53_0 : C := .seq Xn53_1 Xn53_2
theorem Xt53 : Text Try.prog 53 Xn53_0 8 2 [.t 4] := ⟨⟨Try.f53, [2], Try.func53, by kernel_rfl, by kernel_rfl, by kernel_rfl, by kernel_rfl⟩⟩
def Xn54_1 : C := regL [0, 3, 4, 5, 6] none [⟨some 3, .box true 104 (.tmp 1), none⟩, ⟨some 4, .alc 94 (.int .u64 0), none⟩, ⟨some 5, .alc 2 (.int .i64 0), none⟩, ⟨some 6, .alc 4 (.bool false), none⟩]
def Xn54_4 : C := regL [3, 4, 5, 6, 10] none [⟨some 10, .mv (.tmp 0), none⟩]
def Xn54_7 : C := regL [3, 4, 5, 6, 7] none [⟨some 7, .mv (.tmp 11), none⟩]
def Xn54_10 : C := regL [4, 5, 6, 7, 8, 9] none [⟨some 13, .ld 104 1 false (.tmp 3), none⟩, ⟨some 14, .mv (.tmp 7), none⟩, ⟨some 15, .callv (.tmp 13) [.tmp 14], none⟩, ⟨some 12, .mv (.tmp 15), none⟩, ⟨some 16, .ext 0 (.tmp 12), none⟩, ⟨some 17, .ext 1 (.tmp 12), none⟩, ⟨some 8, .mv (.tmp 16), none⟩, ⟨some 9, .mv (.tmp 17), none⟩]
def Xn54_12 : C := regL [4, 5, 6, 7, 8, 27] none [⟨some 18, .mv (.tmp 9), none⟩, ⟨some 19, .mv (.tmp 18), none⟩, ⟨some 20, .ld 4 1 false (.tmp 6), some (19, true)⟩, ⟨some 21, .un .not (.tmp 20), some (19, true)⟩, ⟨some 22, .mv (.tmp 21), some (19, true)⟩, ⟨some 23, .mv (.tmp 8), some (22, false)⟩, ⟨some 24, .ld 2 1 false (.tmp 5), some (22, false)⟩, ⟨some 25, .bin 2 .lss (.tmp 23) (.tmp 24), some (22, false)⟩, ⟨some 26, .pick 22 (.const (.bool true)) (.tmp 25), some (19, true)⟩, ⟨some 27, .pick 19 (.tmp 26) (.const (.bool false)), none⟩]
def Xn54_14 : C := regL [] none [⟨some 28, .mv (.tmp 7), none⟩, ⟨some 29, .mv (.tmp 8), none⟩, ⟨none, .st 94 1 (.tmp 4) (.tmp 28), none⟩, ⟨none, .st 2 1 (.tmp 5) (.tmp 29), none⟩, ⟨none, .st 4 1 (.tmp 6) (.const (.bool true)), none⟩]
def Xn54_13 : C := .cond (.tmp 27) Xn54_14 .skip
def Xn54_11 : C := .seq Xn54_12 Xn54_13
def Xn54_9 : C := .seq Xn54_10 Xn54_11
def Xn54_8 : C := .block 1 Xn54_9
def Xn54_6 : C := .rfn (.tmp 10) [11] Xn54_7 Xn54_8
def Xn54_5 : C := .block 0 Xn54_6
def Xn54_3 : C := .seq Xn54_4 Xn54_5
def Xn54_17 : C := regL [4, 5, 6] (some [0, 0, 0, 1, 11, 31]) [⟨some 30, .ld 94 1 false (.tmp 4), none⟩, ⟨some 31, .ld 2 1 false (.tmp 5), none⟩, ⟨some 32, .ld 4 1 false (.tmp 6), none⟩, ⟨none, .st 94 1 (.tmp 4) (.tmp 30), none⟩, ⟨none, .st 2 1 (.tmp 5) (.tmp 31), none⟩, ⟨none, .st 4 1 (.tmp 6) (.tmp 32), none⟩]
def Xn54_16 : C := .seq Xn54_17 .ret
def Xn54_2 : C := seqL [4, 5, 6] Xn54_3 Xn54_16
def Xn54_0 : C := .seq Xn54_1 Xn54_2
theorem Xt54 : Text Try.prog 54 Xn54_0 33 2 [.c 4 1 false, .c 5 1 false, .c 6 1 false] := ⟨⟨Try.f54, [3], Try.func54, by kernel_rfl, by kernel_rfl, by kernel_rfl, by kernel_rfl⟩⟩
def Xn55_1 : C := regL [1] none [⟨some 1, .box true 3 (.tmp 0), none⟩, ⟨some 2, .mv (.const (.nilFunc)), none⟩]
def Xn55_3 : C := regL [2] none [⟨some 3, .mkf 114 [] [.tmp 1], none⟩, ⟨some 2, .mv (.tmp 3), none⟩]
def Xn55_2 : C := .seq Xn55_3 .ret
def Xn55_0 : C := .seq Xn55_1 Xn55_2
theorem Xt55 : Text Try.prog 55 Xn55_0 4 1 [.t 2] := ⟨⟨Try.f55, [1], Try.func55, by kernel_rfl, by kernel_rfl, by kernel_rfl, by kernel_rfl⟩⟩
def Xn56_1 : C := regL [0, 1, 2, 3] none [⟨some 5, .mv (.const (.int .i64 0)), none⟩, ⟨some 6, .mv (.const (.bool false)), none⟩]
def Xn56_3 : C := regL [0, 1, 7] (some [0, 0, 0, 0, 12, 31, 0, 127, 255, 511]) [⟨some 8, .ld 89 9 true (.tmp 1), none⟩, ⟨some 9, .ld 3 1 false (.tmp 2), none⟩, ⟨some 10, .ld 89 9 true (.tmp 1), none⟩, ⟨some 11, .mv (.tmp 0), none⟩, ⟨some 12, .call 58 [.tmp 10, .tmp 11], none⟩, ⟨some 13, .call 57 [.tmp 8, .tmp 9, .const (.bool true), .tmp 12], none⟩, ⟨some 14, .ld 3 1 false (.tmp 3), none⟩, ⟨some 15, .ia 1 (.tmp 13) (.tmp 14), none⟩, ⟨some 16, .ld 2 1 false (.tmp 15), none⟩, ⟨some 7, .mv (.tmp 16), none⟩]
def Xn56_5 : C := regL [5, 6] none [⟨some 17, .mv (.tmp 7), none⟩, ⟨some 18, .ld 89 9 true (.tmp 1), none⟩, ⟨some 19, .mv (.tmp 0), none⟩, ⟨some 20, .call 59 [.tmp 18, .tmp 19], none⟩, ⟨some 21, .bin 2 .add (.tmp 17) (.tmp 20), none⟩, ⟨some 22, .mv (.tmp 7), none⟩, ⟨some 23, .bin 2 .lss (.tmp 22) (.const (.int .i64 1125899906842624)), none⟩, ⟨some 5, .mv (.tmp 21), none⟩, ⟨some 6, .mv (.tmp 23), none⟩]
def Xn56_4 : C := .seq Xn56_5 .ret
def Xn56_2 : C := .seq Xn56_3 Xn56_4
def Xn56_0 : C := .seq Xn56_1 Xn56_2
theorem Xt56 : Text Try.prog 56 Xn56_0 24 4 [.t 5, .t 6] := ⟨⟨Try.f56, [], Try.func56, by kernel_rfl, by kernel_rfl, by kernel_rfl, by kernel_rfl⟩⟩
def Xn57_1 : C := regL [1, 2, 3, 4] none [⟨some 4, .box true 89 (.tmp 0), none⟩, ⟨some 8, .mv (.const (.slice none 0 0)), none⟩]
def Xn57_3 : C := regL [1, 2, 3, 4, 9] none [⟨some 19, .fa 0 (.tmp 4), none⟩, ⟨some 20, .fa 0 (.tmp 19), none⟩, ⟨some 21, .ld 3 1 false (.tmp 20), none⟩, ⟨some 22, .mks 2 1 8 (.int .i64 0) (.tmp 21) (.tmp 21), none⟩, ⟨some 9, .mv (.tmp 22), none⟩]
def Xn57_6 : C := regL [1, 2, 3, 4, 9, 24, 25] none [⟨some 23, .mv (.tmp 9), none⟩, ⟨some 24, .len (.tmp 23), none⟩, ⟨some 25, .mv (.const (.int .i64 0)), none⟩]
def Xn57_10 : C := regL [1, 2, 3, 4, 9, 24, 25, 26] none [⟨some 26, .bin 3 .lss (.tmp 25) (.tmp 24), none⟩]
def Xn57_12 : C := .cond (.tmp 26) .skip (.exit 0)
def Xn57_18 : C := regL [1, 2, 3, 4, 9, 10, 24, 25] none [⟨some 27, .mv (.tmp 25), none⟩, ⟨some 10, .mv (.tmp 27), none⟩]
def Xn57_19 : C := regL [1, 2, 3, 4, 9, 24, 25] none [⟨some 28, .mv (.tmp 9), none⟩, ⟨some 29, .mv (.tmp 10), none⟩, ⟨some 30, .ia 1 (.tmp 28) (.tmp 29), none⟩, ⟨none, .st 2 1 (.tmp 30) (.const (.int .i64 1125899906842624)), none⟩]
def Xn57_17 : C := .seq Xn57_18 Xn57_19
def Xn57_16 : C := .block 1 Xn57_17
def Xn57_20 : C := regL [1, 2, 3, 4, 9, 24, 25] none [⟨some 31, .bin 3 .add (.tmp 25) (.const (.int .i64 1)), none⟩, ⟨some 25, .mv (.tmp 31), none⟩]
def Xn57_15 : C := seqL [1, 2, 3, 4, 9, 24, 25] Xn57_16 Xn57_20
def Xn57_11 : C := seqL [1, 2, 3, 4, 9, 24, 25] Xn57_12 Xn57_15
def Xn57_9 : C := .seq Xn57_10 Xn57_11
def Xn57_8 : C := loopL [1, 2, 3, 4, 9, 24, 25] Xn57_9
def Xn57_7 : C := .block 0 Xn57_8
def Xn57_5 : C := .seq Xn57_6 Xn57_7
def Xn57_22 : C := regL [2, 3, 4, 9] none [⟨some 32, .mv (.tmp 9), none⟩, ⟨some 33, .mv (.tmp 1), none⟩, ⟨some 34, .ia 1 (.tmp 32) (.tmp 33), none⟩, ⟨none, .st 2 1 (.tmp 34) (.const (.int .i64 0)), none⟩]
def Xn57_24 : C := regL [2, 3, 4, 9, 11] none [⟨some 35, .fa 0 (.tmp 4), none⟩, ⟨some 36, .fa 1 (.tmp 35), none⟩, ⟨some 37, .ld 22 1 false (.tmp 36), none⟩, ⟨some 38, .len (.tmp 37), none⟩, ⟨some 39, .mks 2 1 8 (.int .i64 0) (.tmp 38) (.tmp 38), none⟩, ⟨some 11, .mv (.tmp 39), none⟩]
def Xn57_27 : C := regL [2, 3, 4, 9, 11, 41, 42] none [⟨some 40, .mv (.tmp 11), none⟩, ⟨some 41, .len (.tmp 40), none⟩, ⟨some 42, .mv (.const (.int .i64 0)), none⟩]
def Xn57_31 : C := regL [2, 3, 4, 9, 11, 41, 42, 43] none [⟨some 43, .bin 3 .lss (.tmp 42) (.tmp 41), none⟩]
def Xn57_33 : C := .cond (.tmp 43) .skip (.exit 2)
def Xn57_39 : C := regL [2, 3, 4, 9, 11, 12, 41, 42] none [⟨some 44, .mv (.tmp 42), none⟩, ⟨some 12, .mv (.tmp 44), none⟩]
def Xn57_40 : C := regL [2, 3, 4, 9, 11, 41, 42] none [⟨some 45, .mv (.tmp 11), none⟩, ⟨some 46, .mv (.tmp 12), none⟩, ⟨some 47, .mv (.tmp 3), none⟩, ⟨some 48, .mv (.tmp 12), none⟩, ⟨some 49, .callv (.tmp 47) [.tmp 48], none⟩, ⟨some 50, .ia 1 (.tmp 45) (.tmp 46), none⟩, ⟨none, .st 2 1 (.tmp 50) (.tmp 49), none⟩]
def Xn57_38 : C := .seq Xn57_39 Xn57_40
def Xn57_37 : C := .block 3 Xn57_38
def Xn57_41 : C := regL [2, 3, 4, 9, 11, 41, 42] none [⟨some 51, .bin 3 .add (.tmp 42) (.const (.int .i64 1)), none⟩, ⟨some 42, .mv (.tmp 51), none⟩]
def Xn57_36 : C := seqL [2, 3, 4, 9, 11, 41, 42] Xn57_37 Xn57_41
def Xn57_32 : C := seqL [2, 3, 4, 9, 11, 41, 42] Xn57_33 Xn57_36
def Xn57_30 : C := .seq Xn57_31 Xn57_32
def Xn57_29 : C := loopL [2, 3, 4, 9, 11, 41, 42] Xn57_30
def Xn57_28 : C := .block 2 Xn57_29
def Xn57_26 : C := .seq Xn57_27 Xn57_28
def Xn57_44 : C := regL [2, 4, 9, 11, 13] none [⟨some 13, .mv (.const (.bool true)), none⟩]
def Xn57_49 : C := regL [2, 4, 9, 11, 52] none [⟨some 52, .mv (.tmp 13), none⟩]
def Xn57_50 : C := .cond (.tmp 52) .skip (.exit 4)
def Xn57_48 : C := .seq Xn57_49 Xn57_50
def Xn57_56 : C := regL [2, 4, 9, 11, 13] none [⟨some 13, .mv (.const (.bool false)), none⟩]
def Xn57_60 : C := regL [2, 4, 9, 11, 13, 55, 56, 57] none [⟨some 53, .fa 0 (.tmp 4), none⟩, ⟨some 54, .fa 1 (.tmp 53), none⟩, ⟨some 55, .ld 22 1 false (.tmp 54), none⟩, ⟨some 56, .len (.tmp 55), none⟩, ⟨some 57, .mv (.const (.int .i64 0)), none⟩]
def Xn57_64 : C := regL [2, 4, 9, 11, 13, 55, 56, 57, 58] none [⟨some 58, .bin 3 .lss (.tmp 57) (.tmp 56), none⟩]
def Xn57_66 : C := .cond (.tmp 58) .skip (.exit 6)
def Xn57_72 : C := regL [2, 4, 9, 11, 13, 14, 15, 55, 56, 57] none [⟨some 59, .mv (.tmp 57), none⟩, ⟨some 60, .ia 12 (.tmp 55) (.tmp 57), none⟩, ⟨some 61, .ld 67 12 true (.tmp 60), none⟩, ⟨some 15, .alc 67 (.agg #[.int .i64 0, .int .i64 0, .int .i64 0, .int .i64 0, .int .i64 0, .int .i64 0, .int .i64 0, .int .i64 0, .int .i64 0, .int .i64 0, .int .i64 0, .int .i64 0]), none⟩, ⟨some 14, .mv (.tmp 59), none⟩, ⟨none, .st 67 12 (.tmp 15) (.tmp 61), none⟩]
def Xn57_75 : C := regL [2, 4, 9, 11, 13, 14, 15, 55, 56, 57, 66] none [⟨some 62, .mv (.tmp 11), none⟩, ⟨some 63, .mv (.tmp 14), none⟩, ⟨some 64, .ia 1 (.tmp 62) (.tmp 63), none⟩, ⟨some 65, .ld 2 1 false (.tmp 64), none⟩, ⟨some 66, .bin 2 .lss (.tmp 65) (.const (.int .i64 0)), none⟩]
def Xn57_76 : C := .cond (.tmp 66) (.exit 7) .skip
def Xn57_74 : C := .seq Xn57_75 Xn57_76
def Xn57_80 : C := regL [2, 4, 9, 11, 13, 14, 16, 17, 55, 56, 57] (some [0, 1, 0, 4, 3, 31]) [⟨some 67, .fa 0 (.tmp 15), none⟩, ⟨some 68, .ld 3 1 false (.tmp 67), none⟩, ⟨some 69, .fa 1 (.tmp 15), none⟩, ⟨some 70, .ld 3 1 false (.tmp 69), none⟩, ⟨some 16, .mv (.tmp 68), none⟩, ⟨some 17, .mv (.tmp 70), none⟩]
def Xn57_83 : C := regL [2, 4, 9, 11, 13, 14, 16, 17, 55, 56, 57, 71] none [⟨some 71, .mv (.tmp 2), none⟩]
def Xn57_85 : C := regL [2, 4, 9, 11, 13, 14, 16, 17, 55, 56, 57] none [⟨some 72, .mv (.tmp 17), none⟩, ⟨some 73, .mv (.tmp 16), none⟩, ⟨some 16, .mv (.tmp 72), none⟩, ⟨some 17, .mv (.tmp 73), none⟩]
def Xn57_84 : C := .cond (.tmp 71) Xn57_85 .skip
def Xn57_82 : C := .seq Xn57_83 Xn57_84
def Xn57_88 : C := regL [2, 4, 9, 11, 13, 16, 17, 18, 55, 56, 57] (some [0, 0, 3, 7, 0, 0, 48, 112, 255, 511]) [⟨some 74, .mv (.tmp 9), none⟩, ⟨some 75, .mv (.tmp 16), none⟩, ⟨some 76, .ia 1 (.tmp 74) (.tmp 75), none⟩, ⟨some 77, .ld 2 1 false (.tmp 76), none⟩, ⟨some 78, .mv (.tmp 11), none⟩, ⟨some 79, .mv (.tmp 14), none⟩, ⟨some 80, .ia 1 (.tmp 78) (.tmp 79), none⟩, ⟨some 81, .ld 2 1 false (.tmp 80), none⟩, ⟨some 82, .bin 2 .add (.tmp 77) (.tmp 81), none⟩, ⟨some 18, .mv (.tmp 82), none⟩]
def Xn57_90 : C := regL [2, 4, 9, 11, 13, 17, 18, 55, 56, 57, 95] none [⟨some 83, .mv (.tmp 9), none⟩, ⟨some 84, .mv (.tmp 16), none⟩, ⟨some 85, .ia 1 (.tmp 83) (.tmp 84), none⟩, ⟨some 86, .ld 2 1 false (.tmp 85), none⟩, ⟨some 87, .bin 2 .lss (.tmp 86) (.const (.int .i64 1125899906842624)), none⟩, ⟨some 88, .mv (.tmp 87), none⟩, ⟨some 89, .mv (.tmp 18), some (88, true)⟩, ⟨some 90, .mv (.tmp 9), some (88, true)⟩, ⟨some 91, .mv (.tmp 17), some (88, true)⟩, ⟨some 92, .ia 1 (.tmp 90) (.tmp 91), some (88, true)⟩, ⟨some 93, .ld 2 1 false (.tmp 92), some (88, true)⟩, ⟨some 94, .bin 2 .lss (.tmp 89) (.tmp 93), some (88, true)⟩, ⟨some 95, .pick 88 (.tmp 94) (.const (.bool false)), none⟩]
def Xn57_92 : C := regL [2, 4, 9, 11, 13, 55, 56, 57] none [⟨some 96, .mv (.tmp 9), none⟩, ⟨some 97, .mv (.tmp 17), none⟩, ⟨some 98, .mv (.tmp 18), none⟩, ⟨some 99, .ia 1 (.tmp 96) (.tmp 97), none⟩, ⟨none, .st 2 1 (.tmp 99) (.tmp 98), none⟩, ⟨some 13, .mv (.const (.bool true)), none⟩]
def Xn57_91 : C := .cond (.tmp 95) Xn57_92 .skip
def Xn57_89 : C := .seq Xn57_90 Xn57_91
def Xn57_87 : C := .seq Xn57_88 Xn57_89
def Xn57_81 : C := seqL [2, 4, 9, 11, 13, 14, 16, 17, 55, 56, 57] Xn57_82 Xn57_87
def Xn57_79 : C := .seq Xn57_80 Xn57_81
def Xn57_73 : C := seqL [2, 4, 9, 11, 13, 14, 15, 55, 56, 57] Xn57_74 Xn57_79
def Xn57_71 : C := .seq Xn57_72 Xn57_73
def Xn57_70 : C := .block 7 Xn57_71
def Xn57_94 : C := regL [2, 4, 9, 11, 13, 55, 56, 57] none [⟨some 100, .bin 3 .add (.tmp 57) (.const (.int .i64 1)), none⟩, ⟨some 57, .mv (.tmp 100), none⟩]
def Xn57_69 : C := seqL [2, 4, 9, 11, 13, 55, 56, 57] Xn57_70 Xn57_94
def Xn57_65 : C := seqL [2, 4, 9, 11, 13, 55, 56, 57] Xn57_66 Xn57_69
def Xn57_63 : C := .seq Xn57_64 Xn57_65
def Xn57_62 : C := loopL [2, 4, 9, 11, 13, 55, 56, 57] Xn57_63
def Xn57_61 : C := .block 6 Xn57_62
def Xn57_59 : C := .seq Xn57_60 Xn57_61
def Xn57_57 : C := seqL [2, 4, 9, 11, 13] .skip Xn57_59
def Xn57_55 : C := .seq Xn57_56 Xn57_57
def Xn57_54 : C := .scp Xn57_55
def Xn57_53 : C := .block 5 Xn57_54
def Xn57_47 : C := seqL [2, 4, 9, 11] Xn57_48 Xn57_53
def Xn57_46 : C := loopL [2, 4, 9, 11, 13] Xn57_47
def Xn57_45 : C := .block 4 Xn57_46
def Xn57_43 : C := .seq Xn57_44 Xn57_45
def Xn57_96 : C := regL [8] none [⟨some 101, .mv (.tmp 9), none⟩, ⟨some 8, .mv (.tmp 101), none⟩]
def Xn57_95 : C := .seq Xn57_96 .ret
def Xn57_42 : C := seqL [9] Xn57_43 Xn57_95
def Xn57_25 : C := seqL [2, 4, 9, 11] Xn57_26 Xn57_42
def Xn57_23 : C := .seq Xn57_24 Xn57_25
def Xn57_21 : C := .seq Xn57_22 Xn57_23
def Xn57_4 : C := seqL [1, 2, 3, 4, 9] Xn57_5 Xn57_21
def Xn57_2 : C := .seq Xn57_3 Xn57_4
def Xn57_0 : C := .seq Xn57_1 Xn57_2
theorem Xt57 : Text Try.prog 57 Xn57_0 102 4 [.t 8] := ⟨⟨Try.f57, [4], Try.func57, by kernel_rfl, by kernel_rfl, by kernel_rfl, by kernel_rfl⟩⟩
def Xn58_1 : C := regL [2, 3] none [⟨some 2, .box true 89 (.tmp 0), none⟩, ⟨some 3, .box true 94 (.tmp 1), none⟩, ⟨some 4, .mv (.const (.nilFunc)), none⟩]
def Xn58_3 : C := regL [4] none [⟨some 5, .mkf 116 [] [.tmp 2, .tmp 3], none⟩, ⟨some 4, .mv (.tmp 5), none⟩]
def Xn58_2 : C := .seq Xn58_3 .ret
def Xn58_0 : C := .seq Xn58_1 Xn58_2
theorem Xt58 : Text Try.prog 58 Xn58_0 6 2 [.t 4] := ⟨⟨Try.f58, [2, 3], Try.func58, by kernel_rfl, by kernel_rfl, by kernel_rfl, by kernel_rfl⟩⟩
def Xn59_1 : C := regL [1, 2] none [⟨some 2, .box true 89 (.tmp 0), none⟩, ⟨some 4, .mv (.const (.int .i64 0)), none⟩]
def Xn59_3 : C := regL [1, 2, 5] none [⟨some 5, .alc 2 (.int .i64 0), none⟩, ⟨none, .st 2 1 (.tmp 5) (.const (.int .i64 0)), none⟩]
def Xn59_6 : C := regL [2, 5, 8] none [⟨some 7, .mv (.tmp 1), none⟩, ⟨some 8, .call 61 [.tmp 7], none⟩]
def Xn59_9 : C := regL [2, 5, 6] none [⟨some 6, .mv (.tmp 9), none⟩]
def Xn59_11 : C := regL [] (some [0, 0, 2, 6, 0, 30, 62, 126, 255, 511]) [⟨some 10, .ld 2 1 false (.tmp 5), none⟩, ⟨some 11, .fa 0 (.tmp 2), none⟩, ⟨some 12, .fa 2 (.tmp 11), none⟩, ⟨some 13, .ld 23 1 false (.tmp 12), none⟩, ⟨some 14, .mv (.tmp 6), none⟩, ⟨some 15, .ia 4 (.tmp 13) (.tmp 14), none⟩, ⟨some 16, .fa 3 (.tmp 15), none⟩, ⟨some 17, .ld 2 1 false (.tmp 16), none⟩, ⟨some 18, .bin 2 .add (.tmp 10) (.tmp 17), none⟩, ⟨none, .st 2 1 (.tmp 5) (.tmp 18), none⟩]
def Xn59_10 : C := .block 1 Xn59_11
def Xn59_8 : C := .rfn (.tmp 8) [9] Xn59_9 Xn59_10
def Xn59_7 : C := .block 0 Xn59_8
def Xn59_5 : C := .seq Xn59_6 Xn59_7
def Xn59_13 : C := regL [4] none [⟨some 19, .ld 2 1 false (.tmp 5), none⟩, ⟨some 4, .mv (.tmp 19), none⟩]
def Xn59_12 : C := .seq Xn59_13 .ret
def Xn59_4 : C := seqL [5] Xn59_5 Xn59_12
def Xn59_2 : C := .seq Xn59_3 Xn59_4
def Xn59_0 : C := .seq Xn59_1 Xn59_2
theorem Xt59 : Text Try.prog 59 Xn59_0 20 2 [.t 4] := ⟨⟨Try.f59, [2], Try.func59, by kernel_rfl, by kernel_rfl, by kernel_rfl, by kernel_rfl⟩⟩
def Xn60_1 : C := regL [0] none [⟨some 2, .mv (.const (.slice none 0 0)), none⟩]
def Xn60_3 : C := regL [2] none [⟨some 3, .mv (.tmp 0), none⟩, ⟨some 4, .call 117 [.const (.slice none 0 0), .tmp 3], none⟩, ⟨some 2, .mv (.tmp 4), none⟩]
def Xn60_2 : C := .seq Xn60_3 .ret
def Xn60_0 : C := .seq Xn60_1 Xn60_2
theorem Xt60 : Text Try.prog 60 Xn60_0 5 1 [.t 2] := ⟨⟨Try.f60, [], Try.func60, by kernel_rfl, by kernel_rfl, by kernel_rfl, by kernel_rfl⟩⟩
def Xn61_1 : C := regL [1] none [⟨some 1, .box true 94 (.tmp 0), none⟩, ⟨some 2, .mv (.const (.nilFunc)), none⟩]
def Xn61_3 : C := regL [2] none [⟨some 3, .mkf 118 [] [.tmp 1], none⟩, ⟨some 2, .mv (.tmp 3), none⟩]
def Xn61_2 : C := .seq Xn61_3 .ret
def Xn61_0 : C := .seq Xn61_1 Xn61_2
theorem Xt61 : Text Try.prog 61 Xn61_0 4 1 [.t 2] := ⟨⟨Try.f61, [1], Try.func61, by kernel_rfl, by kernel_rfl, by kernel_rfl, by kernel_rfl⟩⟩
def Xn62_1 : C := regL [0, 1] none [⟨some 4, .mv (.const (.int .i64 0)), none⟩]
def Xn62_4 : C := regL [0, 1, 7, 8] none [⟨some 6, .mv (.tmp 0), none⟩, ⟨some 7, .len (.tmp 6), none⟩, ⟨some 8, .mv (.const (.int .i64 0)), none⟩]
def Xn62_8 : C := regL [0, 1, 7, 8, 9] none [⟨some 9, .bin 3 .lss (.tmp 8) (.tmp 7), none⟩]
def Xn62_10 : C := .cond (.tmp 9) .skip (.exit 0)
def Xn62_16 : C := regL [0, 1, 5, 7, 8] none [⟨some 10, .mv (.tmp 8), none⟩, ⟨some 5, .mv (.tmp 10), none⟩]
def Xn62_18 : C := regL [0, 1, 5, 7, 8, 16] none [⟨some 11, .mv (.tmp 1), none⟩, ⟨some 12, .mv (.tmp 0), none⟩, ⟨some 13, .mv (.tmp 5), none⟩, ⟨some 14, .ia 12 (.tmp 12) (.tmp 13), none⟩, ⟨some 15, .ld 67 12 true (.tmp 14), none⟩, ⟨some 16, .callv (.tmp 11) [.tmp 15], none⟩]
def Xn62_21 : C := regL [4] none [⟨some 17, .mv (.tmp 5), none⟩, ⟨some 4, .mv (.tmp 17), none⟩]
def Xn62_20 : C := .seq Xn62_21 .ret
def Xn62_19 : C := .cond (.tmp 16) Xn62_20 .skip
def Xn62_17 : C := .seq Xn62_18 Xn62_19
def Xn62_15 : C := .seq Xn62_16 Xn62_17
def Xn62_14 : C := .block 1 Xn62_15
def Xn62_24 : C := regL [0, 1, 7, 8] none [⟨some 18, .bin 3 .add (.tmp 8) (.const (.int .i64 1)), none⟩, ⟨some 8, .mv (.tmp 18), none⟩]
def Xn62_13 : C := seqL [0, 1, 7, 8] Xn62_14 Xn62_24
def Xn62_9 : C := seqL [0, 1, 7, 8] Xn62_10 Xn62_13
def Xn62_7 : C := .seq Xn62_8 Xn62_9
def Xn62_6 : C := loopL [0, 1, 7, 8] Xn62_7
def Xn62_5 : C := .block 0 Xn62_6
def Xn62_3 : C := .seq Xn62_4 Xn62_5
def Xn62_26 : C := regL [4] none [⟨some 4, .mv (.const (.int .i64 (-1))), none⟩]
def Xn62_25 : C := .seq Xn62_26 .ret
def Xn62_2 : C := seqL [] Xn62_3 Xn62_25
def Xn62_0 : C := .seq Xn62_1 Xn62_2
theorem Xt62 : Text Try.prog 62 Xn62_0 19 2 [.t 4] := ⟨⟨Try.f62, [], Try.func62, by kernel_rfl, by kernel_rfl, by kernel_rfl, by kernel_rfl⟩⟩
def Xn63_1 : C := regL [1, 2, 3] none [⟨some 3, .box true 67 (.tmp 0), none⟩, ⟨some 4, .mv (.const (.bool false)), none⟩]
def Xn63_3 : C := regL [4] (some [0, 1, 0, 7, 15, 31, 31, 127, 255, 31, 543, 31, 31, 4127, 14367, 30751, 65055, 131071, 262143, 524287]) [⟨some 5, .fa 0 (.tmp 3), none⟩, ⟨some 6, .ld 3 1 false (.tmp 5), none⟩, ⟨some 7, .ld 3 1 false (.tmp 1), none⟩, ⟨some 8, .bin 3 .eql (.tmp 6) (.tmp 7), none⟩, ⟨some 9, .mv (.tmp 8), none⟩, ⟨some 10, .ld 69 1 false (.tmp 2), some (9, true)⟩, ⟨some 11, .ld 3 1 false (.tmp 1), some (9, true)⟩, ⟨some 12, .ia 1 (.tmp 10) (.tmp 11), some (9, true)⟩, ⟨some 13, .ld 2 1 false (.tmp 12), some (9, true)⟩, ⟨some 14, .fa 2 (.tmp 3), some (9, true)⟩, ⟨some 15, .ld 2 1 false (.tmp 14), some (9, true)⟩, ⟨some 16, .ld 69 1 false (.tmp 2), some (9, true)⟩, ⟨some 17, .fa 1 (.tmp 3), some (9, true)⟩, ⟨some 18, .ld 3 1 false (.tmp 17), some (9, true)⟩, ⟨some 19, .ia 1 (.tmp 16) (.tmp 18), some (9, true)⟩, ⟨some 20, .ld 2 1 false (.tmp 19), some (9, true)⟩, ⟨some 21, .bin 2 .add (.tmp 15) (.tmp 20), some (9, true)⟩, ⟨some 22, .bin 2 .eql (.tmp 13) (.tmp 21), some (9, true)⟩, ⟨some 23, .pick 9 (.tmp 22) (.const (.bool false)), none⟩, ⟨some 4, .mv (.tmp 23), none⟩]
def Xn63_2 : C := .seq Xn63_3 .ret
def Xn63_0 : C := .seq Xn63_1 Xn63_2
theorem Xt63 : Text Try.prog 63 Xn63_0 24 3 [.t 4] := ⟨⟨Try.f63, [3], Try.func63, by kernel_rfl, by kernel_rfl, by kernel_rfl, by kernel_rfl⟩⟩
def Xn64_1 : C := regL [1, 2, 3, 6] none [⟨some 3, .box true 89 (.tmp 0), none⟩, ⟨some 6, .alc 4 (.bool false), none⟩]
def Xn64_4 : C := regL [6, 10] none [⟨some 7, .ld 89 9 true (.tmp 3), none⟩, ⟨some 8, .mv (.tmp 1), none⟩, ⟨some 9, .mv (.tmp 2), none⟩, ⟨some 10, .call 75 [.tmp 7, .tmp 8, .tmp 9], none⟩]
def Xn64_10 : C := regL [] none [⟨none, .st 4 1 (.tmp 6) (.const (.bool false)), none⟩]
def Xn64_9 : C := .seq Xn64_10 .ret
def Xn64_8 : C := .block 1 Xn64_9
def Xn64_6 : C := .rfn (.tmp 10) [11] .skip Xn64_8
def Xn64_5 : C := .block 0 Xn64_6
def Xn64_3 : C := .seq Xn64_4 Xn64_5
def Xn64_13 : C := regL [6] none [⟨none, .st 4 1 (.tmp 6) (.const (.bool true)), none⟩]
def Xn64_12 : C := .seq Xn64_13 .ret
def Xn64_2 : C := seqL [6] Xn64_3 Xn64_12
def Xn64_0 : C := .seq Xn64_1 Xn64_2
theorem Xt64 : Text Try.prog 64 Xn64_0 12 3 [.c 6 1 false] := ⟨⟨Try.f64, [3], Try.func64, by kernel_rfl, by kernel_rfl, by kernel_rfl, by kernel_rfl⟩⟩
def Xn65_1 : C := regL [1, 2, 3] none [⟨some 3, .box true 67 (.tmp 0), none⟩, ⟨some 4, .mv (.const (.bool false)), none⟩]
def Xn65_3 : C := regL [4] (some [0, 1, 0, 7, 15, 31, 31, 127, 255, 31, 543, 31, 31, 4127, 14367, 30751, 65055, 131071, 262143, 524287]) [⟨some 5, .fa 0 (.tmp 3), none⟩, ⟨some 6, .ld 3 1 false (.tmp 5), none⟩, ⟨some 7, .ld 3 1 false (.tmp 1), none⟩, ⟨some 8, .bin 3 .eql (.tmp 6) (.tmp 7), none⟩, ⟨some 9, .mv (.tmp 8), none⟩, ⟨some 10, .ld 69 1 false (.tmp 2), some (9, true)⟩, ⟨some 11, .ld 3 1 false (.tmp 1), some (9, true)⟩, ⟨some 12, .ia 1 (.tmp 10) (.tmp 11), some (9, true)⟩, ⟨some 13, .ld 2 1 false (.tmp 12), some (9, true)⟩, ⟨some 14, .fa 2 (.tmp 3), some (9, true)⟩, ⟨some 15, .ld 2 1 false (.tmp 14), some (9, true)⟩, ⟨some 16, .ld 69 1 false (.tmp 2), some (9, true)⟩, ⟨some 17, .fa 1 (.tmp 3), some (9, true)⟩, ⟨some 18, .ld 3 1 false (.tmp 17), some (9, true)⟩, ⟨some 19, .ia 1 (.tmp 16) (.tmp 18), some (9, true)⟩, ⟨some 20, .ld 2 1 false (.tmp 19), some (9, true)⟩, ⟨some 21, .bin 2 .add (.tmp 15) (.tmp 20), some (9, true)⟩, ⟨some 22, .bin 2 .eql (.tmp 13) (.tmp 21), some (9, true)⟩, ⟨some 23, .pick 9 (.tmp 22) (.const (.bool false)), none⟩, ⟨some 4, .mv (.tmp 23), none⟩]
def Xn65_2 : C := .seq Xn65_3 .ret
def Xn65_0 : C := .seq Xn65_1 Xn65_2
theorem Xt65 : Text Try.prog 65 Xn65_0 24 3 [.t 4] := ⟨⟨Try.f65, [3], Try.func65, by kernel_rfl, by kernel_rfl, by kernel_rfl, by kernel_rfl⟩⟩
def Xn66_1 : C := regL [0, 1, 2] none [⟨some 6, .mv (.const (.bool false)), none⟩]
def Xn66_3 : C := regL [6] none [⟨some 7, .mv (.tmp 0), none⟩, ⟨some 8, .mv (.tmp 1), none⟩, ⟨some 9, .bin 2 .geq (.tmp 7) (.tmp 8), none⟩, ⟨some 10, .mv (.tmp 9), none⟩, ⟨some 11, .mv (.tmp 0), some (10, true)⟩, ⟨some 12, .mv (.tmp 2), some (10, true)⟩, ⟨some 13, .bin 2 .leq (.tmp 11) (.tmp 12), some (10, true)⟩, ⟨some 14, .pick 10 (.tmp 13) (.const (.bool false)), none⟩, ⟨some 6, .mv (.tmp 14), none⟩]
def Xn66_2 : C := .seq Xn66_3 .ret
def Xn66_0 : C := .seq Xn66_1 Xn66_2
theorem Xt66 : Text Try.prog 66 Xn66_0 15 3 [.t 6] := ⟨⟨Try.f66, [], Try.func66, by kernel_rfl, by kernel_rfl, by kernel_rfl, by kernel_rfl⟩⟩
def Xn67_1 : C := regL [0, 1] none [⟨some 4, .mv (.const (.bool false)), none⟩]
def Xn67_4 : C := regL [0, 1, 5] none [⟨some 5, .mv (.const (.int .i64 0)), none⟩]
def Xn67_9 : C := regL [0, 1, 5, 9] none [⟨some 6, .mv (.tmp 5), none⟩, ⟨some 7, .mv (.tmp 0), none⟩, ⟨some 8, .len (.tmp 7), none⟩, ⟨some 9, .bin 3 .lss (.tmp 6) (.tmp 8), none⟩]
def Xn67_10 : C := .cond (.tmp 9) .skip (.exit 0)
def Xn67_8 : C := .seq Xn67_9 Xn67_10
def Xn67_16 : C := regL [0, 1, 5, 40] (some [0, 0, 3, 7, 15, 31, 63, 63, 255, 511, 63, 2047, 4095, 8191, 16383, 32767, 65535, 131071, 131071, 524287, 1048575, 131071, 131071, 4325375, 14811135, 31588351, 67108863, 134217727, 268435455]) [⟨some 12, .mv (.tmp 0), none⟩, ⟨some 13, .mv (.tmp 5), none⟩, ⟨some 14, .ia 1 (.tmp 12) (.tmp 13), none⟩, ⟨some 15, .ld 3 1 false (.tmp 14), none⟩, ⟨some 16, .bin 3 .lss (.tmp 15) (.const (.int .i64 0)), none⟩, ⟨some 17, .mv (.tmp 16), none⟩, ⟨some 18, .mv (.tmp 0), some (17, false)⟩, ⟨some 19, .mv (.tmp 5), some (17, false)⟩, ⟨some 20, .ia 1 (.tmp 18) (.tmp 19), some (17, false)⟩, ⟨some 21, .ld 3 1 false (.tmp 20), some (17, false)⟩, ⟨some 22, .mv (.tmp 1), some (17, false)⟩, ⟨some 23, .bin 3 .geq (.tmp 21) (.tmp 22), some (17, false)⟩, ⟨some 24, .pick 17 (.const (.bool true)) (.tmp 23), none⟩, ⟨some 25, .mv (.tmp 24), none⟩, ⟨some 26, .mv (.tmp 5), some (25, false)⟩, ⟨some 27, .bin 3 .gtr (.tmp 26) (.const (.int .i64 0)), some (25, false)⟩, ⟨some 28, .mv (.tmp 27), some (25, false)⟩, ⟨some 29, .mv (.tmp 0), some (28, true)⟩, ⟨some 30, .mv (.tmp 5), some (28, true)⟩, ⟨some 31, .ia 1 (.tmp 29) (.tmp 30), some (28, true)⟩, ⟨some 32, .ld 3 1 false (.tmp 31), some (28, true)⟩, ⟨some 33, .mv (.tmp 0), some (28, true)⟩, ⟨some 34, .mv (.tmp 5), some (28, true)⟩, ⟨some 35, .bin 3 .sub (.tmp 34) (.const (.int .i64 1)), some (28, true)⟩, ⟨some 36, .ia 1 (.tmp 33) (.tmp 35), some (28, true)⟩, ⟨some 37, .ld 3 1 false (.tmp 36), some (28, true)⟩, ⟨some 38, .bin 3 .leq (.tmp 32) (.tmp 37), some (28, true)⟩, ⟨some 39, .pick 28 (.tmp 38) (.const (.bool false)), some (25, false)⟩, ⟨some 40, .pick 25 (.const (.bool true)) (.tmp 39), none⟩]
def Xn67_19 : C := regL [4] none [⟨some 4, .mv (.const (.bool false)), none⟩]
def Xn67_18 : C := .seq Xn67_19 .ret
def Xn67_17 : C := .cond (.tmp 40) Xn67_18 .skip
def Xn67_15 : C := .seq Xn67_16 Xn67_17
def Xn67_14 : C := .block 1 Xn67_15
def Xn67_22 : C := regL [0, 1, 5] none [⟨some 10, .mv (.tmp 5), none⟩, ⟨some 11, .bin 3 .add (.tmp 10) (.const (.int .i64 1)), none⟩, ⟨some 5, .mv (.tmp 11), none⟩]
def Xn67_13 : C := seqL [0, 1, 5] Xn67_14 Xn67_22
def Xn67_7 : C := seqL [0, 1, 5] Xn67_8 Xn67_13
def Xn67_6 : C := loopL [0, 1, 5] Xn67_7
def Xn67_5 : C := .block 0 Xn67_6
def Xn67_3 : C := .seq Xn67_4 Xn67_5
def Xn67_24 : C := regL [4] none [⟨some 4, .mv (.const (.bool true)), none⟩]
def Xn67_23 : C := .seq Xn67_24 .ret
def Xn67_2 : C := seqL [] Xn67_3 Xn67_23
def Xn67_0 : C := .seq Xn67_1 Xn67_2
theorem Xt67 : Text Try.prog 67 Xn67_0 41 2 [.t 4] := ⟨⟨Try.f67, [], Try.func67, by kernel_rfl, by kernel_rfl, by kernel_rfl, by kernel_rfl⟩⟩
def Xn68_1 : C := regL [1, 2] none [⟨some 2, .box true 25 (.tmp 0), none⟩, ⟨some 4, .mv (.const (.int .i64 0)), none⟩]
def Xn68_4 : C := regL [1, 2, 7] none [⟨some 5, .mv (.tmp 1), none⟩, ⟨some 6, .len (.tmp 5), none⟩, ⟨some 7, .bin 3 .gtr (.tmp 6) (.const (.int .i64 256)), none⟩]
def Xn68_7 : C := regL [4] none [⟨some 4, .mv (.const (.int .i64 6)), none⟩]
def Xn68_6 : C := .seq Xn68_7 .ret
def Xn68_5 : C := .cond (.tmp 7) Xn68_6 .skip
def Xn68_3 : C := .seq Xn68_4 Xn68_5
def Xn68_12 : C := regL [10] none [⟨some 8, .mv (.tmp 1), none⟩, ⟨some 9, .mkf 119 [] [.tmp 2], none⟩, ⟨some 10, .call 70 [.tmp 8, .tmp 9], none⟩]
def Xn68_15 : C := regL [4] none [⟨some 4, .mv (.const (.int .i64 3)), none⟩]
def Xn68_14 : C := .seq Xn68_15 .ret
def Xn68_13 : C := .cond (.tmp 10) Xn68_14 .skip
def Xn68_11 : C := .seq Xn68_12 Xn68_13
def Xn68_19 : C := regL [4] none [⟨some 4, .mv (.const (.int .i64 0)), none⟩]
def Xn68_18 : C := .seq Xn68_19 .ret
def Xn68_10 : C := seqL [] Xn68_11 Xn68_18
def Xn68_2 : C := seqL [1, 2] Xn68_3 Xn68_10
def Xn68_0 : C := .seq Xn68_1 Xn68_2
theorem Xt68 : Text Try.prog 68 Xn68_0 11 2 [.t 4] := ⟨⟨Try.f68, [2], Try.func68, by kernel_rfl, by kernel_rfl, by kernel_rfl, by kernel_rfl⟩⟩
def Xn70_1 : C := regL [0, 1] none [⟨some 4, .mv (.const (.bool false)), none⟩]
def Xn70_3 : C := regL [4] none [⟨some 5, .mv (.tmp 0), none⟩, ⟨some 6, .mv (.tmp 1), none⟩, ⟨some 7, .call 120 [.tmp 5, .tmp 6], none⟩, ⟨some 8, .bin 3 .geq (.tmp 7) (.const (.int .i64 0)), none⟩, ⟨some 4, .mv (.tmp 8), none⟩]
def Xn70_2 : C := .seq Xn70_3 .ret
def Xn70_0 : C := .seq Xn70_1 Xn70_2
theorem Xt70 : Text Try.prog 70 Xn70_0 9 2 [.t 4] := ⟨⟨Try.f70, [], Try.func70, by kernel_rfl, by kernel_rfl, by kernel_rfl, by kernel_rfl⟩⟩
def Xn73_1 : C := regL [0, 1] none [⟨some 4, .mv (.const (.bool false)), none⟩]
def Xn73_3 : C := regL [0, 1, 5] none [⟨some 5, .mv (.const (.int .i64 (-1))), none⟩]
def Xn73_6 : C := regL [1, 5, 8, 9, 10] none [⟨some 8, .mv (.tmp 0), none⟩, ⟨some 9, .len (.tmp 8), none⟩, ⟨some 10, .mv (.const (.int .i64 0)), none⟩]
def Xn73_10 : C := regL [1, 5, 8, 9, 10, 11] none [⟨some 11, .bin 3 .lss (.tmp 10) (.tmp 9), none⟩]
def Xn73_12 : C := .cond (.tmp 11) .skip (.exit 0)
def Xn73_18 : C := regL [1, 5, 7, 8, 9, 10] none [⟨some 12, .ia 1 (.tmp 8) (.tmp 10), none⟩, ⟨some 13, .ld 3 1 false (.tmp 12), none⟩, ⟨some 7, .mv (.tmp 13), none⟩]
def Xn73_21 : C := regL [1, 7, 8, 9, 10, 21] none [⟨some 14, .mv (.tmp 7), none⟩, ⟨some 15, .mv (.tmp 5), none⟩, ⟨some 16, .bin 3 .leq (.tmp 14) (.tmp 15), none⟩, ⟨some 17, .mv (.tmp 16), none⟩, ⟨some 18, .mv (.tmp 7), some (17, false)⟩, ⟨some 19, .mv (.tmp 1), some (17, false)⟩, ⟨some 20, .bin 3 .geq (.tmp 18) (.tmp 19), some (17, false)⟩, ⟨some 21, .pick 17 (.const (.bool true)) (.tmp 20), none⟩]
def Xn73_24 : C := regL [4] none [⟨some 4, .mv (.const (.bool false)), none⟩]
def Xn73_23 : C := .seq Xn73_24 .ret
def Xn73_22 : C := .cond (.tmp 21) Xn73_23 .skip
def Xn73_20 : C := .seq Xn73_21 Xn73_22
def Xn73_27 : C := regL [1, 5, 8, 9, 10] none [⟨some 22, .mv (.tmp 7), none⟩, ⟨some 5, .mv (.tmp 22), none⟩]
def Xn73_19 : C := seqL [1, 7, 8, 9, 10] Xn73_20 Xn73_27
def Xn73_17 : C := .seq Xn73_18 Xn73_19
def Xn73_16 : C := .block 1 Xn73_17
def Xn73_28 : C := regL [1, 5, 8, 9, 10] none [⟨some 23, .bin 3 .add (.tmp 10) (.const (.int .i64 1)), none⟩, ⟨some 10, .mv (.tmp 23), none⟩]
def Xn73_15 : C := seqL [1, 5, 8, 9, 10] Xn73_16 Xn73_28
def Xn73_11 : C := seqL [1, 5, 8, 9, 10] Xn73_12 Xn73_15
def Xn73_9 : C := .seq Xn73_10 Xn73_11
def Xn73_8 : C := loopL [1, 5, 8, 9, 10] Xn73_9
def Xn73_7 : C := .block 0 Xn73_8
def Xn73_5 : C := .seq Xn73_6 Xn73_7
def Xn73_30 : C := regL [4] none [⟨some 4, .mv (.const (.bool true)), none⟩]
def Xn73_29 : C := .seq Xn73_30 .ret
def Xn73_4 : C := seqL [] Xn73_5 Xn73_29
def Xn73_2 : C := .seq Xn73_3 Xn73_4
def Xn73_0 : C := .seq Xn73_1 Xn73_2
theorem Xt73 : Text Try.prog 73 Xn73_0 24 2 [.t 4] := ⟨⟨Try.f73, [], Try.func73, by kernel_rfl, by kernel_rfl, by kernel_rfl, by kernel_rfl⟩⟩
def Xn74_1 : C := regL [1, 2] none [⟨some 2, .box false 44 (.tmp 0), none⟩, ⟨some 4, .mv (.const (.slice none 0 0)), none⟩]
def Xn74_4 : C := regL [2, 6] none [⟨some 6, .mv (.tmp 1), none⟩]
def Xn74_7 : C := regL [2, 5] none [⟨some 5, .alc 57 (.agg #[.int .i64 0, .int .i64 0, .int .i64 0, .int .i64 0]), none⟩, ⟨none, .st 57 4 (.tmp 5) (.tmp 7), none⟩]
def Xn74_9 : C := regL [] none [⟨some 8, .ld 44 1 false (.tmp 2), none⟩, ⟨some 9, .ld 57 4 true (.tmp 5), none⟩, ⟨some 10, .bls 57 4 1 (.agg #[.int .i64 0, .int .i64 0, .int .i64 0, .int .i64 0]) [(0, 4, .tmp 9)], none⟩, ⟨some 11, .app 57 4 32 (.tmp 8) (.tmp 10), none⟩, ⟨none, .st 44 1 (.tmp 2) (.tmp 11), none⟩]
def Xn74_8 : C := .block 1 Xn74_9
def Xn74_6 : C := .rfn (.tmp 6) [7] Xn74_7 Xn74_8
def Xn74_5 : C := .block 0 Xn74_6
def Xn74_3 : C := .seq Xn74_4 Xn74_5
def Xn74_11 : C := regL [4] none [⟨some 12, .ld 44 1 false (.tmp 2), none⟩, ⟨some 4, .mv (.tmp 12), none⟩]
def Xn74_10 : C := .seq Xn74_11 .ret
def Xn74_2 : C := seqL [2] Xn74_3 Xn74_10
def Xn74_0 : C := .seq Xn74_1 Xn74_2
theorem Xt74 : Text Try.prog 74 Xn74_0 13 2 [.t 4] := ⟨⟨Try.f74, [], Try.func74, by kernel_rfl, by kernel_rfl, by kernel_rfl, by kernel_rfl⟩⟩
def Xn75_1 : C := regL [3, 4, 5] none [⟨some 3, .box true 89 (.tmp 0), none⟩, ⟨some 4, .box true 94 (.tmp 1), none⟩, ⟨some 5, .box true 3 (.tmp 2), none⟩, ⟨some 6, .mv (.const (.nilFunc)), none⟩]
def Xn75_3 : C := regL [6] none [⟨some 7, .mkf 121 [] [.tmp 3, .tmp 4, .tmp 5], none⟩, ⟨some 6, .mv (.tmp 7), none⟩]
def Xn75_2 : C := .seq Xn75_3 .ret
def Xn75_0 : C := .seq Xn75_1 Xn75_2
theorem Xt75 : Text Try.prog 75 Xn75_0 8 3 [.t 6] := ⟨⟨Try.f75, [3, 4, 5], Try.func75, by kernel_rfl, by kernel_rfl, by kernel_rfl, by kernel_rfl⟩⟩
def Xn76_1 : C := regL [0] none [⟨some 2, .mv (.const (.int .u64 0)), none⟩]
def Xn76_3 : C := regL [0, 3] none [⟨some 3, .mv (.const (.int .u64 0)), none⟩]
def Xn76_6 : C := regL [3, 6, 7, 8] none [⟨some 6, .mv (.tmp 0), none⟩, ⟨some 7, .len (.tmp 6), none⟩, ⟨some 8, .mv (.const (.int .i64 0)), none⟩]
def Xn76_10 : C := regL [3, 6, 7, 8, 9] none [⟨some 9, .bin 3 .lss (.tmp 8) (.tmp 7), none⟩]
def Xn76_12 : C := .cond (.tmp 9) .skip (.exit 0)
def Xn76_18 : C := regL [3, 5, 6, 7, 8] none [⟨some 10, .ia 1 (.tmp 6) (.tmp 8), none⟩, ⟨some 11, .ld 3 1 false (.tmp 10), none⟩, ⟨some 5, .mv (.tmp 11), none⟩]
def Xn76_19 : C := regL [3, 6, 7, 8] none [⟨some 12, .mv (.tmp 3), none⟩, ⟨some 13, .mv (.tmp 5), none⟩, ⟨some 14, .bin 94 .shl (.const (.int .u64 1)) (.tmp 13), none⟩, ⟨some 15, .bin 94 .or (.tmp 12) (.tmp 14), none⟩, ⟨some 3, .mv (.tmp 15), none⟩]
def Xn76_17 : C := .seq Xn76_18 Xn76_19
def Xn76_16 : C := .block 1 Xn76_17
def Xn76_20 : C := regL [3, 6, 7, 8] none [⟨some 16, .bin 3 .add (.tmp 8) (.const (.int .i64 1)), none⟩, ⟨some 8, .mv (.tmp 16), none⟩]
def Xn76_15 : C := seqL [3, 6, 7, 8] Xn76_16 Xn76_20
def Xn76_11 : C := seqL [3, 6, 7, 8] Xn76_12 Xn76_15
def Xn76_9 : C := .seq Xn76_10 Xn76_11
def Xn76_8 : C := loopL [3, 6, 7, 8] Xn76_9
def Xn76_7 : C := .block 0 Xn76_8
def Xn76_5 : C := .seq Xn76_6 Xn76_7
def Xn76_22 : C := regL [2] none [⟨some 17, .mv (.tmp 3), none⟩, ⟨some 2, .mv (.tmp 17), none⟩]
def Xn76_21 : C := .seq Xn76_22 .ret
def Xn76_4 : C := seqL [3] Xn76_5 Xn76_21
def Xn76_2 : C := .seq Xn76_3 Xn76_4
def Xn76_0 : C := .seq Xn76_1 Xn76_2
theorem Xt76 : Text Try.prog 76 Xn76_0 18 1 [.t 2] := ⟨⟨Try.f76, [], Try.func76, by kernel_rfl, by kernel_rfl, by kernel_rfl, by kernel_rfl⟩⟩
def Xn81_1 : C := regL [0, 1] none [⟨some 4, .mv (.const (.bool false)), none⟩]
def Xn81_3 : C := regL [4] none [⟨some 5, .mv (.tmp 0), none⟩, ⟨some 6, .mv (.tmp 1), none⟩, ⟨some 7, .call 124 [.tmp 5, .tmp 6], none⟩, ⟨some 8, .bin 3 .geq (.tmp 7) (.const (.int .i64 0)), none⟩, ⟨some 4, .mv (.tmp 8), none⟩]
def Xn81_2 : C := .seq Xn81_3 .ret
def Xn81_0 : C := .seq Xn81_1 Xn81_2
theorem Xt81 : Text Try.prog 81 Xn81_0 9 2 [.t 4] := ⟨⟨Try.f81, [], Try.func81, by kernel_rfl, by kernel_rfl, by kernel_rfl, by kernel_rfl⟩⟩
def Xn82_1 : C := regL [1] none [⟨some 1, .box true 29 (.tmp 0), none⟩, ⟨some 2, .mv (.const (.bool false)), none⟩]
def Xn82_3 : C := regL [2] none [⟨some 3, .fa 0 (.tmp 1), none⟩, ⟨some 4, .ld 27 1 false (.tmp 3), none⟩, ⟨some 5, .len (.tmp 4), none⟩, ⟨some 6, .bin 3 .gtr (.tmp 5) (.const (.int .i64 16)), none⟩, ⟨some 2, .mv (.tmp 6), none⟩]
def Xn82_2 : C := .seq Xn82_3 .ret
def Xn82_0 : C := .seq Xn82_1 Xn82_2
theorem Xt82 : Text Try.prog 82 Xn82_0 7 1 [.t 2] := ⟨⟨Try.f82, [1], Try.func82, by kernel_rfl, by kernel_rfl, by kernel_rfl, by kernel_rfl⟩⟩
def Xn83_1 : C := regL [0, 1] none [⟨some 3, .mv (.const (.bool false)), none⟩]
def Xn83_3 : C := regL [3] none [⟨some 4, .mv (.tmp 0), none⟩, ⟨some 5, .bin 3 .geq (.tmp 4) (.const (.int .i64 0)), none⟩, ⟨some 6, .mv (.tmp 5), none⟩, ⟨some 7, .mv (.tmp 0), some (6, true)⟩, ⟨some 8, .fa 0 (.tmp 1), some (6, true)⟩, ⟨some 9, .ld 3 1 false (.tmp 8), some (6, true)⟩, ⟨some 10, .bin 3 .lss (.tmp 7) (.tmp 9), some (6, true)⟩, ⟨some 11, .pick 6 (.tmp 10) (.const (.bool false)), none⟩, ⟨some 3, .mv (.tmp 11), none⟩]
def Xn83_2 : C := .seq Xn83_3 .ret
def Xn83_0 : C := .seq Xn83_1 Xn83_2
theorem Xt83 : Text Try.prog 83 Xn83_0 12 2 [.t 3] := ⟨⟨Try.f83, [], Try.func83, by kernel_rfl, by kernel_rfl, by kernel_rfl, by kernel_rfl⟩⟩
def Xn84_1 : C := regL [1, 2] none [⟨some 2, .box true 67 (.tmp 0), none⟩, ⟨some 3, .mv (.const (.bool false)), none⟩]
def Xn84_3 : C := regL [1, 2, 4] none [⟨some 5, .fa 4 (.tmp 2), none⟩, ⟨some 6, .ld 2 1 false (.tmp 5), none⟩, ⟨some 7, .bin 2 .geq (.tmp 6) (.const (.int .i64 0)), none⟩, ⟨some 8, .mv (.tmp 7), none⟩, ⟨some 9, .fa 4 (.tmp 2), some (8, true)⟩, ⟨some 10, .ld 2 1 false (.tmp 9), some (8, true)⟩, ⟨some 11, .fa 5 (.tmp 2), some (8, true)⟩, ⟨some 12, .ld 2 1 false (.tmp 11), some (8, true)⟩, ⟨some 13, .bin 2 .lss (.tmp 10) (.tmp 12), some (8, true)⟩, ⟨some 14, .pick 8 (.tmp 13) (.const (.bool false)), none⟩, ⟨some 15, .mv (.tmp 14), none⟩, ⟨some 16, .fa 5 (.tmp 2), some (15, true)⟩, ⟨some 17, .ld 2 1 false (.tmp 16), some (15, true)⟩, ⟨some 18, .bin 2 .leq (.tmp 17) (.const (.int .i64 1440)), some (15, true)⟩, ⟨some 19, .pick 15 (.tmp 18) (.const (.bool false)), none⟩, ⟨some 20, .mv (.tmp 19), none⟩, ⟨some 21, .fa 3 (.tmp 2), some (20, true)⟩, ⟨some 22, .ld 2 1 false (.tmp 21), some (20, true)⟩, ⟨some 23, .fa 5 (.tmp 2), some (20, true)⟩, ⟨some 24, .ld 2 1 false (.tmp 23), some (20, true)⟩, ⟨some 25, .fa 4 (.tmp 2), some (20, true)⟩, ⟨some 26, .ld 2 1 false (.tmp 25), some (20, true)⟩, ⟨some 27, .bin 2 .sub (.tmp 24) (.tmp 26), some (20, true)⟩, ⟨some 28, .mn [.const (.int .i64 1440), .tmp 27], some (20, true)⟩, ⟨some 29, .call 85 [.tmp 22, .const (.int .i64 1), .tmp 28], some (20, true)⟩, ⟨some 30, .pick 20 (.tmp 29) (.const (.bool false)), none⟩, ⟨some 4, .mv (.tmp 30), none⟩]
def Xn84_5 : C := regL [3] none [⟨some 31, .ld 115 1 false (.tmp 1), none⟩, ⟨some 32, .fa 0 (.tmp 2), none⟩, ⟨some 33, .ld 3 1 false (.tmp 32), none⟩, ⟨some 34, .callv (.tmp 31) [.tmp 33], none⟩, ⟨some 35, .un .not (.tmp 34), none⟩, ⟨some 36, .mv (.tmp 35), none⟩, ⟨some 37, .ld 115 1 false (.tmp 1), some (36, false)⟩, ⟨some 38, .fa 1 (.tmp 2), some (36, false)⟩, ⟨some 39, .ld 3 1 false (.tmp 38), some (36, false)⟩, ⟨some 40, .callv (.tmp 37) [.tmp 39], some (36, false)⟩, ⟨some 41, .un .not (.tmp 40), some (36, false)⟩, ⟨some 42, .pick 36 (.const (.bool true)) (.tmp 41), none⟩, ⟨some 43, .mv (.tmp 42), none⟩, ⟨some 44, .fa 0 (.tmp 2), some (43, false)⟩, ⟨some 45, .ld 3 1 false (.tmp 44), some (43, false)⟩, ⟨some 46, .fa 1 (.tmp 2), some (43, false)⟩, ⟨some 47, .ld 3 1 false (.tmp 46), some (43, false)⟩, ⟨some 48, .bin 3 .eql (.tmp 45) (.tmp 47), some (43, false)⟩, ⟨some 49, .pick 43 (.const (.bool true)) (.tmp 48), none⟩, ⟨some 50, .mv (.tmp 49), none⟩, ⟨some 51, .fa 2 (.tmp 2), some (50, false)⟩, ⟨some 52, .ld 2 1 false (.tmp 51), some (50, false)⟩, ⟨some 53, .call 85 [.tmp 52, .const (.int .i64 1), .const (.int .i64 1073741824)], some (50, false)⟩, ⟨some 54, .un .not (.tmp 53), some (50, false)⟩, ⟨some 55, .pick 50 (.const (.bool true)) (.tmp 54), none⟩, ⟨some 56, .mv (.tmp 55), none⟩, ⟨some 57, .mv (.tmp 4), some (56, false)⟩, ⟨some 58, .un .not (.tmp 57), some (56, false)⟩, ⟨some 59, .pick 56 (.const (.bool true)) (.tmp 58), none⟩, ⟨some 60, .mv (.tmp 59), none⟩, ⟨some 61, .fa 6 (.tmp 2), some (60, false)⟩, ⟨some 62, .ld 26 6 true (.tmp 61), some (60, false)⟩, ⟨some 63, .call 28 [.tmp 62], some (60, false)⟩, ⟨some 64, .bin 34 .neq (.tmp 63) (.const (.int .i64 0)), some (60, false)⟩, ⟨some 65, .pick 60 (.const (.bool true)) (.tmp 64), none⟩, ⟨some 3, .mv (.tmp 65), none⟩]
def Xn84_4 : C := .seq Xn84_5 .ret
def Xn84_2 : C := .seq Xn84_3 Xn84_4
def Xn84_0 : C := .seq Xn84_1 Xn84_2
theorem Xt84 : Text Try.prog 84 Xn84_0 66 2 [.t 3] := ⟨⟨Try.f84, [2], Try.func84, by kernel_rfl, by kernel_rfl, by kernel_rfl, by kernel_rfl⟩⟩
def Xn85_1 : C := regL [0, 1, 2] none [⟨some 6, .mv (.const (.bool false)), none⟩]
def Xn85_3 : C := regL [6] none [⟨some 7, .mv (.tmp 1), none⟩, ⟨some 8, .mv (.tmp 0), none⟩, ⟨some 9, .bin 2 .leq (.tmp 7) (.tmp 8), none⟩, ⟨some 10, .mv (.tmp 9), none⟩, ⟨some 11, .mv (.tmp 0), some (10, true)⟩, ⟨some 12, .mv (.tmp 2), some (10, true)⟩, ⟨some 13, .bin 2 .leq (.tmp 11) (.tmp 12), some (10, true)⟩, ⟨some 14, .pick 10 (.tmp 13) (.const (.bool false)), none⟩, ⟨some 6, .mv (.tmp 14), none⟩]
def Xn85_2 : C := .seq Xn85_3 .ret
def Xn85_0 : C := .seq Xn85_1 Xn85_2
theorem Xt85 : Text Try.prog 85 Xn85_0 15 3 [.t 6] := ⟨⟨Try.f85, [], Try.func85, by kernel_rfl, by kernel_rfl, by kernel_rfl, by kernel_rfl⟩⟩
def Xn86_1 : C := regL [1, 2] none [⟨some 2, .box true 29 (.tmp 0), none⟩, ⟨some 3, .mv (.const (.bool false)), none⟩]
def Xn86_3 : C := regL [3] none [⟨some 4, .fa 0 (.tmp 2), none⟩, ⟨some 5, .ld 27 1 false (.tmp 4), none⟩, ⟨some 6, .len (.tmp 5), none⟩, ⟨some 7, .bin 3 .eql (.tmp 6) (.const (.int .i64 0)), none⟩, ⟨some 8, .mv (.tmp 7), none⟩, ⟨some 9, .fa 0 (.tmp 2), some (8, false)⟩, ⟨some 10, .ld 27 1 false (.tmp 9), some (8, false)⟩, ⟨some 11, .fa 1 (.tmp 1), some (8, false)⟩, ⟨some 12, .ld 22 1 false (.tmp 11), some (8, false)⟩, ⟨some 13, .len (.tmp 12), some (8, false)⟩, ⟨some 14, .call 73 [.tmp 10, .tmp 13], some (8, false)⟩, ⟨some 15, .un .not (.tmp 14), some (8, false)⟩, ⟨some 16, .pick 8 (.const (.bool true)) (.tmp 15), none⟩, ⟨some 17, .mv (.tmp 16), none⟩, ⟨some 18, .fa 1 (.tmp 2), some (17, false)⟩, ⟨some 19, .ld 3 1 false (.tmp 18), some (17, false)⟩, ⟨some 20, .bin 3 .lss (.tmp 19) (.const (.int .i64 0)), some (17, false)⟩, ⟨some 21, .pick 17 (.const (.bool true)) (.tmp 20), none⟩, ⟨some 22, .mv (.tmp 21), none⟩, ⟨some 23, .fa 1 (.tmp 2), some (22, false)⟩, ⟨some 24, .ld 3 1 false (.tmp 23), some (22, false)⟩, ⟨some 25, .bin 3 .gtr (.tmp 24) (.const (.int .i64 5)), some (22, false)⟩, ⟨some 26, .pick 22 (.const (.bool true)) (.tmp 25), none⟩, ⟨some 27, .mv (.tmp 26), none⟩, ⟨some 28, .fa 2 (.tmp 2), some (27, false)⟩, ⟨some 29, .ld 2 1 false (.tmp 28), some (27, false)⟩, ⟨some 30, .call 85 [.tmp 29, .const (.int .i64 0), .const (.int .i64 1073741824)], some (27, false)⟩, ⟨some 31, .un .not (.tmp 30), some (27, false)⟩, ⟨some 32, .pick 27 (.const (.bool true)) (.tmp 31), none⟩, ⟨some 33, .mv (.tmp 32), none⟩, ⟨some 34, .fa 3 (.tmp 2), some (33, false)⟩, ⟨some 35, .ld 2 1 false (.tmp 34), some (33, false)⟩, ⟨some 36, .call 85 [.tmp 35, .const (.int .i64 1), .const (.int .i64 1073741824)], some (33, false)⟩, ⟨some 37, .un .not (.tmp 36), some (33, false)⟩, ⟨some 38, .pick 33 (.const (.bool true)) (.tmp 37), none⟩, ⟨some 3, .mv (.tmp 38), none⟩]
def Xn86_2 : C := .seq Xn86_3 .ret
def Xn86_0 : C := .seq Xn86_1 Xn86_2
theorem Xt86 : Text Try.prog 86 Xn86_0 39 2 [.t 3] := ⟨⟨Try.f86, [2], Try.func86, by kernel_rfl, by kernel_rfl, by kernel_rfl, by kernel_rfl⟩⟩
def Xn87_1 : C := regL [0, 1] none [⟨some 4, .mv (.const (.bool false)), none⟩]
def Xn87_3 : C := regL [4] none [⟨some 5, .mv (.tmp 0), none⟩, ⟨some 6, .mv (.tmp 1), none⟩, ⟨some 7, .call 62 [.tmp 5, .tmp 6], none⟩, ⟨some 8, .bin 3 .geq (.tmp 7) (.const (.int .i64 0)), none⟩, ⟨some 4, .mv (.tmp 8), none⟩]
def Xn87_2 : C := .seq Xn87_3 .ret
def Xn87_0 : C := .seq Xn87_1 Xn87_2
theorem Xt87 : Text Try.prog 87 Xn87_0 9 2 [.t 4] := ⟨⟨Try.f87, [], Try.func87, by kernel_rfl, by kernel_rfl, by kernel_rfl, by kernel_rfl⟩⟩
def Xn88_1 : C := regL [0, 1] none [⟨some 4, .mv (.const (.bool false)), none⟩]
def Xn88_3 : C := regL [4] none [⟨some 5, .mv (.tmp 0), none⟩, ⟨some 6, .mv (.tmp 1), none⟩, ⟨some 7, .call 125 [.tmp 5, .tmp 6], none⟩, ⟨some 8, .bin 3 .geq (.tmp 7) (.const (.int .i64 0)), none⟩, ⟨some 4, .mv (.tmp 8), none⟩]
def Xn88_2 : C := .seq Xn88_3 .ret
def Xn88_0 : C := .seq Xn88_1 Xn88_2
theorem Xt88 : Text Try.prog 88 Xn88_0 9 2 [.t 4] := ⟨⟨Try.f88, [], Try.func88, by kernel_rfl, by kernel_rfl, by kernel_rfl, by kernel_rfl⟩⟩
def Xn89_1 : C := regL [0] none [⟨some 2, .mv (.const (.bool false)), none⟩]
def Xn89_3 : C := regL [2] none [⟨some 3, .mv (.tmp 0), none⟩, ⟨some 4, .call 85 [.tmp 3, .const (.int .i64 0), .const (.int .i64 1073741824)], none⟩, ⟨some 5, .un .not (.tmp 4), none⟩, ⟨some 2, .mv (.tmp 5), none⟩]
def Xn89_2 : C := .seq Xn89_3 .ret
def Xn89_0 : C := .seq Xn89_1 Xn89_2
theorem Xt89 : Text Try.prog 89 Xn89_0 6 1 [.t 2] := ⟨⟨Try.f89, [], Try.func89, by kernel_rfl, by kernel_rfl, by kernel_rfl, by kernel_rfl⟩⟩
def Xn93_1 : C := regL [1, 2] none [⟨some 2, .box true 67 (.tmp 0), none⟩, ⟨some 4, .mv (.const (.int .i64 0)), none⟩]
def Xn93_3 : C := regL [1, 2, 5] none [⟨some 6, .mv (.tmp 1), none⟩, ⟨some 7, .bin 2 .rem (.tmp 6) (.const (.int .i64 1440)), none⟩, ⟨some 5, .mv (.tmp 7), none⟩]
def Xn93_7 : C := regL [1, 2, 5, 8] none [⟨some 9, .mv (.tmp 5), none⟩, ⟨some 10, .fa 4 (.tmp 2), none⟩, ⟨some 11, .ld 2 1 false (.tmp 10), none⟩, ⟨some 12, .bin 2 .lss (.tmp 9) (.tmp 11), none⟩, ⟨some 8, .mv (.tmp 12), none⟩]
def Xn93_9 : C := regL [1, 2] none [⟨some 13, .mv (.tmp 1), none⟩, ⟨some 14, .fa 4 (.tmp 2), none⟩, ⟨some 15, .ld 2 1 false (.tmp 14), none⟩, ⟨some 16, .mv (.tmp 5), none⟩, ⟨some 17, .bin 2 .sub (.tmp 15) (.tmp 16), none⟩, ⟨some 18, .bin 2 .add (.tmp 13) (.tmp 17), none⟩, ⟨some 1, .mv (.tmp 18), none⟩]
def Xn93_11 : C := regL [1, 2, 5, 19] none [⟨some 20, .mv (.tmp 5), none⟩, ⟨some 21, .fa 5 (.tmp 2), none⟩, ⟨some 22, .ld 2 1 false (.tmp 21), none⟩, ⟨some 23, .fa 3 (.tmp 2), none⟩, ⟨some 24, .ld 2 1 false (.tmp 23), none⟩, ⟨some 25, .bin 2 .sub (.tmp 22) (.tmp 24), none⟩, ⟨some 26, .bin 2 .gtr (.tmp 20) (.tmp 25), none⟩, ⟨some 19, .mv (.tmp 26), none⟩]
def Xn93_13 : C := regL [1, 2] none [⟨some 27, .mv (.tmp 1), none⟩, ⟨some 28, .mv (.tmp 5), none⟩, ⟨some 29, .bin 2 .sub (.const (.int .i64 1440)) (.tmp 28), none⟩, ⟨some 30, .fa 4 (.tmp 2), none⟩, ⟨some 31, .ld 2 1 false (.tmp 30), none⟩, ⟨some 32, .bin 2 .add (.tmp 29) (.tmp 31), none⟩, ⟨some 33, .bin 2 .add (.tmp 27) (.tmp 32), none⟩, ⟨some 1, .mv (.tmp 33), none⟩]
def Xn93_12 : C := .cond (.tmp 19) Xn93_13 .skip
def Xn93_10 : C := .seq Xn93_11 Xn93_12
def Xn93_8 : C := .cond (.tmp 8) Xn93_9 Xn93_10
def Xn93_6 : C := .seq Xn93_7 Xn93_8
def Xn93_5 : C := .block 0 Xn93_6
def Xn93_16 : C := regL [4] none [⟨some 34, .mv (.tmp 1), none⟩, ⟨some 35, .fa 3 (.tmp 2), none⟩, ⟨some 36, .ld 2 1 false (.tmp 35), none⟩, ⟨some 37, .bin 2 .add (.tmp 34) (.tmp 36), none⟩, ⟨some 4, .mv (.tmp 37), none⟩]
def Xn93_15 : C := .seq Xn93_16 .ret
def Xn93_4 : C := seqL [1, 2] Xn93_5 Xn93_15
def Xn93_2 : C := .seq Xn93_3 Xn93_4
def Xn93_0 : C := .seq Xn93_1 Xn93_2
theorem Xt93 : Text Try.prog 93 Xn93_0 38 2 [.t 4] := ⟨⟨Try.f93, [2], Try.func93, by kernel_rfl, by kernel_rfl, by kernel_rfl, by kernel_rfl⟩⟩
end Go.Proofs.Ytfbdlmenhoagmaa

namespace Go.Proofs.Ytfbdlmenhoagmaa
open Go Sy
set_option maxRecDepth 100000
def Xn108_1 : C := regL [2, 3, 4, 5, 6, 7, 12] none [⟨some 6, .box true 25 (.tmp 0), none⟩, ⟨some 7, .box true 26 (.tmp 1), none⟩, ⟨some 12, .alc 89 (.agg #[.int .i64 0, .slice none 0 0, .slice none 0 0, .int .i64 0, .int .i64 0, .int .i64 0, .int .i64 0, .int .i64 0, .int .i64 0]), none⟩, ⟨some 13, .mv (.const (.int .i64 0)), none⟩]
def Xn108_3 : C := regL [2, 3, 4, 5, 6, 12, 14, 15] none [⟨some 17, .ld 25 3 true (.tmp 6), none⟩, ⟨some 18, .ld 26 6 true (.tmp 7), none⟩, ⟨some 19, .call 52 [.tmp 17, .tmp 18], none⟩, ⟨some 16, .mv (.tmp 19), none⟩, ⟨some 20, .ext 0 (.tmp 16), none⟩, ⟨some 21, .ext 1 (.tmp 16), none⟩, ⟨some 14, .alc 89 (.agg #[.int .i64 0, .slice none 0 0, .slice none 0 0, .int .i64 0, .int .i64 0, .int .i64 0, .int .i64 0, .int .i64 0, .int .i64 0]), none⟩, ⟨none, .st 89 9 (.tmp 14) (.tmp 20), none⟩, ⟨some 15, .mv (.tmp 21), none⟩]
def Xn108_6 : C := regL [2, 3, 4, 5, 6, 12, 14, 15, 23] none [⟨some 22, .mv (.tmp 15), none⟩, ⟨some 23, .bin 34 .neq (.tmp 22) (.const (.int .i64 0)), none⟩]
def Xn108_9 : C := regL [12, 13] none [⟨some 24, .ld 89 9 true (.tmp 14), none⟩, ⟨some 25, .mv (.tmp 15), none⟩, ⟨none, .st 89 9 (.tmp 12) (.tmp 24), none⟩, ⟨some 13, .mv (.tmp 25), none⟩]
def Xn108_8 : C := .seq Xn108_9 .ret
def Xn108_7 : C := .cond (.tmp 23) Xn108_8 .skip
def Xn108_5 : C := .seq Xn108_6 Xn108_7
def Xn108_14 : C := regL [12, 14, 44] none [⟨some 26, .mv (.tmp 2), none⟩, ⟨some 27, .fa 2 (.tmp 6), none⟩, ⟨some 28, .ld 23 1 false (.tmp 27), none⟩, ⟨some 29, .len (.tmp 28), none⟩, ⟨some 30, .call 73 [.tmp 26, .tmp 29], none⟩, ⟨some 31, .un .not (.tmp 30), none⟩, ⟨some 32, .mv (.tmp 31), none⟩, ⟨some 33, .ld 25 3 true (.tmp 6), some (32, false)⟩, ⟨some 34, .mv (.tmp 3), some (32, false)⟩, ⟨some 35, .mv (.tmp 4), some (32, false)⟩, ⟨some 36, .bls 3 1 2 (.int .i64 0) [(0, 1, .tmp 34), (1, 1, .tmp 35)], some (32, false)⟩, ⟨some 37, .call 53 [.tmp 33, .tmp 36], some (32, false)⟩, ⟨some 38, .bin 34 .neq (.tmp 37) (.const (.int .i64 0)), some (32, false)⟩, ⟨some 39, .pick 32 (.const (.bool true)) (.tmp 38), none⟩, ⟨some 40, .mv (.tmp 39), none⟩, ⟨some 41, .mv (.tmp 5), some (40, false)⟩, ⟨some 42, .call 85 [.tmp 41, .const (.int .i64 0), .const (.int .i64 1099511627776)], some (40, false)⟩, ⟨some 43, .un .not (.tmp 42), some (40, false)⟩, ⟨some 44, .pick 40 (.const (.bool true)) (.tmp 43), none⟩]
def Xn108_17 : C := regL [12, 13] none [⟨some 45, .ld 89 9 true (.tmp 14), none⟩, ⟨none, .st 89 9 (.tmp 12) (.tmp 45), none⟩, ⟨some 13, .mv (.const (.int .i64 3)), none⟩]
def Xn108_16 : C := .seq Xn108_17 .ret
def Xn108_15 : C := .cond (.tmp 44) Xn108_16 .skip
def Xn108_13 : C := .seq Xn108_14 Xn108_15
def Xn108_21 : C := regL [12, 13] none [⟨some 46, .ld 89 9 true (.tmp 14), none⟩, ⟨none, .st 89 9 (.tmp 12) (.tmp 46), none⟩, ⟨some 13, .mv (.const (.int .i64 0)), none⟩]
def Xn108_20 : C := .seq Xn108_21 .ret
def Xn108_12 : C := seqL [12, 14] Xn108_13 Xn108_20
def Xn108_4 : C := seqL [2, 3, 4, 5, 6, 12, 14] Xn108_5 Xn108_12
def Xn108_2 : C := .seq Xn108_3 Xn108_4
def Xn108_0 : C := .seq Xn108_1 Xn108_2
theorem Xt108 : Text Try.prog 108 Xn108_0 47 6 [.c 12 9 true, .t 13] := ⟨⟨Try.f108, [6, 7], Try.func108, by kernel_rfl, by kernel_rfl, by kernel_rfl, by kernel_rfl⟩⟩
def Xn112_1 : C := regL [0] none [⟨some 2, .mv (.const (.bool false)), none⟩]
def Xn112_3 : C := regL [2] none [⟨some 3, .mv (.tmp 0), none⟩, ⟨some 4, .call 85 [.tmp 3, .const (.int .i64 (-1)), .const (.int .i64 2199023255552)], none⟩, ⟨some 5, .un .not (.tmp 4), none⟩, ⟨some 2, .mv (.tmp 5), none⟩]
def Xn112_2 : C := .seq Xn112_3 .ret
def Xn112_0 : C := .seq Xn112_1 Xn112_2
theorem Xt112 : Text Try.prog 112 Xn112_0 6 1 [.t 2] := ⟨⟨Try.f112, [], Try.func112, by kernel_rfl, by kernel_rfl, by kernel_rfl, by kernel_rfl⟩⟩
def Xn113_1 : C := regL [0, 1] none [⟨some 3, .mv (.const (.bool false)), none⟩]
def Xn113_3 : C := regL [3] none [⟨some 4, .mv (.tmp 0), none⟩, ⟨some 5, .bin 3 .lss (.tmp 4) (.const (.int .i64 0)), none⟩, ⟨some 6, .mv (.tmp 5), none⟩, ⟨some 7, .mv (.tmp 0), some (6, false)⟩, ⟨some 8, .fa 0 (.tmp 1), some (6, false)⟩, ⟨some 9, .ld 3 1 false (.tmp 8), some (6, false)⟩, ⟨some 10, .bin 3 .geq (.tmp 7) (.tmp 9), some (6, false)⟩, ⟨some 11, .pick 6 (.const (.bool true)) (.tmp 10), none⟩, ⟨some 3, .mv (.tmp 11), none⟩]
def Xn113_2 : C := .seq Xn113_3 .ret
def Xn113_0 : C := .seq Xn113_1 Xn113_2
theorem Xt113 : Text Try.prog 113 Xn113_0 12 2 [.t 3] := ⟨⟨Try.f113, [], Try.func113, by kernel_rfl, by kernel_rfl, by kernel_rfl, by kernel_rfl⟩⟩
def Xn114_1 : C := regL [1, 2] none [⟨some 2, .box true 159 (.tmp 0), none⟩]
def Xn114_3 : C := regL [1, 2, 3] none [⟨some 3, .alc 111 (.nilFunc), none⟩]
def Xn114_5 : C := regL [3] none [⟨some 4, .mkf 115 [] [.tmp 2, .tmp 1, .tmp 3], none⟩, ⟨none, .st 111 1 (.tmp 3) (.tmp 4), none⟩]
def Xn114_6 : C := regL [] none [⟨some 5, .ld 111 1 false (.tmp 3), none⟩, ⟨some 6, .callv (.tmp 5) [.const (.int .u64 0), .const (.int .i64 0)], none⟩]
def Xn114_4 : C := .seq Xn114_5 Xn114_6
def Xn114_2 : C := .seq Xn114_3 Xn114_4
def Xn114_0 : C := .seq Xn114_1 Xn114_2
theorem Xt114 : Text Try.prog 114 Xn114_0 7 2 [] := ⟨⟨Try.f114, [2], Try.func114, by kernel_rfl, by kernel_rfl, by kernel_rfl, by kernel_rfl⟩⟩
def Xn115_1 : C := regL [0, 1, 2, 3, 4] none [⟨some 7, .mv (.const (.bool false)), none⟩]
def Xn115_4 : C := regL [0, 1, 3, 4, 12] none [⟨some 9, .ld 159 1 false (.tmp 2), none⟩, ⟨some 10, .mv (.tmp 0), none⟩, ⟨some 11, .callv (.tmp 9) [.tmp 10], none⟩, ⟨some 12, .un .not (.tmp 11), none⟩]
def Xn115_7 : C := regL [7] none [⟨some 7, .mv (.const (.bool false)), none⟩]
def Xn115_6 : C := .seq Xn115_7 .ret
def Xn115_5 : C := .cond (.tmp 12) Xn115_6 .skip
def Xn115_3 : C := .seq Xn115_4 Xn115_5
def Xn115_12 : C := regL [0, 3, 4, 8] none [⟨some 13, .mv (.tmp 1), none⟩, ⟨some 8, .mv (.tmp 13), none⟩]
def Xn115_17 : C := regL [0, 3, 4, 8, 16] none [⟨some 14, .mv (.tmp 8), none⟩, ⟨some 15, .ld 3 1 false (.tmp 3), none⟩, ⟨some 16, .bin 3 .lss (.tmp 14) (.tmp 15), none⟩]
def Xn115_18 : C := .cond (.tmp 16) .skip (.exit 0)
def Xn115_16 : C := .seq Xn115_17 Xn115_18
def Xn115_24 : C := regL [0, 3, 4, 8, 27] (some [0, 0, 0, 4, 14, 0, 32, 127, 255]) [⟨some 19, .ld 111 1 false (.tmp 4), none⟩, ⟨some 20, .mv (.tmp 0), none⟩, ⟨some 21, .mv (.tmp 8), none⟩, ⟨some 22, .bin 94 .shl (.const (.int .u64 1)) (.tmp 21), none⟩, ⟨some 23, .bin 94 .or (.tmp 20) (.tmp 22), none⟩, ⟨some 24, .mv (.tmp 8), none⟩, ⟨some 25, .bin 3 .add (.tmp 24) (.const (.int .i64 1)), none⟩, ⟨some 26, .callv (.tmp 19) [.tmp 23, .tmp 25], none⟩, ⟨some 27, .un .not (.tmp 26), none⟩]
def Xn115_27 : C := regL [7] none [⟨some 7, .mv (.const (.bool false)), none⟩]
def Xn115_26 : C := .seq Xn115_27 .ret
def Xn115_25 : C := .cond (.tmp 27) Xn115_26 .skip
def Xn115_23 : C := .seq Xn115_24 Xn115_25
def Xn115_22 : C := .block 1 Xn115_23
def Xn115_30 : C := regL [0, 3, 4, 8] none [⟨some 17, .mv (.tmp 8), none⟩, ⟨some 18, .bin 3 .add (.tmp 17) (.const (.int .i64 1)), none⟩, ⟨some 8, .mv (.tmp 18), none⟩]
def Xn115_21 : C := seqL [0, 3, 4, 8] Xn115_22 Xn115_30
def Xn115_15 : C := seqL [0, 3, 4, 8] Xn115_16 Xn115_21
def Xn115_14 : C := loopL [0, 3, 4, 8] Xn115_15
def Xn115_13 : C := .block 0 Xn115_14
def Xn115_11 : C := .seq Xn115_12 Xn115_13
def Xn115_32 : C := regL [7] none [⟨some 7, .mv (.const (.bool true)), none⟩]
def Xn115_31 : C := .seq Xn115_32 .ret
def Xn115_10 : C := seqL [] Xn115_11 Xn115_31
def Xn115_2 : C := seqL [0, 1, 3, 4] Xn115_3 Xn115_10
def Xn115_0 : C := .seq Xn115_1 Xn115_2
theorem Xt115 : Text Try.prog 115 Xn115_0 28 5 [.t 7] := ⟨⟨Try.f115, [], Try.func115, by kernel_rfl, by kernel_rfl, by kernel_rfl, by kernel_rfl⟩⟩
def Xn116_1 : C := regL [0, 1, 2] none [⟨some 4, .mv (.const (.int .i64 0)), none⟩]
def Xn116_4 : C := regL [0, 1, 9] none [⟨some 5, .ld 89 9 true (.tmp 1), none⟩, ⟨some 6, .ld 94 1 false (.tmp 2), none⟩, ⟨some 7, .mv (.tmp 0), none⟩, ⟨some 8, .call 64 [.tmp 5, .tmp 6, .tmp 7], none⟩, ⟨some 9, .un .not (.tmp 8), none⟩]
def Xn116_7 : C := regL [4] none [⟨some 4, .mv (.const (.int .i64 (-1))), none⟩]
def Xn116_6 : C := .seq Xn116_7 .ret
def Xn116_5 : C := .cond (.tmp 9) Xn116_6 .skip
def Xn116_3 : C := .seq Xn116_4 Xn116_5
def Xn116_11 : C := regL [4] none [⟨some 10, .fa 0 (.tmp 1), none⟩, ⟨some 11, .fa 1 (.tmp 10), none⟩, ⟨some 12, .ld 22 1 false (.tmp 11), none⟩, ⟨some 13, .mv (.tmp 0), none⟩, ⟨some 14, .ia 12 (.tmp 12) (.tmp 13), none⟩, ⟨some 15, .fa 2 (.tmp 14), none⟩, ⟨some 16, .ld 2 1 false (.tmp 15), none⟩, ⟨some 4, .mv (.tmp 16), none⟩]
def Xn116_10 : C := .seq Xn116_11 .ret
def Xn116_2 : C := seqL [0, 1] Xn116_3 Xn116_10
def Xn116_0 : C := .seq Xn116_1 Xn116_2
theorem Xt116 : Text Try.prog 116 Xn116_0 17 3 [.t 4] := ⟨⟨Try.f116, [], Try.func116, by kernel_rfl, by kernel_rfl, by kernel_rfl, by kernel_rfl⟩⟩
def Xn117_1 : C := regL [1, 2] none [⟨some 2, .box false 27 (.tmp 0), none⟩, ⟨some 4, .mv (.const (.slice none 0 0)), none⟩]
def Xn117_4 : C := regL [2, 6] none [⟨some 6, .mv (.tmp 1), none⟩]
def Xn117_7 : C := regL [2, 5] none [⟨some 5, .mv (.tmp 7), none⟩]
def Xn117_9 : C := regL [] none [⟨some 8, .ld 27 1 false (.tmp 2), none⟩, ⟨some 9, .mv (.tmp 5), none⟩, ⟨some 10, .bls 3 1 1 (.int .i64 0) [(0, 1, .tmp 9)], none⟩, ⟨some 11, .app 3 1 8 (.tmp 8) (.tmp 10), none⟩, ⟨none, .st 27 1 (.tmp 2) (.tmp 11), none⟩]
def Xn117_8 : C := .block 1 Xn117_9
def Xn117_6 : C := .rfn (.tmp 6) [7] Xn117_7 Xn117_8
def Xn117_5 : C := .block 0 Xn117_6
def Xn117_3 : C := .seq Xn117_4 Xn117_5
def Xn117_11 : C := regL [4] none [⟨some 12, .ld 27 1 false (.tmp 2), none⟩, ⟨some 4, .mv (.tmp 12), none⟩]
def Xn117_10 : C := .seq Xn117_11 .ret
def Xn117_2 : C := seqL [2] Xn117_3 Xn117_10
def Xn117_0 : C := .seq Xn117_1 Xn117_2
theorem Xt117 : Text Try.prog 117 Xn117_0 13 2 [.t 4] := ⟨⟨Try.f117, [], Try.func117, by kernel_rfl, by kernel_rfl, by kernel_rfl, by kernel_rfl⟩⟩
def Xn118_1 : C := regL [0, 1, 3] none [⟨some 3, .mv (.const (.int .i64 0)), none⟩]
def Xn118_6 : C := regL [0, 1, 3, 7] none [⟨some 4, .ld 94 1 false (.tmp 1), none⟩, ⟨some 5, .mv (.tmp 3), none⟩, ⟨some 6, .bin 94 .shr (.tmp 4) (.tmp 5), none⟩, ⟨some 7, .bin 94 .neq (.tmp 6) (.const (.int .u64 0)), none⟩]
def Xn118_7 : C := .cond (.tmp 7) .skip (.exit 0)
def Xn118_5 : C := .seq Xn118_6 Xn118_7
def Xn118_13 : C := regL [0, 1, 3, 20] none [⟨some 10, .ld 94 1 false (.tmp 1), none⟩, ⟨some 11, .mv (.tmp 3), none⟩, ⟨some 12, .bin 94 .shr (.tmp 10) (.tmp 11), none⟩, ⟨some 13, .bin 94 .and (.tmp 12) (.const (.int .u64 1)), none⟩, ⟨some 14, .bin 94 .eql (.tmp 13) (.const (.int .u64 1)), none⟩, ⟨some 15, .mv (.tmp 14), none⟩, ⟨some 16, .mv (.tmp 0), some (15, true)⟩, ⟨some 17, .mv (.tmp 3), some (15, true)⟩, ⟨some 18, .callv (.tmp 16) [.tmp 17], some (15, true)⟩, ⟨some 19, .un .not (.tmp 18), some (15, true)⟩, ⟨some 20, .pick 15 (.tmp 19) (.const (.bool false)), none⟩]
def Xn118_14 : C := .cond (.tmp 20) .ret .skip
def Xn118_12 : C := .seq Xn118_13 Xn118_14
def Xn118_11 : C := .block 1 Xn118_12
def Xn118_17 : C := regL [0, 1, 3] none [⟨some 8, .mv (.tmp 3), none⟩, ⟨some 9, .bin 3 .add (.tmp 8) (.const (.int .i64 1)), none⟩, ⟨some 3, .mv (.tmp 9), none⟩]
def Xn118_10 : C := seqL [0, 1, 3] Xn118_11 Xn118_17
def Xn118_4 : C := seqL [0, 1, 3] Xn118_5 Xn118_10
def Xn118_3 : C := loopL [0, 1, 3] Xn118_4
def Xn118_2 : C := .block 0 Xn118_3
def Xn118_0 : C := .seq Xn118_1 Xn118_2
theorem Xt118 : Text Try.prog 118 Xn118_0 21 2 [] := ⟨⟨Try.f118, [], Try.func118, by kernel_rfl, by kernel_rfl, by kernel_rfl, by kernel_rfl⟩⟩
def Xn119_1 : C := regL [0, 1] none [⟨some 3, .mv (.const (.bool false)), none⟩]
def Xn119_3 : C := regL [3] none [⟨some 4, .mv (.tmp 0), none⟩, ⟨some 5, .bin 3 .lss (.tmp 4) (.const (.int .i64 0)), none⟩, ⟨some 6, .mv (.tmp 5), none⟩, ⟨some 7, .mv (.tmp 0), some (6, false)⟩, ⟨some 8, .fa 1 (.tmp 1), some (6, false)⟩, ⟨some 9, .ld 22 1 false (.tmp 8), some (6, false)⟩, ⟨some 10, .len (.tmp 9), some (6, false)⟩, ⟨some 11, .bin 3 .geq (.tmp 7) (.tmp 10), some (6, false)⟩, ⟨some 12, .pick 6 (.const (.bool true)) (.tmp 11), none⟩, ⟨some 3, .mv (.tmp 12), none⟩]
def Xn119_2 : C := .seq Xn119_3 .ret
def Xn119_0 : C := .seq Xn119_1 Xn119_2
theorem Xt119 : Text Try.prog 119 Xn119_0 13 2 [.t 3] := ⟨⟨Try.f119, [], Try.func119, by kernel_rfl, by kernel_rfl, by kernel_rfl, by kernel_rfl⟩⟩
def Xn120_1 : C := regL [0, 1] none [⟨some 4, .mv (.const (.int .i64 0)), none⟩]
def Xn120_4 : C := regL [0, 1, 7, 8] none [⟨some 6, .mv (.tmp 0), none⟩, ⟨some 7, .len (.tmp 6), none⟩, ⟨some 8, .mv (.const (.int .i64 0)), none⟩]
def Xn120_8 : C := regL [0, 1, 7, 8, 9] none [⟨some 9, .bin 3 .lss (.tmp 8) (.tmp 7), none⟩]
def Xn120_10 : C := .cond (.tmp 9) .skip (.exit 0)
def Xn120_16 : C := regL [0, 1, 5, 7, 8] none [⟨some 10, .mv (.tmp 8), none⟩, ⟨some 5, .mv (.tmp 10), none⟩]
def Xn120_18 : C := regL [0, 1, 5, 7, 8, 16] none [⟨some 11, .mv (.tmp 1), none⟩, ⟨some 12, .mv (.tmp 0), none⟩, ⟨some 13, .mv (.tmp 5), none⟩, ⟨some 14, .ia 1 (.tmp 12) (.tmp 13), none⟩, ⟨some 15, .ld 3 1 false (.tmp 14), none⟩, ⟨some 16, .callv (.tmp 11) [.tmp 15], none⟩]
def Xn120_21 : C := regL [4] none [⟨some 17, .mv (.tmp 5), none⟩, ⟨some 4, .mv (.tmp 17), none⟩]
def Xn120_20 : C := .seq Xn120_21 .ret
def Xn120_19 : C := .cond (.tmp 16) Xn120_20 .skip
def Xn120_17 : C := .seq Xn120_18 Xn120_19
def Xn120_15 : C := .seq Xn120_16 Xn120_17
def Xn120_14 : C := .block 1 Xn120_15
def Xn120_24 : C := regL [0, 1, 7, 8] none [⟨some 18, .bin 3 .add (.tmp 8) (.const (.int .i64 1)), none⟩, ⟨some 8, .mv (.tmp 18), none⟩]
def Xn120_13 : C := seqL [0, 1, 7, 8] Xn120_14 Xn120_24
def Xn120_9 : C := seqL [0, 1, 7, 8] Xn120_10 Xn120_13
def Xn120_7 : C := .seq Xn120_8 Xn120_9
def Xn120_6 : C := loopL [0, 1, 7, 8] Xn120_7
def Xn120_5 : C := .block 0 Xn120_6
def Xn120_3 : C := .seq Xn120_4 Xn120_5
def Xn120_26 : C := regL [4] none [⟨some 4, .mv (.const (.int .i64 (-1))), none⟩]
def Xn120_25 : C := .seq Xn120_26 .ret
def Xn120_2 : C := seqL [] Xn120_3 Xn120_25
def Xn120_0 : C := .seq Xn120_1 Xn120_2
theorem Xt120 : Text Try.prog 120 Xn120_0 19 2 [.t 4] := ⟨⟨Try.f120, [], Try.func120, by kernel_rfl, by kernel_rfl, by kernel_rfl, by kernel_rfl⟩⟩
def Xn121_1 : C := regL [0, 1, 2, 3, 9, 10] none [⟨some 8, .fa 3 (.tmp 1), none⟩, ⟨some 9, .ld 26 6 true (.tmp 8), none⟩, ⟨some 10, .mv (.const (.int .i64 0)), none⟩]
def Xn121_5 : C := regL [0, 1, 2, 3, 9, 10, 11] none [⟨some 11, .bin 3 .lss (.tmp 10) (.const (.int .i64 6)), none⟩]
def Xn121_7 : C := .cond (.tmp 11) .skip (.exit 0)
def Xn121_13 : C := regL [0, 1, 2, 3, 5, 6, 9, 10] none [⟨some 12, .mv (.tmp 10), none⟩, ⟨some 13, .idx 6 1 false (.tmp 9) (.tmp 10), none⟩, ⟨some 5, .mv (.tmp 12), none⟩, ⟨some 6, .mv (.tmp 13), none⟩]
def Xn121_15 : C := regL [0, 1, 2, 3, 5, 6, 7, 9, 10] none [⟨some 14, .ld 89 9 true (.tmp 1), none⟩, ⟨some 15, .ld 94 1 false (.tmp 2), none⟩, ⟨some 16, .ld 3 1 false (.tmp 3), none⟩, ⟨some 17, .mv (.tmp 5), none⟩, ⟨some 18, .call 122 [.tmp 14, .tmp 15, .tmp 16, .tmp 17], none⟩, ⟨some 7, .mv (.tmp 18), none⟩]
def Xn121_17 : C := regL [0, 1, 2, 3, 9, 10, 31] none [⟨some 19, .mv (.tmp 6), none⟩, ⟨some 20, .mv (.tmp 7), none⟩, ⟨some 21, .bin 2 .gtr (.tmp 19) (.tmp 20), none⟩, ⟨some 22, .mv (.tmp 21), none⟩, ⟨some 23, .mv (.tmp 0), some (22, true)⟩, ⟨some 24, .ld 3 1 false (.tmp 3), some (22, true)⟩, ⟨some 25, .mv (.tmp 5), some (22, true)⟩, ⟨some 26, .mv (.tmp 7), some (22, true)⟩, ⟨some 27, .mv (.tmp 6), some (22, true)⟩, ⟨some 28, .bld (.agg #[.int .i64 0, .int .i64 0, .int .i64 0, .int .i64 0]) [(0, 1, .tmp 24), (1, 1, .tmp 25), (2, 1, .tmp 26), (3, 1, .tmp 27)], some (22, true)⟩, ⟨some 29, .callv (.tmp 23) [.tmp 28], some (22, true)⟩, ⟨some 30, .un .not (.tmp 29), some (22, true)⟩, ⟨some 31, .pick 22 (.tmp 30) (.const (.bool false)), none⟩]
def Xn121_18 : C := .cond (.tmp 31) .ret .skip
def Xn121_16 : C := .seq Xn121_17 Xn121_18
def Xn121_14 : C := .seq Xn121_15 Xn121_16
def Xn121_12 : C := .seq Xn121_13 Xn121_14
def Xn121_11 : C := .block 1 Xn121_12
def Xn121_21 : C := regL [0, 1, 2, 3, 9, 10] none [⟨some 32, .bin 3 .add (.tmp 10) (.const (.int .i64 1)), none⟩, ⟨some 10, .mv (.tmp 32), none⟩]
def Xn121_10 : C := seqL [0, 1, 2, 3, 9, 10] Xn121_11 Xn121_21
def Xn121_6 : C := seqL [0, 1, 2, 3, 9, 10] Xn121_7 Xn121_10
def Xn121_4 : C := .seq Xn121_5 Xn121_6
def Xn121_3 : C := loopL [0, 1, 2, 3, 9, 10] Xn121_4
def Xn121_2 : C := .block 0 Xn121_3
def Xn121_0 : C := .seq Xn121_1 Xn121_2
theorem Xt121 : Text Try.prog 121 Xn121_0 33 4 [] := ⟨⟨Try.f121, [], Try.func121, by kernel_rfl, by kernel_rfl, by kernel_rfl, by kernel_rfl⟩⟩
def Xn122_1 : C := regL [1, 4, 6, 7] none [⟨some 4, .box true 89 (.tmp 0), none⟩, ⟨some 6, .box true 3 (.tmp 2), none⟩, ⟨some 7, .box true 3 (.tmp 3), none⟩, ⟨some 8, .mv (.const (.int .i64 0)), none⟩]
def Xn122_3 : C := regL [1, 4, 6, 7, 9] (some [0, 1, 3, 0, 0, 15, 47, 127, 255, 0, 1023]) [⟨some 12, .fa 0 (.tmp 4), none⟩, ⟨some 13, .fa 1 (.tmp 12), none⟩, ⟨some 14, .ld 22 1 false (.tmp 13), none⟩, ⟨some 15, .ld 3 1 false (.tmp 6), none⟩, ⟨some 16, .ld 3 1 false (.tmp 7), none⟩, ⟨some 17, .ia 12 (.tmp 14) (.tmp 15), none⟩, ⟨some 18, .fa 6 (.tmp 17), none⟩, ⟨some 19, .iaa 6 1 (.tmp 18) (.tmp 16), none⟩, ⟨some 20, .ld 2 1 false (.tmp 19), none⟩, ⟨some 9, .alc 2 (.int .i64 0), none⟩, ⟨none, .st 2 1 (.tmp 9) (.tmp 20), none⟩]
def Xn122_6 : C := regL [4, 6, 7, 9, 22] none [⟨some 21, .mv (.tmp 1), none⟩, ⟨some 22, .call 61 [.tmp 21], none⟩]
def Xn122_9 : C := regL [4, 6, 7, 9, 10] none [⟨some 10, .mv (.tmp 23), none⟩]
def Xn122_12 : C := regL [6, 7, 9, 11] none [⟨some 24, .fa 0 (.tmp 4), none⟩, ⟨some 25, .fa 2 (.tmp 24), none⟩, ⟨some 26, .ld 23 1 false (.tmp 25), none⟩, ⟨some 27, .mv (.tmp 10), none⟩, ⟨some 28, .ia 4 (.tmp 26) (.tmp 27), none⟩, ⟨some 29, .ld 29 4 true (.tmp 28), none⟩, ⟨some 11, .alc 29 (.agg #[.slice none 0 0, .int .i64 0, .int .i64 0, .int .i64 0]), none⟩, ⟨none, .st 29 4 (.tmp 11) (.tmp 29), none⟩]
def Xn122_14 : C := regL [9, 11, 39] none [⟨some 30, .fa 1 (.tmp 11), none⟩, ⟨some 31, .ld 3 1 false (.tmp 30), none⟩, ⟨some 32, .ld 3 1 false (.tmp 7), none⟩, ⟨some 33, .bin 3 .eql (.tmp 31) (.tmp 32), none⟩, ⟨some 34, .mv (.tmp 33), none⟩, ⟨some 35, .fa 0 (.tmp 11), some (34, true)⟩, ⟨some 36, .ld 27 1 false (.tmp 35), some (34, true)⟩, ⟨some 37, .ld 3 1 false (.tmp 6), some (34, true)⟩, ⟨some 38, .call 129 [.tmp 36, .tmp 37], some (34, true)⟩, ⟨some 39, .pick 34 (.tmp 38) (.const (.bool false)), none⟩]
def Xn122_16 : C := regL [] none [⟨some 40, .ld 2 1 false (.tmp 9), none⟩, ⟨some 41, .fa 2 (.tmp 11), none⟩, ⟨some 42, .ld 2 1 false (.tmp 41), none⟩, ⟨some 43, .mx [.tmp 40, .tmp 42], none⟩, ⟨none, .st 2 1 (.tmp 9) (.tmp 43), none⟩]
def Xn122_15 : C := .cond (.tmp 39) Xn122_16 .skip
def Xn122_13 : C := .seq Xn122_14 Xn122_15
def Xn122_11 : C := .seq Xn122_12 Xn122_13
def Xn122_10 : C := .block 1 Xn122_11
def Xn122_8 : C := .rfn (.tmp 22) [23] Xn122_9 Xn122_10
def Xn122_7 : C := .block 0 Xn122_8
def Xn122_5 : C := .seq Xn122_6 Xn122_7
def Xn122_19 : C := regL [8] none [⟨some 44, .ld 2 1 false (.tmp 9), none⟩, ⟨some 8, .mv (.tmp 44), none⟩]
def Xn122_18 : C := .seq Xn122_19 .ret
def Xn122_4 : C := seqL [9] Xn122_5 Xn122_18
def Xn122_2 : C := .seq Xn122_3 Xn122_4
def Xn122_0 : C := .seq Xn122_1 Xn122_2
theorem Xt122 : Text Try.prog 122 Xn122_0 45 4 [.t 8] := ⟨⟨Try.f122, [4, 6, 7], Try.func122, by kernel_rfl, by kernel_rfl, by kernel_rfl, by kernel_rfl⟩⟩
def Xn124_1 : C := regL [0, 1] none [⟨some 4, .mv (.const (.int .i64 0)), none⟩]
def Xn124_4 : C := regL [0, 1, 7, 8] none [⟨some 6, .mv (.tmp 0), none⟩, ⟨some 7, .len (.tmp 6), none⟩, ⟨some 8, .mv (.const (.int .i64 0)), none⟩]
def Xn124_8 : C := regL [0, 1, 7, 8, 9] none [⟨some 9, .bin 3 .lss (.tmp 8) (.tmp 7), none⟩]
def Xn124_10 : C := .cond (.tmp 9) .skip (.exit 0)
def Xn124_16 : C := regL [0, 1, 5, 7, 8] none [⟨some 10, .mv (.tmp 8), none⟩, ⟨some 5, .mv (.tmp 10), none⟩]
def Xn124_18 : C := regL [0, 1, 5, 7, 8, 16] none [⟨some 11, .mv (.tmp 1), none⟩, ⟨some 12, .mv (.tmp 0), none⟩, ⟨some 13, .mv (.tmp 5), none⟩, ⟨some 14, .ia 4 (.tmp 12) (.tmp 13), none⟩, ⟨some 15, .ld 29 4 true (.tmp 14), none⟩, ⟨some 16, .callv (.tmp 11) [.tmp 15], none⟩]
def Xn124_21 : C := regL [4] none [⟨some 17, .mv (.tmp 5), none⟩, ⟨some 4, .mv (.tmp 17), none⟩]
def Xn124_20 : C := .seq Xn124_21 .ret
def Xn124_19 : C := .cond (.tmp 16) Xn124_20 .skip
def Xn124_17 : C := .seq Xn124_18 Xn124_19
def Xn124_15 : C := .seq Xn124_16 Xn124_17
def Xn124_14 : C := .block 1 Xn124_15
def Xn124_24 : C := regL [0, 1, 7, 8] none [⟨some 18, .bin 3 .add (.tmp 8) (.const (.int .i64 1)), none⟩, ⟨some 8, .mv (.tmp 18), none⟩]
def Xn124_13 : C := seqL [0, 1, 7, 8] Xn124_14 Xn124_24
def Xn124_9 : C := seqL [0, 1, 7, 8] Xn124_10 Xn124_13
def Xn124_7 : C := .seq Xn124_8 Xn124_9
def Xn124_6 : C := loopL [0, 1, 7, 8] Xn124_7
def Xn124_5 : C := .block 0 Xn124_6
def Xn124_3 : C := .seq Xn124_4 Xn124_5
def Xn124_26 : C := regL [4] none [⟨some 4, .mv (.const (.int .i64 (-1))), none⟩]
def Xn124_25 : C := .seq Xn124_26 .ret
def Xn124_2 : C := seqL [] Xn124_3 Xn124_25
def Xn124_0 : C := .seq Xn124_1 Xn124_2
theorem Xt124 : Text Try.prog 124 Xn124_0 19 2 [.t 4] := ⟨⟨Try.f124, [], Try.func124, by kernel_rfl, by kernel_rfl, by kernel_rfl, by kernel_rfl⟩⟩
def Xn125_1 : C := regL [0, 1] none [⟨some 4, .mv (.const (.int .i64 0)), none⟩]
def Xn125_4 : C := regL [0, 1, 7, 8] none [⟨some 6, .mv (.tmp 0), none⟩, ⟨some 7, .len (.tmp 6), none⟩, ⟨some 8, .mv (.const (.int .i64 0)), none⟩]
def Xn125_8 : C := regL [0, 1, 7, 8, 9] none [⟨some 9, .bin 3 .lss (.tmp 8) (.tmp 7), none⟩]
def Xn125_10 : C := .cond (.tmp 9) .skip (.exit 0)
def Xn125_16 : C := regL [0, 1, 5, 7, 8] none [⟨some 10, .mv (.tmp 8), none⟩, ⟨some 5, .mv (.tmp 10), none⟩]
def Xn125_18 : C := regL [0, 1, 5, 7, 8, 16] none [⟨some 11, .mv (.tmp 1), none⟩, ⟨some 12, .mv (.tmp 0), none⟩, ⟨some 13, .mv (.tmp 5), none⟩, ⟨some 14, .ia 1 (.tmp 12) (.tmp 13), none⟩, ⟨some 15, .ld 2 1 false (.tmp 14), none⟩, ⟨some 16, .callv (.tmp 11) [.tmp 15], none⟩]
def Xn125_21 : C := regL [4] none [⟨some 17, .mv (.tmp 5), none⟩, ⟨some 4, .mv (.tmp 17), none⟩]
def Xn125_20 : C := .seq Xn125_21 .ret
def Xn125_19 : C := .cond (.tmp 16) Xn125_20 .skip
def Xn125_17 : C := .seq Xn125_18 Xn125_19
def Xn125_15 : C := .seq Xn125_16 Xn125_17
def Xn125_14 : C := .block 1 Xn125_15
def Xn125_24 : C := regL [0, 1, 7, 8] none [⟨some 18, .bin 3 .add (.tmp 8) (.const (.int .i64 1)), none⟩, ⟨some 8, .mv (.tmp 18), none⟩]
def Xn125_13 : C := seqL [0, 1, 7, 8] Xn125_14 Xn125_24
def Xn125_9 : C := seqL [0, 1, 7, 8] Xn125_10 Xn125_13
def Xn125_7 : C := .seq Xn125_8 Xn125_9
def Xn125_6 : C := loopL [0, 1, 7, 8] Xn125_7
def Xn125_5 : C := .block 0 Xn125_6
def Xn125_3 : C := .seq Xn125_4 Xn125_5
def Xn125_26 : C := regL [4] none [⟨some 4, .mv (.const (.int .i64 (-1))), none⟩]
def Xn125_25 : C := .seq Xn125_26 .ret
def Xn125_2 : C := seqL [] Xn125_3 Xn125_25
def Xn125_0 : C := .seq Xn125_1 Xn125_2
theorem Xt125 : Text Try.prog 125 Xn125_0 19 2 [.t 4] := ⟨⟨Try.f125, [], Try.func125, by kernel_rfl, by kernel_rfl, by kernel_rfl, by kernel_rfl⟩⟩
def Xn129_1 : C := regL [0, 1] none [⟨some 4, .mv (.const (.bool false)), none⟩]
def Xn129_3 : C := regL [4] none [⟨some 5, .mv (.tmp 0), none⟩, ⟨some 6, .mv (.tmp 1), none⟩, ⟨some 7, .call 138 [.tmp 5, .tmp 6], none⟩, ⟨some 8, .bin 3 .geq (.tmp 7) (.const (.int .i64 0)), none⟩, ⟨some 4, .mv (.tmp 8), none⟩]
def Xn129_2 : C := .seq Xn129_3 .ret
def Xn129_0 : C := .seq Xn129_1 Xn129_2
theorem Xt129 : Text Try.prog 129 Xn129_0 9 2 [.t 4] := ⟨⟨Try.f129, [], Try.func129, by kernel_rfl, by kernel_rfl, by kernel_rfl, by kernel_rfl⟩⟩
def Xn136_1 : C := regL [0, 3] none [⟨some 3, .box true 182 (.tmp 1), none⟩]
def Xn136_2 : C := regL [] (some [0, 0, 2, 6, 14, 0, 32, 126, 255, 511, 1023]) [⟨some 4, .mv (.tmp 0), none⟩, ⟨some 5, .mv (.tmp 0), none⟩, ⟨some 6, .nilc (.tmp 5), none⟩, ⟨some 7, .fa 0 (.tmp 6), none⟩, ⟨some 8, .ld 176 1 false (.tmp 7), none⟩, ⟨some 9, .ld 182 2 true (.tmp 3), none⟩, ⟨some 10, .bls 182 2 1 (.agg #[.int .i64 0, .int .i64 0]) [(0, 2, .tmp 9)], none⟩, ⟨some 11, .app 182 2 16 (.tmp 8) (.tmp 10), none⟩, ⟨some 12, .nilc (.tmp 4), none⟩, ⟨some 13, .fa 0 (.tmp 12), none⟩, ⟨none, .st 176 1 (.tmp 13) (.tmp 11), none⟩]
def Xn136_0 : C := .seq Xn136_1 Xn136_2
theorem Xt136 : Text Try.prog 136 Xn136_0 14 2 [] := ⟨⟨Try.f136, [3], Try.func136, by kernel_rfl, by kernel_rfl, by kernel_rfl, by kernel_rfl⟩⟩
def Xn137_1 : C := regL [0, 2] none [⟨some 2, .alc 182 (.agg #[.int .i64 0, .int .i64 0]), none⟩, ⟨some 3, .mv (.const (.bool false)), none⟩]
def Xn137_4 : C := regL [0, 2, 11] none [⟨some 6, .mv (.tmp 0), none⟩, ⟨some 7, .nilc (.tmp 6), none⟩, ⟨some 8, .fa 0 (.tmp 7), none⟩, ⟨some 9, .ld 176 1 false (.tmp 8), none⟩, ⟨some 10, .len (.tmp 9), none⟩, ⟨some 11, .bin 3 .eql (.tmp 10) (.const (.int .i64 0)), none⟩]
def Xn137_7 : C := regL [2, 3] none [⟨some 12, .bld (.agg #[.int .i64 0, .int .i64 0]) [], none⟩, ⟨none, .st 182 2 (.tmp 2) (.tmp 12), none⟩, ⟨some 3, .mv (.const (.bool false)), none⟩]
def Xn137_6 : C := .seq Xn137_7 .ret
def Xn137_5 : C := .cond (.tmp 11) Xn137_6 .skip
def Xn137_3 : C := .seq Xn137_4 Xn137_5
def Xn137_11 : C := regL [0, 2, 4] none [⟨some 13, .mv (.tmp 0), none⟩, ⟨some 14, .nilc (.tmp 13), none⟩, ⟨some 15, .fa 0 (.tmp 14), none⟩, ⟨some 16, .ld 176 1 false (.tmp 15), none⟩, ⟨some 17, .call 139 [.tmp 16, .func 140], none⟩, ⟨some 4, .alc 182 (.agg #[.int .i64 0, .int .i64 0]), none⟩, ⟨none, .st 182 2 (.tmp 4) (.tmp 17), none⟩]
def Xn137_13 : C := regL [0, 2, 4, 5] (some [0, 1, 3, 7, 0, 31, 63]) [⟨some 18, .mv (.tmp 0), none⟩, ⟨some 19, .nilc (.tmp 18), none⟩, ⟨some 20, .fa 0 (.tmp 19), none⟩, ⟨some 21, .ld 176 1 false (.tmp 20), none⟩, ⟨some 22, .ld 182 2 true (.tmp 4), none⟩, ⟨some 23, .call 141 [.tmp 21, .tmp 22], none⟩, ⟨some 5, .mv (.tmp 23), none⟩]
def Xn137_15 : C := regL [2, 4] none [⟨some 24, .mv (.tmp 0), none⟩, ⟨some 25, .mv (.tmp 0), none⟩, ⟨some 26, .nilc (.tmp 25), none⟩, ⟨some 27, .fa 0 (.tmp 26), none⟩, ⟨some 28, .ld 176 1 false (.tmp 27), none⟩, ⟨some 29, .mv (.tmp 5), none⟩, ⟨some 30, .mv (.tmp 5), none⟩, ⟨some 31, .bin 3 .add (.tmp 30) (.const (.int .i64 1)), none⟩, ⟨some 32, .call 142 [.tmp 28, .tmp 29, .tmp 31], none⟩, ⟨some 33, .nilc (.tmp 24), none⟩, ⟨some 34, .fa 0 (.tmp 33), none⟩, ⟨none, .st 176 1 (.tmp 34) (.tmp 32), none⟩]
def Xn137_17 : C := regL [2, 3] none [⟨some 35, .ld 182 2 true (.tmp 4), none⟩, ⟨none, .st 182 2 (.tmp 2) (.tmp 35), none⟩, ⟨some 3, .mv (.const (.bool true)), none⟩]
def Xn137_16 : C := .seq Xn137_17 .ret
def Xn137_14 : C := .seq Xn137_15 Xn137_16
def Xn137_12 : C := .seq Xn137_13 Xn137_14
def Xn137_10 : C := .seq Xn137_11 Xn137_12
def Xn137_2 : C := seqL [0, 2] Xn137_3 Xn137_10
def Xn137_0 : C := .seq Xn137_1 Xn137_2
theorem Xt137 : Text Try.prog 137 Xn137_0 36 1 [.c 2 2 true, .t 3] := ⟨⟨Try.f137, [], Try.func137, by kernel_rfl, by kernel_rfl, by kernel_rfl, by kernel_rfl⟩⟩
def Xn138_1 : C := regL [0, 1] none [⟨some 4, .mv (.const (.int .i64 0)), none⟩]
def Xn138_4 : C := regL [0, 1, 7, 8] none [⟨some 6, .mv (.tmp 0), none⟩, ⟨some 7, .len (.tmp 6), none⟩, ⟨some 8, .mv (.const (.int .i64 0)), none⟩]
def Xn138_8 : C := regL [0, 1, 7, 8, 9] none [⟨some 9, .bin 3 .lss (.tmp 8) (.tmp 7), none⟩]
def Xn138_10 : C := .cond (.tmp 9) .skip (.exit 0)
def Xn138_16 : C := regL [0, 1, 5, 7, 8] none [⟨some 10, .mv (.tmp 8), none⟩, ⟨some 5, .mv (.tmp 10), none⟩]
def Xn138_18 : C := regL [0, 1, 5, 7, 8, 16] none [⟨some 11, .mv (.tmp 1), none⟩, ⟨some 12, .mv (.tmp 0), none⟩, ⟨some 13, .mv (.tmp 5), none⟩, ⟨some 14, .ia 1 (.tmp 12) (.tmp 13), none⟩, ⟨some 15, .ld 3 1 false (.tmp 14), none⟩, ⟨some 16, .bin 3 .eql (.tmp 11) (.tmp 15), none⟩]
def Xn138_21 : C := regL [4] none [⟨some 17, .mv (.tmp 5), none⟩, ⟨some 4, .mv (.tmp 17), none⟩]
def Xn138_20 : C := .seq Xn138_21 .ret
def Xn138_19 : C := .cond (.tmp 16) Xn138_20 .skip
def Xn138_17 : C := .seq Xn138_18 Xn138_19
def Xn138_15 : C := .seq Xn138_16 Xn138_17
def Xn138_14 : C := .block 1 Xn138_15
def Xn138_24 : C := regL [0, 1, 7, 8] none [⟨some 18, .bin 3 .add (.tmp 8) (.const (.int .i64 1)), none⟩, ⟨some 8, .mv (.tmp 18), none⟩]
def Xn138_13 : C := seqL [0, 1, 7, 8] Xn138_14 Xn138_24
def Xn138_9 : C := seqL [0, 1, 7, 8] Xn138_10 Xn138_13
def Xn138_7 : C := .seq Xn138_8 Xn138_9
def Xn138_6 : C := loopL [0, 1, 7, 8] Xn138_7
def Xn138_5 : C := .block 0 Xn138_6
def Xn138_3 : C := .seq Xn138_4 Xn138_5
def Xn138_26 : C := regL [4] none [⟨some 4, .mv (.const (.int .i64 (-1))), none⟩]
def Xn138_25 : C := .seq Xn138_26 .ret
def Xn138_2 : C := seqL [] Xn138_3 Xn138_25
def Xn138_0 : C := .seq Xn138_1 Xn138_2
theorem Xt138 : Text Try.prog 138 Xn138_0 19 2 [.t 4] := ⟨⟨Try.f138, [], Try.func138, by kernel_rfl, by kernel_rfl, by kernel_rfl, by kernel_rfl⟩⟩
def Xn139_1 : C := regL [0, 1, 4] none [⟨some 4, .alc 182 (.agg #[.int .i64 0, .int .i64 0]), none⟩]
def Xn139_4 : C := regL [0, 1, 4, 9] none [⟨some 7, .mv (.tmp 0), none⟩, ⟨some 8, .len (.tmp 7), none⟩, ⟨some 9, .bin 3 .lss (.tmp 8) (.const (.int .i64 1)), none⟩]
def Xn139_6 : C := regL [0, 1, 4] none [⟨some 10, .dead, none⟩, ⟨none, .dead, none⟩]
def Xn139_5 : C := .cond (.tmp 9) Xn139_6 .skip
def Xn139_3 : C := .seq Xn139_4 Xn139_5
def Xn139_9 : C := regL [0, 1, 4, 5] none [⟨some 11, .mv (.tmp 0), none⟩, ⟨some 12, .ia 2 (.tmp 11) (.const (.int .i64 0)), none⟩, ⟨some 13, .ld 182 2 true (.tmp 12), none⟩, ⟨some 5, .alc 182 (.agg #[.int .i64 0, .int .i64 0]), none⟩, ⟨none, .st 182 2 (.tmp 5) (.tmp 13), none⟩]
def Xn139_12 : C := regL [0, 1, 4, 5, 6] none [⟨some 6, .mv (.const (.int .i64 1)), none⟩]
def Xn139_17 : C := regL [0, 1, 4, 5, 6, 17] none [⟨some 14, .mv (.tmp 6), none⟩, ⟨some 15, .mv (.tmp 0), none⟩, ⟨some 16, .len (.tmp 15), none⟩, ⟨some 17, .bin 3 .lss (.tmp 14) (.tmp 16), none⟩]
def Xn139_18 : C := .cond (.tmp 17) .skip (.exit 0)
def Xn139_16 : C := .seq Xn139_17 Xn139_18
def Xn139_24 : C := regL [0, 1, 4, 5, 6, 27] (some [0, 0, 0, 6, 14, 0, 63, 127]) [⟨some 20, .mv (.tmp 1), none⟩, ⟨some 21, .mv (.tmp 0), none⟩, ⟨some 22, .mv (.tmp 6), none⟩, ⟨some 23, .ia 2 (.tmp 21) (.tmp 22), none⟩, ⟨some 24, .ld 182 2 true (.tmp 23), none⟩, ⟨some 25, .ld 182 2 true (.tmp 5), none⟩, ⟨some 26, .callv (.tmp 20) [.tmp 24, .tmp 25], none⟩, ⟨some 27, .bin 3 .lss (.tmp 26) (.const (.int .i64 0)), none⟩]
def Xn139_26 : C := regL [0, 1, 4, 5, 6] none [⟨some 28, .mv (.tmp 0), none⟩, ⟨some 29, .mv (.tmp 6), none⟩, ⟨some 30, .ia 2 (.tmp 28) (.tmp 29), none⟩, ⟨some 31, .ld 182 2 true (.tmp 30), none⟩, ⟨none, .st 182 2 (.tmp 5) (.tmp 31), none⟩]
def Xn139_25 : C := .cond (.tmp 27) Xn139_26 .skip
def Xn139_23 : C := .seq Xn139_24 Xn139_25
def Xn139_22 : C := .block 1 Xn139_23
def Xn139_28 : C := regL [0, 1, 4, 5, 6] none [⟨some 18, .mv (.tmp 6), none⟩, ⟨some 19, .bin 3 .add (.tmp 18) (.const (.int .i64 1)), none⟩, ⟨some 6, .mv (.tmp 19), none⟩]
def Xn139_21 : C := seqL [0, 1, 4, 5, 6] Xn139_22 Xn139_28
def Xn139_15 : C := seqL [0, 1, 4, 5, 6] Xn139_16 Xn139_21
def Xn139_14 : C := loopL [0, 1, 4, 5, 6] Xn139_15
def Xn139_13 : C := .block 0 Xn139_14
def Xn139_11 : C := .seq Xn139_12 Xn139_13
def Xn139_30 : C := regL [4] none [⟨some 32, .ld 182 2 true (.tmp 5), none⟩, ⟨none, .st 182 2 (.tmp 4) (.tmp 32), none⟩]
def Xn139_29 : C := .seq Xn139_30 .ret
def Xn139_10 : C := seqL [4, 5] Xn139_11 Xn139_29
def Xn139_8 : C := .seq Xn139_9 Xn139_10
def Xn139_2 : C := seqL [0, 1, 4] Xn139_3 Xn139_8
def Xn139_0 : C := .seq Xn139_1 Xn139_2
theorem Xt139 : Text Try.prog 139 Xn139_0 33 2 [.c 4 2 true] := ⟨⟨Try.f139, [], Try.func139, by kernel_rfl, by kernel_rfl, by kernel_rfl, by kernel_rfl⟩⟩
def Xn140_1 : C := regL [2, 3] none [⟨some 2, .box true 182 (.tmp 0), none⟩, ⟨some 3, .box true 182 (.tmp 1), none⟩, ⟨some 4, .mv (.const (.int .i64 0)), none⟩]
def Xn140_3 : C := regL [4] none [⟨some 5, .fa 1 (.tmp 2), none⟩, ⟨some 6, .ld 2 1 false (.tmp 5), none⟩, ⟨some 7, .fa 1 (.tmp 3), none⟩, ⟨some 8, .ld 2 1 false (.tmp 7), none⟩, ⟨some 9, .bin 2 .sub (.tmp 6) (.tmp 8), none⟩, ⟨some 4, .mv (.tmp 9), none⟩]
def Xn140_2 : C := .seq Xn140_3 .ret
def Xn140_0 : C := .seq Xn140_1 Xn140_2
theorem Xt140 : Text Try.prog 140 Xn140_0 10 2 [.t 4] := ⟨⟨Try.f140, [2, 3], Try.func140, by kernel_rfl, by kernel_rfl, by kernel_rfl, by kernel_rfl⟩⟩
def Xn141_1 : C := regL [0, 3] none [⟨some 3, .box true 182 (.tmp 1), none⟩, ⟨some 4, .mv (.const (.int .i64 0)), none⟩]
def Xn141_4 : C := regL [0, 3, 7, 8] none [⟨some 6, .mv (.tmp 0), none⟩, ⟨some 7, .len (.tmp 6), none⟩, ⟨some 8, .mv (.const (.int .i64 0)), none⟩]
def Xn141_8 : C := regL [0, 3, 7, 8, 9] none [⟨some 9, .bin 3 .lss (.tmp 8) (.tmp 7), none⟩]
def Xn141_10 : C := .cond (.tmp 9) .skip (.exit 0)
def Xn141_16 : C := regL [0, 3, 5, 7, 8] none [⟨some 10, .mv (.tmp 8), none⟩, ⟨some 5, .mv (.tmp 10), none⟩]
def Xn141_18 : C := regL [0, 3, 5, 7, 8, 16] (some [0, 0, 0, 6, 14, 31]) [⟨some 11, .ld 182 2 true (.tmp 3), none⟩, ⟨some 12, .mv (.tmp 0), none⟩, ⟨some 13, .mv (.tmp 5), none⟩, ⟨some 14, .ia 2 (.tmp 12) (.tmp 13), none⟩, ⟨some 15, .ld 182 2 true (.tmp 14), none⟩, ⟨some 16, .eqb 5 false (.tmp 11) (.tmp 15), none⟩]
def Xn141_21 : C := regL [4] none [⟨some 17, .mv (.tmp 5), none⟩, ⟨some 4, .mv (.tmp 17), none⟩]
def Xn141_20 : C := .seq Xn141_21 .ret
def Xn141_19 : C := .cond (.tmp 16) Xn141_20 .skip
def Xn141_17 : C := .seq Xn141_18 Xn141_19
def Xn141_15 : C := .seq Xn141_16 Xn141_17
def Xn141_14 : C := .block 1 Xn141_15
def Xn141_24 : C := regL [0, 3, 7, 8] none [⟨some 18, .bin 3 .add (.tmp 8) (.const (.int .i64 1)), none⟩, ⟨some 8, .mv (.tmp 18), none⟩]
def Xn141_13 : C := seqL [0, 3, 7, 8] Xn141_14 Xn141_24
def Xn141_9 : C := seqL [0, 3, 7, 8] Xn141_10 Xn141_13
def Xn141_7 : C := .seq Xn141_8 Xn141_9
def Xn141_6 : C := loopL [0, 3, 7, 8] Xn141_7
def Xn141_5 : C := .block 0 Xn141_6
def Xn141_3 : C := .seq Xn141_4 Xn141_5
def Xn141_26 : C := regL [4] none [⟨some 4, .mv (.const (.int .i64 (-1))), none⟩]
def Xn141_25 : C := .seq Xn141_26 .ret
def Xn141_2 : C := seqL [] Xn141_3 Xn141_25
def Xn141_0 : C := .seq Xn141_1 Xn141_2
theorem Xt141 : Text Try.prog 141 Xn141_0 19 2 [.t 4] := ⟨⟨Try.f141, [3], Try.func141, by kernel_rfl, by kernel_rfl, by kernel_rfl, by kernel_rfl⟩⟩
end Go.Proofs.Ytfbdlmenhoagmaa

namespace Go.Proofs.Ytfbdlmenhoagmaa
set_option linter.unusedVariables false
structure Edg where
  x : Nat
  y : Nat
  c : Int
abbrev far : Int := 1125899906842624
abbrev gi (l : List Int) (i : Nat) : Int := l.getD i 0
def stp (o : List Int) (e : Edg) : List Int := if 0 ≤ e.c ∧ gi o e.x < far ∧ gi o e.x + e.c < gi o e.y then o.set e.y (gi o e.x + e.c) else o
def pas (o : List Int) (es : List Edg) : List Int := es.foldl stp o
inductive Wk (es : List Edg) (s : Nat) : Nat → Int → Prop
  | nil : Wk es s s 0
  | snoc {e : Edg} {d : Int} : Wk es s e.x d → e ∈ es → 0 ≤ e.c → Wk es s e.y (d + e.c)
theorem Wk.mono {es fs : List Edg} {s y : Nat} {d : Int} (h : Wk es s y d) (hf : ∀ e ∈ es, 0 ≤ e.c → e ∈ fs) : Wk fs s y d := by
  induction h with
  | nil => exact .nil
  | snoc _ h2 h3 ih => exact .snoc ih (hf _ h2 h3) h3
theorem Wk.nn {es : List Edg} {s y : Nat} {d : Int} (h : Wk es s y d) : 0 ≤ d := by
  induction h with
  | nil => exact Int.le_refl _
  | snoc _ _ h3 ih => omega
theorem stp_len (o : List Int) (e : Edg) : (stp o e).length = o.length := by
  unfold stp
  split <;> simp
theorem gi_set {o : List Int} {j i : Nat} {v : Int} (hj : j < o.length) : gi (o.set j v) i = if i = j then v else gi o i := by
  simp only [gi, List.getD_eq_getElem?_getD, List.getElem?_set]
  by_cases q : i = j
  · subst q; simp [hj]
  · rw [if_neg (fun e => q e.symm), if_neg q]
structure Dst (es : List Edg) (s n : Nat) (o : List Int) : Prop where
  len : o.length = n
  src : gi o s = 0
  ach : ∀ y, y < n → gi o y = far ∨ (gi o y < far ∧ Wk es s y (gi o y))
theorem Dst.le {es : List Edg} {s n : Nat} {o : List Int} (h : Dst es s n o) {y : Nat} (hy : y < n) : 0 ≤ gi o y ∧ gi o y ≤ far := by
  rcases h.ach y hy with h1 | ⟨h1, h2⟩
  · rw [h1]; exact ⟨by decide, Int.le_refl _⟩
  · exact ⟨h2.nn, by omega⟩
theorem stp_dst {es : List Edg} {s n : Nat} {o : List Int} (h : Dst es s n o) {e : Edg} (he : e ∈ es) (hx : e.x < n) (hy : e.y < n) : Dst es s n (stp o e) := by
  unfold stp
  split
  · rename_i q
    obtain ⟨q1, q2, q3⟩ := q
    have hlen := h.len
    have hl : e.y < o.length := by omega
    have hyl := (h.le hy).2
    have hx0 := (h.le hx).1
    refine ⟨by rw [List.length_set]; exact h.len, ?_, fun y hyn => ?_⟩
    · rw [gi_set hl]
      split
      · rename_i r
        rw [← r, h.src] at q3; omega
      · exact h.src
    · rw [gi_set hl]
      split
      · rename_i r
        subst r
        rcases h.ach e.x hx with h1 | ⟨h1, h2⟩
        · omega
        · exact .inr ⟨by omega, .snoc h2 he q1⟩
      · exact h.ach y hyn
  · exact h
theorem pas_dst {es : List Edg} {s n : Nat} (hr : ∀ e ∈ es, e.x < n ∧ e.y < n) : ∀ (fs : List Edg) (o : List Int), (∀ e ∈ fs, e ∈ es) → Dst es s n o → Dst es s n (pas o fs)
  | [], o, _, h => h
  | e :: fs, o, hs, h => pas_dst hr fs (stp o e) (fun x hx => hs x (List.mem_cons_of_mem _ hx)) (stp_dst h (hs e List.mem_cons_self) (hr e (hs e List.mem_cons_self)).1 (hr e (hs e List.mem_cons_self)).2)
def Fix (es : List Edg) (o : List Int) : Prop := ∀ e ∈ es, 0 ≤ e.c → gi o e.x < far → gi o e.y ≤ gi o e.x + e.c
theorem fix_le {es : List Edg} {s n : Nat} {o : List Int} (hr : ∀ e ∈ es, e.x < n ∧ e.y < n) (h : Dst es s n o) (hf : Fix es o) {y : Nat} {d : Int} (hw : Wk es s y d) : gi o y ≤ d := by
  induction hw with
  | nil => rw [h.src]; exact Int.le_refl _
  | snoc h1 h2 h3 ih =>
    rename_i e d'
    have hy := (h.le (hr e h2).2).2
    by_cases q : gi o e.x < far
    · have := hf e h2 h3 q; omega
    · omega
theorem dist_le {es fs : List Edg} {s n : Nat} {o u : List Int} (hr : ∀ e ∈ fs, e.x < n ∧ e.y < n) (h : Dst es s n o) (h2 : Dst fs s n u) (hf : Fix fs u) (hs : ∀ e ∈ es, 0 ≤ e.c → e ∈ fs) {y : Nat} (hy : y < n) : gi u y ≤ gi o y := by
  rcases h.ach y hy with h1 | ⟨h1, hw⟩
  · rw [h1]; exact (h2.le hy).2
  · exact fix_le hr h2 hf (hw.mono hs)
theorem dist_eq {es : List Edg} {s n : Nat} {o u : List Int} (hr : ∀ e ∈ es, e.x < n ∧ e.y < n) (h : Dst es s n o) (hf : Fix es o) (h2 : Dst es s n u) (hf2 : Fix es u) {y : Nat} (hy : y < n) : gi u y = gi o y := by
  have := dist_le hr h h2 hf2 (fun e he _ => he) hy
  have := dist_le hr h2 h hf (fun e he _ => he) hy
  omega
def tot : List Int → Int
  | [] => 0
  | x :: l => x + tot l
theorem tot_set : ∀ (l : List Int) (j : Nat) (v : Int), j < l.length → tot (l.set j v) = tot l - gi l j + v
  | [], j, v, h => by simp at h
  | x :: l, 0, v, h => by simp [tot, gi]; omega
  | x :: l, j + 1, v, h => by
    have ih := tot_set l j v (by simpa using h)
    simp only [List.set_cons_succ, tot, ih]
    simp [gi]
    omega
theorem tot_nn : ∀ (l : List Int), (∀ j, j < l.length → 0 ≤ gi l j) → 0 ≤ tot l
  | [], _ => Int.le_refl _
  | x :: l, h => by
    have h0 := h 0 (by simp)
    have ih := tot_nn l (fun j hj => by simpa [gi] using h (j + 1) (by simpa using hj))
    simp only [tot]
    simp [gi] at h0
    omega
end Go.Proofs.Ytfbdlmenhoagmaa

namespace Go.Proofs.Ytfbdlmenhoagmaa
set_option linter.unusedVariables false
def inR (x lo hi : Int) : Bool := decide (lo ≤ x) && decide (x ≤ hi)
theorem inR_iff {x lo hi : Int} : inR x lo hi = true ↔ lo ≤ x ∧ x ≤ hi := by unfold inR; rw [Bool.and_eq_true, decide_eq_true_eq, decide_eq_true_eq]
structure Rd where
  f : Int
  t : Int
  c : Int
  m : Int
  o : Int
  z : Int
  l0 : Int
  l1 : Int
  l2 : Int
  l3 : Int
  l4 : Int
  l5 : Int
structure Wrk where
  rs : List Int
  k : Int
  l : Int
  c : Int
structure Mp where
  n : Int
  rs : List Rd
  ws : List Wrk
def dR : Rd := ⟨0, 0, 0, 0, 0, 0, 0, 0, 0, 0, 0, 0⟩
def dW : Wrk := ⟨[], 0, 0, 0⟩
def Rd.lim (r : Rd) : Nat → Int
  | 0 => r.l0
  | 1 => r.l1
  | 2 => r.l2
  | 3 => r.l3
  | 4 => r.l4
  | _ => r.l5
abbrev gr (m : Mp) (i : Nat) : Rd := m.rs.getD i dR
abbrev gw (m : Mp) (i : Nat) : Wrk := m.ws.getD i dW
def lastI (l : List Int) (i : Nat) : Int := if i = 0 then -1 else gi l (i - 1)
def okAt (l : List Int) (n : Int) (i : Nat) : Bool := decide (lastI l i < gi l i) && decide (gi l i < n)
def setB (l : List Int) (n : Int) : Bool := (List.range l.length).all (okAt l n)
def szB (f : Nat → Int) : Bool := (List.range 6).all fun k => inR (f k) 0 1073741824
def hrsB (r : Rd) : Bool := decide (0 ≤ r.o) && decide (r.o < r.z) && decide (r.z ≤ 1440) && inR r.m 1 (min 1440 (r.z - r.o))
def plB (n x : Int) : Bool := decide (0 ≤ x) && decide (x < n)
def roadB (n : Int) (r : Rd) : Bool := plB n r.f && plB n r.t && !(r.f == r.t) && inR r.c 1 1073741824 && hrsB r && szB r.lim
def workB (nr : Int) (w : Wrk) : Bool := decide (0 < w.rs.length) && setB w.rs nr && decide (0 ≤ w.k) && decide (w.k ≤ 5) && inR w.l 0 1073741824 && inR w.c 1 1073741824
def manyB (m : Mp) : Bool := decide (256 < m.rs.length) || decide (10 < m.ws.length) || m.ws.any fun w => decide (16 < w.rs.length)
def badM (m : Mp) : Bool := decide (m.n < 1) || decide (64 < m.n) || m.rs.any (fun r => !roadB m.n r) || m.ws.any fun w => !workB m.rs.length w
def chkM (m : Mp) : Int := if manyB m = true then 6 else if badM m = true then 2 else 0
structure OkM (m : Mp) : Prop where
  nr : m.rs.length ≤ 256
  nw : m.ws.length ≤ 10
  n : 1 ≤ m.n ∧ m.n ≤ 64
  r : ∀ i, i < m.rs.length → roadB m.n (gr m i) = true
  w : ∀ i, i < m.ws.length → workB m.rs.length (gw m i) = true
  s : ∀ i, i < m.ws.length → (gw m i).rs.length ≤ 16
theorem getD_mem' {α : Type} (d : α) (l : List α) (i : Nat) (h : i < l.length) : l.getD i d ∈ l := by
  simp [List.getD, h]
theorem chkM_ok {m : Mp} (h : chkM m = 0) : OkM m := by
  unfold chkM at h
  by_cases h1 : manyB m = true
  · rw [if_pos h1] at h; omega
  rw [if_neg h1] at h
  by_cases h2 : badM m = true
  · rw [if_pos h2] at h; omega
  unfold manyB at h1
  unfold badM at h2
  simp only [Bool.or_eq_true, decide_eq_true_eq, List.any_eq_true, not_or, not_exists, not_and, Bool.not_eq_true', Bool.not_eq_false] at h1 h2
  obtain ⟨⟨a1, a2⟩, a3⟩ := h1
  obtain ⟨⟨⟨b1, b2⟩, b3⟩, b4⟩ := h2
  exact ⟨by omega, by omega, by omega, fun i hi => b3 _ (getD_mem' dR _ i hi), fun i hi => b4 _ (getD_mem' dW _ i hi), fun i hi => by have := a3 _ (getD_mem' dW _ i hi); unfold gw; omega⟩
structure OkR (n : Int) (r : Rd) : Prop where
  f : 0 ≤ r.f ∧ r.f < n
  t : 0 ≤ r.t ∧ r.t < n
  ne : r.f ≠ r.t
  c : 1 ≤ r.c ∧ r.c ≤ 1073741824
  o : 0 ≤ r.o ∧ r.o < r.z ∧ r.z ≤ 1440
  m : 1 ≤ r.m ∧ r.m ≤ 1440 ∧ r.m ≤ r.z - r.o
  l : ∀ k, 0 ≤ r.lim k ∧ r.lim k ≤ 1073741824
theorem szB_iff {f : Nat → Int} : szB f = true ↔ ∀ k, k < 6 → 0 ≤ f k ∧ f k ≤ 1073741824 := by
  unfold szB
  rw [List.all_eq_true]
  constructor
  · intro h k hk
    exact inR_iff.1 (h k (List.mem_range.2 hk))
  · intro h k hk
    exact inR_iff.2 (h k (List.mem_range.1 hk))
theorem lim_five (r : Rd) (k : Nat) : r.lim k = r.lim (min k 5) := by
  rcases k with _ | _ | _ | _ | _ | k <;> first | rfl | (rw [show min (k + 1 + 1 + 1 + 1 + 1) 5 = 5 by omega]; rfl)
theorem roadB_ok {n : Int} {r : Rd} (h : roadB n r = true) : OkR n r := by
  unfold roadB plB hrsB at h
  simp only [Bool.and_eq_true, decide_eq_true_eq, Bool.not_eq_true', beq_eq_false_iff_ne, inR_iff] at h
  obtain ⟨⟨⟨⟨⟨h1, h2⟩, h3⟩, h4⟩, h5⟩, h6⟩ := h
  have h7 := szB_iff.1 h6
  exact ⟨h1, h2, h3, h4, by omega, by omega, fun k => by rw [lim_five]; exact h7 _ (by omega)⟩
structure OkW (nr : Int) (w : Wrk) : Prop where
  s : setB w.rs nr = true
  k : 0 ≤ w.k ∧ w.k ≤ 5
  l : 0 ≤ w.l ∧ w.l ≤ 1073741824
  c : 1 ≤ w.c ∧ w.c ≤ 1073741824
theorem workB_ok {nr : Int} {w : Wrk} (h : workB nr w = true) : OkW nr w := by
  unfold workB at h
  simp only [Bool.and_eq_true, decide_eq_true_eq, inR_iff] at h
  obtain ⟨⟨⟨⟨⟨h1, h2⟩, h3⟩, h4⟩, h5⟩, h6⟩ := h
  exact ⟨h2, ⟨h3, h4⟩, h5, h6⟩
def Srt (n : Int) : Int → List Int → Prop
  | _, [] => True
  | lo, x :: l => lo ≤ x ∧ x < n ∧ Srt n (x + 1) l
theorem Srt.mem {n lo : Int} : ∀ {l : List Int}, Srt n lo l → ∀ x ∈ l, lo ≤ x ∧ x < n
  | [], _, x, hx => by cases hx
  | y :: l, h, x, hx => by
    obtain ⟨h1, h2, h3⟩ := h
    rcases List.mem_cons.1 hx with rfl | hx
    · exact ⟨h1, h2⟩
    · have := Srt.mem h3 x hx; omega
theorem Srt.len {n lo : Int} : ∀ {l : List Int}, Srt n lo l → lo ≤ n → (l.length : Int) ≤ n - lo
  | [], _, h => by simp; omega
  | y :: l, hs, h => by
    have := Srt.len hs.2.2 (by have := hs.2.1; omega)
    have := hs.1
    simp only [List.length_cons]
    omega
theorem Srt.snoc {n x : Int} : ∀ {l : List Int} {lo : Int}, Srt n lo l → lo ≤ x → x < n → (∀ y ∈ l, y < x) → Srt n lo (l ++ [x])
  | [], lo, _, h1, h2, _ => ⟨h1, h2, trivial⟩
  | y :: l, lo, h, h1, h2, h3 => ⟨h.1, h.2.1, Srt.snoc h.2.2 (by have := h3 y List.mem_cons_self; omega) h2 (fun z hz => h3 z (List.mem_cons_of_mem _ hz))⟩
def pre (l : List Int) (i : Nat) : List Int := l.filter (fun x => decide (x < i))
theorem pre_zero {n : Int} {l : List Int} (h : Srt n 0 l) : pre l 0 = [] := by
  unfold pre
  rw [List.filter_eq_nil_iff]
  intro x hx
  have := h.mem x hx
  simp; omega
theorem pre_all {l : List Int} {i : Nat} (h : ∀ x ∈ l, x < i) : pre l i = l := by
  unfold pre
  rw [List.filter_eq_self]
  intro x hx
  simpa using h x hx
theorem pre_succ {n : Int} {i : Nat} : ∀ {l : List Int} {lo : Int}, Srt n lo l → pre l (i + 1) = pre l i ++ (if (i : Int) ∈ l then [(i : Int)] else [])
  | [], _, _ => by simp [pre]
  | y :: l, lo, h => by
    obtain ⟨h1, h2, h3⟩ := h
    have ih := pre_succ (i := i) h3
    have hm := h3.mem
    unfold pre at ih ⊢
    rw [List.filter_cons, List.filter_cons, ih]
    by_cases c1 : y < i
    · have e1 : decide (y < ((i + 1 : Nat) : Int)) = true := decide_eq_true (by omega)
      have e2 : decide (y < (i : Int)) = true := decide_eq_true c1
      rw [if_pos e1, if_pos e2]
      by_cases c2 : (i : Int) ∈ l
      · rw [if_pos c2, if_pos (List.mem_cons_of_mem _ c2)]; rfl
      · rw [if_neg c2, if_neg (fun q => by
          rcases List.mem_cons.1 q with q | q
          · omega
          · exact c2 q)]
        simp
    · have hl : l.filter (fun x => decide (x < (i : Int))) = [] := by
        rw [List.filter_eq_nil_iff]
        intro x hx
        have := hm x hx
        simp; omega
      have c2 : (i : Int) ∉ l := fun q => by have := hm _ q; omega
      rw [if_neg c2, hl]
      by_cases c3 : y = i
      · have e1 : decide (y < ((i + 1 : Nat) : Int)) = true := decide_eq_true (by omega)
        have e2 : ¬ decide (y < (i : Int)) = true := by rw [decide_eq_true_eq]; exact c1
        rw [if_pos e1, if_neg e2, if_pos (by rw [c3]; exact List.mem_cons_self)]
        simp [c3]
      · have e1 : ¬ decide (y < ((i + 1 : Nat) : Int)) = true := by rw [decide_eq_true_eq]; omega
        have e2 : ¬ decide (y < (i : Int)) = true := by rw [decide_eq_true_eq]; exact c1
        rw [if_neg e1, if_neg e2, if_neg (fun q => by
          rcases List.mem_cons.1 q with q | q
          · exact c3 q.symm
          · exact c2 q)]
structure BitsOf (s : Nat) (l : List Int) : Prop where
  b : ∀ i : Nat, s.testBit i = decide ((i : Int) ∈ l)
theorem bits_nil : BitsOf 0 [] := ⟨fun i => by simp⟩
theorem bits_snoc {s : Nat} {l : List Int} (h : BitsOf s l) (i : Nat) : BitsOf (s ||| 2 ^ i) (l ++ [(i : Int)]) := ⟨fun j => by
  rw [Nat.testBit_or, h.b, Nat.testBit_two_pow]
  by_cases q : i = j
  · subst q; simp
  · have : ¬ ((j : Int) = (i : Int)) := by omega
    simp [q, this]⟩
theorem bits_lt {s n : Nat} {l : List Int} (h : BitsOf s l) (hl : ∀ x ∈ l, x < n) : s < 2 ^ n := by
  apply Nat.lt_pow_two_of_testBit
  intro i hi
  rw [h.b]
  simp only [decide_eq_false_iff_not]
  intro q
  have := hl _ q
  omega
theorem bits_shr {s : Nat} {l : List Int} (h : BitsOf s l) (i : Nat) : s / 2 ^ i % 2 = if (i : Int) ∈ l then 1 else 0 := by
  have := h.b i
  rw [Nat.testBit_eq_decide_div_mod_eq] at this
  by_cases q : (i : Int) ∈ l
  · rw [if_pos q]
    rw [decide_eq_true q, decide_eq_true_eq] at this
    exact this
  · rw [if_neg q]
    rw [decide_eq_false q, decide_eq_false_iff_not] at this
    omega
theorem bits_end {s : Nat} {l : List Int} (h : BitsOf s l) (h0 : ∀ x ∈ l, 0 ≤ x) {i : Nat} (he : s / 2 ^ i = 0) : ∀ x ∈ l, x < i := by
  intro x hx
  apply Classical.byContradiction
  intro q
  have h1 := h.b x.toNat
  have e : ((x.toNat : Nat) : Int) = x := by have := h0 x hx; omega
  rw [e, decide_eq_true hx] at h1
  have h2 : s < 2 ^ i := by
    have := Nat.div_eq_zero_iff.1 he
    rcases this with h3 | h3
    · have := Nat.two_pow_pos i; omega
    · exact h3
  have := Nat.ge_two_pow_of_testBit h1
  have h3 : 2 ^ i ≤ 2 ^ x.toNat := Nat.pow_le_pow_right (by omega) (by omega)
  omega
theorem bits_more {s : Nat} {l : List Int} (h : BitsOf s l) {i : Nat} (he : s / 2 ^ i ≠ 0) (hn : ∀ x ∈ l, x < 10) : i < 10 := by
  have h1 := bits_lt (n := 10) h hn
  apply Classical.byContradiction
  intro q
  apply he
  rw [Nat.div_eq_zero_iff]
  right
  have : 2 ^ 10 ≤ 2 ^ i := Nat.pow_le_pow_right (by omega) (by omega)
  omega
def brn : Nat → List Int → Nat → List (List Int)
  | 0, _, _ => []
  | d + 1, l, i => ((l ++ [(i : Int)]) :: brn d (l ++ [(i : Int)]) (i + 1)) ++ brn d l (i + 1)
def setsM (n : Nat) : List (List Int) := [] :: brn n [] 0
theorem brn_srt {n : Nat} : ∀ (d : Nat) (l : List Int) (i : Nat), i + d = n → Srt n 0 l → (∀ y ∈ l, y < (i : Int)) → ∀ s ∈ brn d l i, Srt n 0 s
  | 0, _, _, _, _, _, s, hs => by cases hs
  | d + 1, l, i, hi, hl, hy, s, hs => by
    have h1 : Srt n 0 (l ++ [(i : Int)]) := hl.snoc (by omega) (by omega) hy
    have h2 : ∀ y ∈ l ++ [(i : Int)], y < ((i + 1 : Nat) : Int) := fun y hy' => by
      rcases List.mem_append.1 hy' with q | q
      · have := hy y q; omega
      · rw [List.mem_singleton] at q; omega
    simp only [brn, List.cons_append, List.mem_cons, List.mem_append] at hs
    rcases hs with rfl | hs | hs
    · exact h1
    · exact brn_srt d _ (i + 1) (by omega) h1 h2 s hs
    · exact brn_srt d l (i + 1) (by omega) hl (fun y q => by have := hy y q; omega) s hs
theorem sets_srt {n : Nat} : ∀ s ∈ setsM n, Srt n 0 s := by
  intro s hs
  rcases List.mem_cons.1 hs with rfl | hs
  · trivial
  · exact brn_srt n [] 0 (by omega) trivial (fun y hy => by cases hy) s hs
def lstep (f : List Int → Int) (ok : List Int → Bool) (b : Option (List Int × Int)) (x : List Int) : Option (List Int × Int) :=
  if ok x = true then (match b with
    | none => some (x, f x)
    | some (y, n) => if f x < n then some (x, f x) else some (y, n)) else b
def leastL (f : List Int → Int) (ok : List Int → Bool) (l : List (List Int)) : Option (List Int × Int) := l.foldl (lstep f ok) none
theorem leastL_snoc (f : List Int → Int) (ok : List Int → Bool) (l : List (List Int)) (x : List Int) : leastL f ok (l ++ [x]) = lstep f ok (leastL f ok l) x := by
  unfold leastL
  rw [List.foldl_append]; rfl
end Go.Proofs.Ytfbdlmenhoagmaa

namespace Go.Proofs.Ytfbdlmenhoagmaa
set_option linter.unusedVariables false
theorem stp_le (o : List Int) (e : Edg) (hy : e.y < o.length) (i : Nat) : gi (stp o e) i ≤ gi o i := by
  unfold stp
  split
  · rename_i q
    rw [gi_set hy]
    split
    · rename_i r; rw [r]; omega
    · exact Int.le_refl _
  · exact Int.le_refl _
theorem pas_le : ∀ (es : List Edg) (o : List Int), (∀ e ∈ es, e.y < o.length) → ∀ i, gi (pas o es) i ≤ gi o i
  | [], o, _, i => Int.le_refl _
  | e :: es, o, h, i => by
    have h1 := pas_le es (stp o e) (fun x hx => by rw [stp_len]; exact h x (List.mem_cons_of_mem _ hx)) i
    have h2 := stp_le o e (h e List.mem_cons_self) i
    show gi (pas (stp o e) es) i ≤ _
    omega
theorem pas_use : ∀ (es : List Edg) (o : List Int), (∀ e ∈ es, e.y < o.length) → ∀ e ∈ es, 0 ≤ e.c → gi o e.x < far → gi (pas o es) e.y ≤ gi o e.x + e.c
  | [], o, _, e, he, _, _ => by cases he
  | f :: es, o, h, e, he, hc, hf => by
    have hs : ∀ e ∈ es, e.y < (stp o f).length := fun x hx => by rw [stp_len]; exact h x (List.mem_cons_of_mem _ hx)
    show gi (pas (stp o f) es) e.y ≤ _
    rcases List.mem_cons.1 he with rfl | he
    · have h1 := pas_le es (stp o e) hs e.y
      have h2 : gi (stp o e) e.y ≤ gi o e.x + e.c := by
        unfold stp
        split
        · rw [gi_set (h e List.mem_cons_self), if_pos rfl]; exact Int.le_refl _
        · rename_i q
          by_cases z : gi o e.x + e.c < gi o e.y
          · exact absurd ⟨hc, hf, z⟩ q
          · omega
      omega
    · have h1 := stp_le o f (h f List.mem_cons_self) e.x
      have := pas_use es (stp o f) hs e he hc (by omega)
      omega
theorem stp_tot (o : List Int) (e : Edg) (hy : e.y < o.length) : tot (stp o e) ≤ tot o ∧ (tot (stp o e) = tot o → stp o e = o) := by
  unfold stp
  split
  · rename_i q
    rw [tot_set _ _ _ hy]
    exact ⟨by omega, fun r => by omega⟩
  · exact ⟨Int.le_refl _, fun _ => rfl⟩
theorem pas_tot : ∀ (es : List Edg) (o : List Int), (∀ e ∈ es, e.y < o.length) → tot (pas o es) ≤ tot o ∧ (tot (pas o es) = tot o → ∀ e ∈ es, stp o e = o)
  | [], o, _ => ⟨Int.le_refl _, fun _ e he => by cases he⟩
  | e :: es, o, h => by
    obtain ⟨h1, h2⟩ := stp_tot o e (h e List.mem_cons_self)
    obtain ⟨h3, h4⟩ := pas_tot es (stp o e) (fun x hx => by rw [stp_len]; exact h x (List.mem_cons_of_mem _ hx))
    show tot (pas (stp o e) es) ≤ _ ∧ (tot (pas (stp o e) es) = _ → _)
    refine ⟨by omega, fun q f hf => ?_⟩
    have e1 := h2 (by omega)
    rcases List.mem_cons.1 hf with rfl | hf
    · exact e1
    · have := h4 (by omega) f hf
      rwa [e1] at this
theorem pas_same : ∀ (es : List Edg) (o : List Int), (∀ e ∈ es, stp o e = o) → pas o es = o
  | [], o, _ => rfl
  | e :: es, o, h => by
    show pas (stp o e) es = o
    rw [h e List.mem_cons_self]
    exact pas_same es o (fun x hx => h x (List.mem_cons_of_mem _ hx))
theorem fix_stp {es : List Edg} {o : List Int} (hl : ∀ e ∈ es, e.y < o.length) (h : ∀ e ∈ es, stp o e = o) : Fix es o := by
  intro e he hc hf
  have h1 := h e he
  unfold stp at h1
  by_cases z : gi o e.x + e.c < gi o e.y
  · rw [if_pos ⟨hc, hf, z⟩] at h1
    have h2 : gi (o.set e.y (gi o e.x + e.c)) e.y = gi o e.y := by rw [h1]
    rw [gi_set (hl e he), if_pos rfl] at h2
    omega
  · omega
def ini (n s : Nat) : List Int := (List.replicate n far).set s 0
theorem ini_dst {es : List Edg} {n s : Nat} (hs : s < n) : Dst es s n (ini n s) := by
  have hl : s < (List.replicate n far).length := by rw [List.length_replicate]; exact hs
  have hg : ∀ i, gi (ini n s) i = if i = s then 0 else gi (List.replicate n far) i := fun i => gi_set hl
  refine ⟨by simp [ini], by rw [hg, if_pos rfl], fun y hy => ?_⟩
  by_cases q : y = s
  · right
    rw [hg, if_pos q, q]
    exact ⟨by decide, .nil⟩
  · left
    rw [hg, if_neg q]
    simp [gi, List.getD, hy]
theorem fix_exists {es : List Edg} {n s : Nat} (hr : ∀ e ∈ es, e.x < n ∧ e.y < n) : ∀ (k : Nat) (o : List Int), Dst es s n o → (tot o).toNat ≤ k → ∃ u, Dst es s n u ∧ Fix es u
  | 0, o, h, hk => by
    have hl : ∀ e ∈ es, e.y < o.length := fun e he => by rw [h.len]; exact (hr e he).2
    have hp := pas_dst hr es o (fun e he => he) h
    have h1 := pas_tot es o hl
    have h2 := tot_nn (pas o es) (fun j hj => (hp.le (by rw [hp.len] at hj; exact hj)).1)
    exact ⟨o, h, fix_stp hl (h1.2 (by omega))⟩
  | k + 1, o, h, hk => by
    have hl : ∀ e ∈ es, e.y < o.length := fun e he => by rw [h.len]; exact (hr e he).2
    have hp := pas_dst hr es o (fun e he => he) h
    have h1 := pas_tot es o hl
    have h2 := tot_nn (pas o es) (fun j hj => (hp.le (by rw [hp.len] at hj; exact hj)).1)
    by_cases q : tot (pas o es) = tot o
    · exact ⟨o, h, fix_stp hl (h1.2 q)⟩
    · exact fix_exists hr k (pas o es) hp (by omega)
def rnds (es : List Edg) (o : List Int) : Nat → List Int
  | 0 => o
  | k + 1 => pas (rnds es o k) es
theorem rnds_dst {es : List Edg} {n s : Nat} {o : List Int} (hr : ∀ e ∈ es, e.x < n ∧ e.y < n) (h : Dst es s n o) : ∀ k, Dst es s n (rnds es o k)
  | 0 => h
  | k + 1 => pas_dst hr es _ (fun e he => he) (rnds_dst hr h k)
theorem countP_lt {α : Type} {p q : α → Bool} : ∀ {l : List α}, (∀ z ∈ l, p z = true → q z = true) → (∃ x ∈ l, q x = true ∧ p x = false) → l.countP p < l.countP q
  | [], _, h => by obtain ⟨x, hx, _⟩ := h; cases hx
  | a :: l, hpq, h => by
    have hle : l.countP p ≤ l.countP q := List.countP_mono_left (fun z hz => hpq z (List.mem_cons_of_mem _ hz))
    rw [List.countP_cons, List.countP_cons]
    obtain ⟨x, hx, h1, h2⟩ := h
    rcases List.mem_cons.1 hx with rfl | hx
    · rw [h1, h2]; simp; omega
    · have := countP_lt (fun z hz => hpq z (List.mem_cons_of_mem _ hz)) ⟨x, hx, h1, h2⟩
      have h3 := hpq a List.mem_cons_self
      by_cases c : p a = true
      · rw [c, h3 c]; simp; omega
      · rw [if_neg c]
        split <;> omega
def rk (os : List Int) (n y : Nat) : Nat := (List.range n).countP (fun z => decide (gi os z < gi os y))
theorem rk_le (os : List Int) (n y : Nat) : rk os n y ≤ n := by
  have := List.countP_le_length (p := fun z => decide (gi os z < gi os y)) (l := List.range n)
  rwa [List.length_range] at this
theorem rk_lt {os : List Int} {n x y : Nat} (hx : x < n) (h : gi os x < gi os y) : rk os n x < rk os n y :=
  countP_lt (fun z hz q => by rw [decide_eq_true_eq] at q ⊢; omega) ⟨x, List.mem_range.2 hx, by rw [decide_eq_true_eq]; exact h, by rw [decide_eq_false_iff_not]; omega⟩
theorem last_road {es : List Edg} {s n : Nat} {os : List Int} (hr : ∀ e ∈ es, e.x < n ∧ e.y < n) (h : Dst es s n os) (hf : Fix es os) {y : Nat} (hy : y < n) (hl : gi os y < far) : y = s ∨ ∃ e ∈ es, e.y = y ∧ 0 ≤ e.c ∧ gi os y = gi os e.x + e.c := by
  rcases h.ach y hy with h1 | ⟨_, h1⟩
  · omega
  · generalize hd : gi os y = d at h1
    cases h1 with
    | nil => exact .inl rfl
    | snoc h2 h3 h4 =>
      rename_i e d' hl'
      right
      have h5 := fix_le hr h hf h2
      have h6 := hf e h3 h4 (by omega)
      exact ⟨e, h3, rfl, h4, by omega⟩
theorem rnds_final {es : List Edg} {s n : Nat} {os o : List Int} (hr : ∀ e ∈ es, e.x < n ∧ e.y < n) (hp : ∀ e ∈ es, 0 ≤ e.c → 1 ≤ e.c) (h : Dst es s n os) (hf : Fix es os) (ho : Dst es s n o) : ∀ (k y : Nat), y < n → rk os n y ≤ k → gi (rnds es o k) y = gi os y := by
  have hge : ∀ k y, y < n → gi os y ≤ gi (rnds es o k) y := fun k y hy => by
    have hd := rnds_dst hr ho k
    rcases hd.ach y hy with h1 | ⟨_, h1⟩
    · rw [h1]; exact (h.le hy).2
    · exact fix_le hr h hf h1
  intro k
  induction k with
  | zero =>
    intro y hy hk
    have hd := rnds_dst hr ho 0
    by_cases q : gi os y < far
    · rcases last_road hr h hf hy q with rfl | ⟨e, he, rfl, hc, h1⟩
      · rw [hd.src, h.src]
      · have := rk_lt (os := os) (hr e he).1 (y := e.y) (by have := hp e he hc; omega)
        omega
    · have := hge 0 y hy
      have := (hd.le hy).2
      omega
  | succ k ih =>
    intro y hy hk
    have hd := rnds_dst hr ho (k + 1)
    have hdk := rnds_dst hr ho k
    by_cases q : gi os y < far
    · rcases last_road hr h hf hy q with rfl | ⟨e, he, rfl, hc, h1⟩
      · rw [hd.src, h.src]
      · have hc1 := hp e he hc
        have h2 := rk_lt (os := os) (hr e he).1 (y := e.y) (by omega)
        have h3 := ih e.x (hr e he).1 (by omega)
        have h4 := pas_use es (rnds es o k) (fun e he => by rw [hdk.len]; exact (hr e he).2) e he hc (by omega)
        have h5 := hge (k + 1) e.y hy
        have h6 : gi (rnds es o (k + 1)) e.y = gi (pas (rnds es o k) es) e.y := rfl
        omega
    · have := hge (k + 1) y hy
      have := (hd.le hy).2
      omega
theorem rnds_fix {es : List Edg} {s n : Nat} {o : List Int} (hr : ∀ e ∈ es, e.x < n ∧ e.y < n) (hp : ∀ e ∈ es, 0 ≤ e.c → 1 ≤ e.c) (ho : Dst es s n o) : Fix es (rnds es o n) := by
  obtain ⟨os, h1, h2⟩ := fix_exists hr _ o ho (Nat.le_refl _)
  have he : ∀ y, y < n → gi (rnds es o n) y = gi os y := fun y hy => rnds_final hr hp h1 h2 ho n y hy (rk_le os n y)
  intro e hm hc hl
  rw [he _ (hr e hm).1] at hl ⊢
  rw [he _ (hr e hm).2]
  exact h2 e hm hc hl
theorem dst_ext {es : List Edg} {s n : Nat} {o u : List Int} (hr : ∀ e ∈ es, e.x < n ∧ e.y < n) (h : Dst es s n o) (hf : Fix es o) (h2 : Dst es s n u) (hf2 : Fix es u) : o = u := by
  apply List.ext_getElem (by rw [h.len, h2.len])
  intro i h3 h4
  have hi : i < n := by rw [h.len] at h3; exact h3
  have := dist_eq hr h hf h2 hf2 hi
  simp [gi, List.getD, h3, h4] at this
  exact this.symm
def dst (es : List Edg) (n s : Nat) : List Int := rnds es (ini n s) n
theorem dst_dst {es : List Edg} {s n : Nat} (hr : ∀ e ∈ es, e.x < n ∧ e.y < n) (hs : s < n) : Dst es s n (dst es n s) := rnds_dst hr (ini_dst hs) n
theorem dst_fix {es : List Edg} {s n : Nat} (hr : ∀ e ∈ es, e.x < n ∧ e.y < n) (hp : ∀ e ∈ es, 0 ≤ e.c → 1 ≤ e.c) (hs : s < n) : Fix es (dst es n s) := rnds_fix hr hp (ini_dst hs)
end Go.Proofs.Ytfbdlmenhoagmaa

namespace Go.Proofs.Ytfbdlmenhoagmaa
set_option linter.unusedVariables false
def costL (m : Mp) (l : List Int) : Int := l.foldl (fun n x => n + (gw m x.toNat).c) 0
theorem costL_snoc (m : Mp) (l : List Int) (x : Int) : costL m (l ++ [x]) = costL m l + (gw m x.toNat).c := by
  unfold costL; rw [List.foldl_append]; rfl
theorem costL_aux {m : Mp} (h : OkM m) : ∀ (l : List Int) (a : Int), (∀ x ∈ l, 0 ≤ x ∧ x < m.ws.length) → a ≤ l.foldl (fun n x => n + (gw m x.toNat).c) a ∧ l.foldl (fun n x => n + (gw m x.toNat).c) a ≤ a + l.length * 1073741824
  | [], a, _ => by simp
  | x :: l, a, hx => by
    have h1 := costL_aux h l (a + (gw m x.toNat).c) (fun y hy => hx y (List.mem_cons_of_mem _ hy))
    have h2 := hx x List.mem_cons_self
    have h3 := (workB_ok (h.w x.toNat (by omega))).c
    simp only [List.foldl_cons, List.length_cons]
    omega
theorem costL_rng {m : Mp} (h : OkM m) {l : List Int} (hx : ∀ x ∈ l, 0 ≤ x ∧ x < m.ws.length) : 0 ≤ costL m l ∧ costL m l ≤ l.length * 1073741824 := by
  have := costL_aux h l 0 hx
  unfold costL
  omega
def limS (m : Mp) (road k : Nat) (n : Int) (i : Nat) : Int := if (gw m i).k = k ∧ (road : Int) ∈ (gw m i).rs then max n (gw m i).l else n
def limL (m : Mp) (l : List Int) (road k : Nat) : Int := l.foldl (fun n x => limS m road k n x.toNat) ((gr m road).lim k)
theorem limL_snoc (m : Mp) (l : List Int) (road k i : Nat) : limL m (l ++ [(i : Int)]) road k = limS m road k (limL m l road k) i := by
  unfold limL; rw [List.foldl_append]; rfl
def usB (m : Mp) (f : Nat → Int) (l : List Int) (road : Nat) : Bool := (List.range 6).all fun k => decide (f k ≤ limL m l road k)
theorem usN_iff {m : Mp} {f : Nat → Int} {l : List Int} {road : Nat} : usB m f l road = true ↔ ∀ k, k < 6 → f k ≤ limL m l road k := by
  unfold usB
  rw [List.all_eq_true]
  constructor
  · intro h k hk
    exact of_decide_eq_true (h k (List.mem_range.2 hk))
  · intro h k hk
    exact decide_eq_true (h k (List.mem_range.1 hk))
def edB (m : Mp) (us : Nat → Bool) (i : Nat) : Edg := ⟨(gr m i).t.toNat, (gr m i).f.toNat, if us i = true then (gr m i).c else -1⟩
end Go.Proofs.Ytfbdlmenhoagmaa

namespace Go.Proofs.Ytfbdlmenhoagmaa
open Go Sy
set_option maxRecDepth 100000
set_option maxHeartbeats 4000000
set_option linter.unusedVariables false
set_option linter.unusedSimpArgs false
theorem mixed : Try.prog.follows .mixedOrders = true := by kernel_rfl
abbrev iv (n : Int) : AV := .v (.int .i64 n)
abbrev bv (b : Bool) : AV := .v (.bool b)
abbrev uv (n : Nat) : AV := .v (.int .u64 n)
def cI (x : Int) : List AV := [iv x]
theorem nI (x : Int) : nth (cI x) 0 = iv x := rfl
theorem lI (x : Int) : (cI x).length = 1 := rfl
theorem frI (x : Int) : frzAll (cI x) = true := rfl
theorem tI (x : Int) : List.take 1 (List.drop 0 (cI x)) = cI x := rfl
abbrev aI (l : List Int) : AV := .sl 1 0 cI l
def cR (r : Rd) : List AV := [iv r.f, iv r.t, iv r.c, iv r.m, iv r.o, iv r.z, iv r.l0, iv r.l1, iv r.l2, iv r.l3, iv r.l4, iv r.l5]
theorem nR0 (r : Rd) : nth (cR r) 0 = iv r.f := rfl
theorem nR1 (r : Rd) : nth (cR r) 1 = iv r.t := rfl
theorem nR2 (r : Rd) : nth (cR r) 2 = iv r.c := rfl
theorem nR3 (r : Rd) : nth (cR r) 3 = iv r.m := rfl
theorem nR4 (r : Rd) : nth (cR r) 4 = iv r.o := rfl
theorem nR5 (r : Rd) : nth (cR r) 5 = iv r.z := rfl
theorem lR (r : Rd) : (cR r).length = 12 := rfl
theorem frR (r : Rd) : frzAll (cR r) = true := rfl
theorem tR (r : Rd) : List.take 12 (List.drop 0 (cR r)) = cR r := rfl
theorem iR {m : Nat → Option Blk} {n : Nat} (r : Rd) : List.flatMap (ids m n) (cR r) = [] := flat_frz n _ (frR r)
theorem vR {m : Nat → Option Blk} {n : Nat} (r : Rd) : List.map (view m n) (cR r) = cR r := viewL_frz n _ (frR r)
def cW (w : Wrk) : List AV := [aI w.rs, iv w.k, iv w.l, iv w.c]
theorem nW0 (w : Wrk) : nth (cW w) 0 = aI w.rs := rfl
theorem nW1 (w : Wrk) : nth (cW w) 1 = iv w.k := rfl
theorem nW2 (w : Wrk) : nth (cW w) 2 = iv w.l := rfl
theorem nW3 (w : Wrk) : nth (cW w) 3 = iv w.c := rfl
theorem lW (w : Wrk) : (cW w).length = 4 := rfl
theorem frW (w : Wrk) : frzAll (cW w) = true := rfl
theorem tW (w : Wrk) : List.take 4 (List.drop 0 (cW w)) = cW w := rfl
theorem iW {m : Nat → Option Blk} {n : Nat} (w : Wrk) : List.flatMap (ids m n) (cW w) = [] := flat_frz n _ (frW w)
theorem vW {m : Nat → Option Blk} {n : Nat} (w : Wrk) : List.map (view m n) (cW w) = cW w := viewL_frz n _ (frW w)
abbrev aR (l : List Rd) : AV := .sl 12 dR cR l
abbrev aW (l : List Wrk) : AV := .sl 4 dW cW l
def cM (m : Mp) : List AV := [iv m.n, aR m.rs, aW m.ws]
theorem nM0 (m : Mp) : nth (cM m) 0 = iv m.n := rfl
theorem nM1 (m : Mp) : nth (cM m) 1 = aR m.rs := rfl
theorem nM2 (m : Mp) : nth (cM m) 2 = aW m.ws := rfl
theorem lM (m : Mp) : (cM m).length = 3 := rfl
theorem frM (m : Mp) : frzAll (cM m) = true := rfl
theorem iM {f : Nat → Option Blk} {n : Nat} (m : Mp) : List.flatMap (ids f n) (cM m) = [] := flat_frz n _ (frM m)
theorem vM {f : Nat → Option Blk} {n : Nat} (m : Mp) : List.map (view f n) (cM m) = cM m := viewL_frz n _ (frM m)
abbrev aM (m : Mp) : AV := .agg (cM m)
def c6 (f : Nat → Int) : List AV := [iv (f 0), iv (f 1), iv (f 2), iv (f 3), iv (f 4), iv (f 5)]
theorem l6 (f : Nat → Int) : (c6 f).length = 6 := rfl
theorem fr6 (f : Nat → Int) : frzAll (c6 f) = true := rfl
theorem n6 (f : Nat → Int) (k : Nat) (h : k < 6) : nth (c6 f) k = iv (f k) := by
  rcases k with _ | _ | _ | _ | _ | _ | k <;> first | rfl | omega
theorem i6 {m : Nat → Option Blk} {n : Nat} (f : Nat → Int) : List.flatMap (ids m n) (c6 f) = [] := flat_frz n _ (fr6 f)
theorem v6 {m : Nat → Option Blk} {n : Nat} (f : Nat → Int) : List.map (view m n) (c6 f) = c6 f := viewL_frz n _ (fr6 f)
theorem t6 (f : Nat → Int) : List.take 6 (c6 f) = c6 f := rfl
theorem cutR (r : Rd) : List.take 6 (List.drop 6 (cR r)) = c6 r.lim := rfl
theorem tR2 (r : Rd) : List.take 12 (cR r) = cR r := rfl
theorem tW2 (w : Wrk) : List.take 4 (cW w) = cW w := rfl
theorem tM2 (m : Mp) : List.take 3 (cM m) = cM m := rfl
attribute [push_cast] tR2 tW2 tM2 nI lI frI tI nR0 nR1 nR2 nR3 nR4 nR5 lR frR tR iR vR nW0 nW1 nW2 nW3 lW frW tW iW vW nM0 nM1 nM2 lM frM iM vM l6 fr6 n6 i6 v6 t6 cutR
theorem fn85 (x lo hi : Int) : Sy.Fn Try.prog 85 [iv x, iv lo, iv hi] (bv (inR x lo hi)) := by
  refine Fn_of_W mixed Xt85 rfl ?_
  repeat' (first | refine w1g ?_ | refine w1l ?_ | refine w1q ?_ | refine w1b ?_ | refine w1p ?_ | ((first | refine w1r ?_ | refine w1k ?_ | refine w1e ?_); (refine sy1 ?_; try exact True.intro)) | refine an2 ?_ | fail)
  exact W_ret ⟨[_], ⟨rfl, rfl⟩, rfl⟩
theorem fn66 (x lo hi : Int) : Sy.Fn Try.prog 66 [iv x, iv lo, iv hi] (bv (inR x lo hi)) := by
  refine Fn_of_W mixed Xt66 rfl ?_
  repeat' (first | refine w1g ?_ | refine w1l ?_ | refine w1q ?_ | refine w1b ?_ | refine w1p ?_ | ((first | refine w1r ?_ | refine w1k ?_ | refine w1e ?_); (refine sy1 ?_; try exact True.intro)) | refine an2 ?_ | fail)
  exact W_ret ⟨[_], ⟨rfl, rfl⟩, rfl⟩
theorem up_all {p : Nat → Prop} {n : Nat} (h : ∀ j, j < n → p j) (hn : p n) : ∀ j, j < n + 1 → p j := fun j hj => by
  rcases Nat.lt_succ_iff_lt_or_eq.1 hj with h1 | rfl
  · exact h j h1
  · exact hn
theorem setB_yes {l : List Int} {n : Int} (h : ∀ j, j < l.length → okAt l n j = true) : setB l n = true := by
  unfold setB
  rw [List.all_eq_true]
  intro j hj
  exact h j (List.mem_range.1 hj)
theorem setB_no {l : List Int} {n : Int} {i : Nat} (hi : i < l.length) (h : okAt l n i = false) : setB l n = false := by
  unfold setB
  rw [← Bool.not_eq_true, List.all_eq_true]
  intro q
  have := q i (List.mem_range.2 hi)
  rw [h] at this; cases this
theorem fn73 (l : List Int) (n : Int) (hl : l.length ≤ 140737488355328) : Sy.Fn Try.prog 73 [aI l, iv n] (bv (setB l n)) := by
  refine Fn_of_W mixed Xt73 rfl ?_
  repeat' (first | refine w1g ?_ | refine w1l ?_ | refine w1q ?_ | refine w1b ?_ | refine w1p ?_ | ((first | refine w1r ?_ | refine w1k ?_ | refine w1e ?_); (refine sy1 ?_; try exact True.intro)) | refine an2 ?_ | fail)
  refine W_loopU (fun i : Nat => [(5, iv (lastI l i)), (10, iv i)]) (fun i => []) (fun i => i ≤ l.length ∧ ∀ j, j < i → okAt l n j = true) (fun i => l.length - i) 0 ⟨by omega, fun j hj => by omega⟩ (by rfl) (by rfl) (fun i hi => ?_)
  obtain ⟨hi, hall⟩ := hi
  (refine sy1 ?_; try exact True.intro)
  repeat' (first | refine w1g ?_ | refine w1l ?_ | refine w1q ?_ | refine w1b ?_ | refine w1p ?_ | ((first | refine w1r ?_ | refine w1k ?_ | refine w1e ?_); (refine sy1 ?_; try exact True.intro)) | refine an2 ?_ | fail)
  refine W_condD (by rfl) (fun h5 => ?_) (fun h5 => ?_)
  · have hlt : i < l.length := by omega
    have hn1 : lastI l (i + 1) = gi l i := by unfold lastI; rw [if_neg (by omega)]; rfl
    have hgi : l.getD i 0 = gi l i := rfl
    have hok : okAt l n i = (decide (lastI l i < gi l i) && decide (gi l i < n)) := rfl
    generalize gi l i = x at hn1 hgi hok
    repeat' (first | refine w1g ?_ | refine w1l ?_ | refine w1q ?_ | refine w1b ?_ | refine w1p ?_ | ((first | refine w1r ?_ | refine w1k ?_ | refine w1e ?_); simp (maxSteps := 400000) (disch := omega) only [push_cast, ↓reduceIte, reduceCtorEq, Nat.reduceAdd, Nat.reduceSub, Nat.reduceEqDiff, Nat.reduceLeDiff, Nat.reduceLT, Nat.reduceBEq, Nat.reduceDiv, Nat.reduceMod, Nat.reducePow, Nat.reduceMul, Int.reduceToNat, Int.reduceLT, Int.reduceLE, hgi]) | refine an2 ?_ | fail)
    refine W_cond (by rfl) (fun hb => ?_) (fun hb => ?_)
    · have e : okAt l n i = false := by
        rw [hok, Bool.and_eq_false_iff, decide_eq_false_iff_not, decide_eq_false_iff_not]
        rw [Bool.or_eq_true, decide_eq_true_eq, decide_eq_true_eq] at hb
        omega
      rw [setB_no hlt e]
      repeat' (first | refine w1g ?_ | refine w1l ?_ | refine w1q ?_ | refine w1b ?_ | refine w1p ?_ | ((first | refine w1r ?_ | refine w1k ?_ | refine w1e ?_); (refine sy1 ?_; try exact True.intro)) | refine an2 ?_ | fail)
      exact W_ret ⟨[_], ⟨rfl, rfl⟩, rfl⟩
    · have e : okAt l n i = true := by
        rw [hok, Bool.and_eq_true, decide_eq_true_eq, decide_eq_true_eq]
        rw [Bool.or_eq_false_iff, decide_eq_false_iff_not, decide_eq_false_iff_not] at hb
        omega
      repeat' (first | refine w1g ?_ | refine w1l ?_ | refine w1q ?_ | refine w1b ?_ | refine w1p ?_ | ((first | refine w1r ?_ | refine w1k ?_ | refine w1e ?_); (refine sy1 ?_; try exact True.intro)) | refine an2 ?_ | fail)
      refine ⟨i + 1, ⟨by omega, up_all hall e⟩, by omega, by rfl, ?_⟩
      rw [hn1]
      (refine syE ?_; try exact True.intro)
  · rw [setB_yes (fun j hj => hall j (by omega))]
    repeat' (first | refine w1g ?_ | refine w1l ?_ | refine w1q ?_ | refine w1b ?_ | refine w1p ?_ | ((first | refine w1r ?_ | refine w1k ?_ | refine w1e ?_); (refine sy1 ?_; try exact True.intro)) | refine an2 ?_ | fail)
    exact W_ret ⟨[_], ⟨rfl, rfl⟩, rfl⟩
theorem fn67 (l : List Int) (n : Int) (hl : l.length ≤ 140737488355328) : Sy.Fn Try.prog 67 [aI l, iv n] (bv (setB l n)) := by
  refine Fn_of_W mixed Xt67 rfl ?_
  repeat' (first | refine w1g ?_ | refine w1l ?_ | refine w1q ?_ | refine w1b ?_ | refine w1p ?_ | ((first | refine w1r ?_ | refine w1k ?_ | refine w1e ?_); (refine sy1 ?_; try exact True.intro)) | refine an2 ?_ | fail)
  refine W_loopU (fun i : Nat => [(5, iv i)]) (fun i => []) (fun i => i ≤ l.length ∧ ∀ j, j < i → okAt l n j = true) (fun i => l.length - i) 0 ⟨by omega, fun j hj => by omega⟩ (by rfl) (by rfl) (fun i hi => ?_)
  obtain ⟨hi, hall⟩ := hi
  (refine sy1 ?_; try exact True.intro)
  repeat' (first | refine w1g ?_ | refine w1l ?_ | refine w1q ?_ | refine w1b ?_ | refine w1p ?_ | ((first | refine w1r ?_ | refine w1k ?_ | refine w1e ?_); (refine sy1 ?_; try exact True.intro)) | refine an2 ?_ | fail)
  refine W_condD (by rfl) (fun h5 => ?_) (fun h5 => ?_)
  · have hlt : i < l.length := by omega
    have hgi : l.getD i 0 = gi l i := rfl
    obtain ⟨y, hy⟩ : ∃ y, l.getD ((i : Int) - 1).toNat 0 = y := ⟨_, rfl⟩
    have hok : okAt l n i = (decide (lastI l i < gi l i) && decide (gi l i < n)) := rfl
    have hl1 : i ≠ 0 → lastI l i = y ∧ 0 ≤ y := fun q => by
      have e : ((i : Int) - 1).toNat = i - 1 := by omega
      rw [e] at hy
      have h1 := hall (i - 1) (by omega)
      unfold okAt at h1
      rw [Bool.and_eq_true, decide_eq_true_eq] at h1
      have h2 : gi l (i - 1) = y := hy
      have h3 : -1 ≤ lastI l (i - 1) := by
        unfold lastI
        split
        · omega
        · rename_i z
          have h4 := hall (i - 1 - 1) (by omega)
          have : ∀ k, k < i → 0 ≤ gi l k := fun k => by
            induction k with
            | zero =>
              intro hk
              have := hall 0 hk
              unfold okAt lastI at this
              rw [if_pos rfl, Bool.and_eq_true, decide_eq_true_eq] at this
              omega
            | succ k ih =>
              intro hk
              have := hall (k + 1) hk
              unfold okAt lastI at this
              rw [if_neg (by omega), Bool.and_eq_true, decide_eq_true_eq] at this
              have h5 : k + 1 - 1 = k := by omega
              rw [h5] at this
              have := ih (by omega)
              omega
          have := this (i - 1 - 1) (by omega)
          omega
      refine ⟨by unfold lastI; rw [if_neg q]; exact h2, by omega⟩
    have hl0 : i = 0 → lastI l i = -1 := fun q => by unfold lastI; rw [if_pos q]
    generalize gi l i = x at hgi hok
    repeat' (first | refine w1g ?_ | refine w1l ?_ | refine w1q ?_ | refine w1b ?_ | refine w1p ?_ | ((first | refine w1r ?_ | refine w1k ?_ | refine w1e ?_); simp (maxSteps := 400000) (disch := omega) only [push_cast, ↓reduceIte, reduceCtorEq, Nat.reduceAdd, Nat.reduceSub, Nat.reduceEqDiff, Nat.reduceLeDiff, Nat.reduceLT, Nat.reduceBEq, Nat.reduceDiv, Nat.reduceMod, Nat.reducePow, Nat.reduceMul, Int.reduceToNat, Int.reduceLT, Int.reduceLE, hgi, hy]) | refine an2 ?_ | fail)
    refine W_cond (by rfl) (fun hb => ?_) (fun hb => ?_)
    · have e : okAt l n i = false := by
        rw [hok, Bool.and_eq_false_iff, decide_eq_false_iff_not, decide_eq_false_iff_not]
        simp only [Bool.or_eq_true, Bool.and_eq_true, decide_eq_true_eq] at hb
        by_cases q : i = 0
        · have := hl0 q; omega
        · have := hl1 q; omega
      rw [setB_no hlt e]
      repeat' (first | refine w1g ?_ | refine w1l ?_ | refine w1q ?_ | refine w1b ?_ | refine w1p ?_ | ((first | refine w1r ?_ | refine w1k ?_ | refine w1e ?_); (refine sy1 ?_; try exact True.intro)) | refine an2 ?_ | fail)
      exact W_ret ⟨[_], ⟨rfl, rfl⟩, rfl⟩
    · have e : okAt l n i = true := by
        rw [hok, Bool.and_eq_true, decide_eq_true_eq, decide_eq_true_eq]
        simp only [Bool.or_eq_false_iff, Bool.and_eq_false_iff, decide_eq_false_iff_not] at hb
        by_cases q : i = 0
        · have := hl0 q; omega
        · have := hl1 q; omega
      repeat' (first | refine w1g ?_ | refine w1l ?_ | refine w1q ?_ | refine w1b ?_ | refine w1p ?_ | ((first | refine w1r ?_ | refine w1k ?_ | refine w1e ?_); (refine sy1 ?_; try exact True.intro)) | refine an2 ?_ | fail)
      refine ⟨i + 1, ⟨by omega, up_all hall e⟩, by omega, by rfl, ?_⟩
      (refine syE ?_; try exact True.intro)
  · rw [setB_yes (fun j hj => hall j (by omega))]
    repeat' (first | refine w1g ?_ | refine w1l ?_ | refine w1q ?_ | refine w1b ?_ | refine w1p ?_ | ((first | refine w1r ?_ | refine w1k ?_ | refine w1e ?_); (refine sy1 ?_; try exact True.intro)) | refine an2 ?_ | fail)
    exact W_ret ⟨[_], ⟨rfl, rfl⟩, rfl⟩
def idxF {α : Type} (p : α → Bool) : List α → Int → Int
  | [], _ => -1
  | x :: r, i => if p x then i else idxF p r (i + 1)
theorem idxF_at {α : Type} (p : α → Bool) (d : α) : ∀ (l : List α) (i : Nat) (k : Int), i < l.length → (∀ j, j < i → p (l.getD j d) = false) → p (l.getD i d) = true → idxF p l k = k + i
  | [], i, k, h, _, _ => by simp at h
  | x :: r, 0, k, _, _, h => by simp at h; simp [idxF, h]
  | x :: r, i + 1, k, h, hj, hp => by
    have h0 : p x = false := by simpa using hj 0 (by omega)
    have := idxF_at p d r i (k + 1) (by simpa using h) (fun j hlt => by simpa using hj (j + 1) (by omega)) (by simpa using hp)
    simp only [idxF, h0, Bool.false_eq_true, if_false, this]
    omega
theorem idxF_none {α : Type} (p : α → Bool) (d : α) : ∀ (l : List α) (k : Int), (∀ j, j < l.length → p (l.getD j d) = false) → idxF p l k = -1
  | [], k, _ => rfl
  | x :: r, k, h => by
    have h0 : p x = false := by simpa using h 0 (by simp)
    have := idxF_none p d r (k + 1) (fun j hlt => by simpa using h (j + 1) (by simpa using hlt))
    simp only [idxF, h0, Bool.false_eq_true, if_false, this]
theorem idxF_any {α : Type} (p : α → Bool) : ∀ (l : List α) (k : Int), 0 ≤ k → decide (0 ≤ idxF p l k) = l.any p
  | [], k, _ => by simp [idxF]
  | x :: r, k, h => by
    simp only [idxF, List.any_cons]
    by_cases hp : p x = true
    · simp [hp, h]
    · simp only [hp]
      simpa using idxF_any p r (k + 1) (by omega)
theorem getD_mem {α : Type} (d : α) (l : List α) (i : Nat) (h : i < l.length) : l.getD i d ∈ l := getD_mem' d l i h
theorem fn125 (l : List Int) (hl : l.length ≤ 1000000) (g : Nat) (fi ca : List AV) (p : Int → Bool) (hg : ∀ x ∈ l, Sy.Fn Try.prog g (fi ++ [iv x] ++ ca) (bv (p x))) : Sy.Fn Try.prog 125 [aI l, .clo g fi ca] (iv (idxF p l 0)) := by
  refine Fn_of_W mixed Xt125 rfl ?_
  repeat' (first | refine w1g ?_ | refine w1l ?_ | refine w1q ?_ | refine w1b ?_ | refine w1p ?_ | ((first | refine w1r ?_ | refine w1k ?_ | refine w1e ?_); (refine sy1 ?_; try exact True.intro)) | refine an2 ?_ | fail)
  refine W_loopU (fun i : Nat => [(8, iv i)]) (fun i => []) (fun i => i ≤ l.length ∧ ∀ j, j < i → p (l.getD j 0) = false) (fun i => l.length - i) 0 ⟨by omega, fun j hj => by omega⟩ (by rfl) (by rfl) (fun i hi => ?_)
  obtain ⟨hi, hp⟩ := hi
  (refine sy1 ?_; try exact True.intro)
  repeat' (first | refine w1g ?_ | refine w1l ?_ | refine w1q ?_ | refine w1b ?_ | refine w1p ?_ | ((first | refine w1r ?_ | refine w1k ?_ | refine w1e ?_); (refine sy1 ?_; try exact True.intro)) | refine an2 ?_ | fail)
  refine W_condD (by rfl) (fun h => ?_) (fun h => ?_)
  · have hlt : i < l.length := by omega
    have cg := hg _ (getD_mem 0 l i hlt)
    repeat' (first | refine w1g ?_ | refine w1l ?_ | refine w1q ?_ | refine w1b ?_ | refine w1p ?_ | ((first | refine w1r ?_ | refine w1k ?_ | refine w1e ?_ | refine CallC.now (cg) ?_); (refine sy1 ?_; try exact True.intro)) | refine an2 ?_ | fail)
    refine W_cond (by rfl) (fun hb => ?_) (fun hb => ?_)
    · repeat' (first | refine w1g ?_ | refine w1l ?_ | refine w1q ?_ | refine w1b ?_ | refine w1p ?_ | ((first | refine w1r ?_ | refine w1k ?_ | refine w1e ?_); (refine sy1 ?_; try exact True.intro)) | refine an2 ?_ | fail)
      exact W_ret ⟨[_], ⟨rfl, rfl⟩, by rw [idxF_at p 0 l i 0 hlt hp hb, Int.zero_add]; rfl⟩
    · repeat' (first | refine w1g ?_ | refine w1l ?_ | refine w1q ?_ | refine w1b ?_ | refine w1p ?_ | ((first | refine w1r ?_ | refine w1k ?_ | refine w1e ?_); (refine sy1 ?_; try exact True.intro)) | refine an2 ?_ | fail)
      refine ⟨i + 1, ⟨by omega, up_all hp hb⟩, by omega, by rfl, ?_⟩
      (refine syE ?_; try exact True.intro)
  · repeat' (first | refine w1g ?_ | refine w1l ?_ | refine w1q ?_ | refine w1b ?_ | refine w1p ?_ | ((first | refine w1r ?_ | refine w1k ?_ | refine w1e ?_); (refine sy1 ?_; try exact True.intro)) | refine an2 ?_ | fail)
    exact W_ret ⟨[_], ⟨rfl, rfl⟩, by rw [idxF_none p 0 l 0 (fun j hj => hp j (by omega))]; rfl⟩
theorem fn88 (l : List Int) (hl : l.length ≤ 1000000) (g : Nat) (fi ca : List AV) (p : Int → Bool) (hg : ∀ x ∈ l, Sy.Fn Try.prog g (fi ++ [iv x] ++ ca) (bv (p x))) : Sy.Fn Try.prog 88 [aI l, .clo g fi ca] (bv (l.any p)) := by
  refine Fn_of_W mixed Xt88 rfl ?_
  repeat' (first | refine w1g ?_ | refine w1l ?_ | refine w1q ?_ | refine w1b ?_ | refine w1p ?_ | ((first | refine w1r ?_ | refine w1k ?_ | refine w1e ?_ | refine CallC.now (fn125 l hl g fi ca p hg) ?_); (refine sy1 ?_; try exact True.intro)) | refine an2 ?_ | fail)
  exact W_ret ⟨[_], ⟨rfl, rfl⟩, by rw [← idxF_any p l 0 (by omega)]; rfl⟩
theorem fn62 (l : List Rd) (hl : l.length ≤ 1000000) (g : Nat) (fi ca : List AV) (p : Rd → Bool) (hg : ∀ x ∈ l, Sy.Fn Try.prog g (fi ++ [.agg (cR x)] ++ ca) (bv (p x))) : Sy.Fn Try.prog 62 [aR l, .clo g fi ca] (iv (idxF p l 0)) := by
  refine Fn_of_W mixed Xt62 rfl ?_
  repeat' (first | refine w1g ?_ | refine w1l ?_ | refine w1q ?_ | refine w1b ?_ | refine w1p ?_ | ((first | refine w1r ?_ | refine w1k ?_ | refine w1e ?_); (refine sy1 ?_; try exact True.intro)) | refine an2 ?_ | fail)
  refine W_loopU (fun i : Nat => [(8, iv i)]) (fun i => []) (fun i => i ≤ l.length ∧ ∀ j, j < i → p (l.getD j dR) = false) (fun i => l.length - i) 0 ⟨by omega, fun j hj => by omega⟩ (by rfl) (by rfl) (fun i hi => ?_)
  obtain ⟨hi, hp⟩ := hi
  (refine sy1 ?_; try exact True.intro)
  repeat' (first | refine w1g ?_ | refine w1l ?_ | refine w1q ?_ | refine w1b ?_ | refine w1p ?_ | ((first | refine w1r ?_ | refine w1k ?_ | refine w1e ?_); (refine sy1 ?_; try exact True.intro)) | refine an2 ?_ | fail)
  refine W_condD (by rfl) (fun h => ?_) (fun h => ?_)
  · have hlt : i < l.length := by omega
    have cg := hg _ (getD_mem dR l i hlt)
    repeat' (first | refine w1g ?_ | refine w1l ?_ | refine w1q ?_ | refine w1b ?_ | refine w1p ?_ | ((first | refine w1r ?_ | refine w1k ?_ | refine w1e ?_ | refine CallC.now (cg) ?_); (refine sy1 ?_; try exact True.intro)) | refine an2 ?_ | fail)
    refine W_cond (by rfl) (fun hb => ?_) (fun hb => ?_)
    · repeat' (first | refine w1g ?_ | refine w1l ?_ | refine w1q ?_ | refine w1b ?_ | refine w1p ?_ | ((first | refine w1r ?_ | refine w1k ?_ | refine w1e ?_); (refine sy1 ?_; try exact True.intro)) | refine an2 ?_ | fail)
      exact W_ret ⟨[_], ⟨rfl, rfl⟩, by rw [idxF_at p dR l i 0 hlt hp hb, Int.zero_add]; rfl⟩
    · repeat' (first | refine w1g ?_ | refine w1l ?_ | refine w1q ?_ | refine w1b ?_ | refine w1p ?_ | ((first | refine w1r ?_ | refine w1k ?_ | refine w1e ?_); (refine sy1 ?_; try exact True.intro)) | refine an2 ?_ | fail)
      refine ⟨i + 1, ⟨by omega, up_all hp hb⟩, by omega, by rfl, ?_⟩
      (refine syE ?_; try exact True.intro)
  · repeat' (first | refine w1g ?_ | refine w1l ?_ | refine w1q ?_ | refine w1b ?_ | refine w1p ?_ | ((first | refine w1r ?_ | refine w1k ?_ | refine w1e ?_); (refine sy1 ?_; try exact True.intro)) | refine an2 ?_ | fail)
    exact W_ret ⟨[_], ⟨rfl, rfl⟩, by rw [idxF_none p dR l 0 (fun j hj => hp j (by omega))]; rfl⟩
theorem fn87 (l : List Rd) (hl : l.length ≤ 1000000) (g : Nat) (fi ca : List AV) (p : Rd → Bool) (hg : ∀ x ∈ l, Sy.Fn Try.prog g (fi ++ [.agg (cR x)] ++ ca) (bv (p x))) : Sy.Fn Try.prog 87 [aR l, .clo g fi ca] (bv (l.any p)) := by
  refine Fn_of_W mixed Xt87 rfl ?_
  repeat' (first | refine w1g ?_ | refine w1l ?_ | refine w1q ?_ | refine w1b ?_ | refine w1p ?_ | ((first | refine w1r ?_ | refine w1k ?_ | refine w1e ?_ | refine CallC.now (fn62 l hl g fi ca p hg) ?_); (refine sy1 ?_; try exact True.intro)) | refine an2 ?_ | fail)
  exact W_ret ⟨[_], ⟨rfl, rfl⟩, by rw [← idxF_any p l 0 (by omega)]; rfl⟩
theorem fn124 (l : List Wrk) (hl : l.length ≤ 1000000) (g : Nat) (fi ca : List AV) (p : Wrk → Bool) (hg : ∀ x ∈ l, Sy.Fn Try.prog g (fi ++ [.agg (cW x)] ++ ca) (bv (p x))) : Sy.Fn Try.prog 124 [aW l, .clo g fi ca] (iv (idxF p l 0)) := by
  refine Fn_of_W mixed Xt124 rfl ?_
  repeat' (first | refine w1g ?_ | refine w1l ?_ | refine w1q ?_ | refine w1b ?_ | refine w1p ?_ | ((first | refine w1r ?_ | refine w1k ?_ | refine w1e ?_); (refine sy1 ?_; try exact True.intro)) | refine an2 ?_ | fail)
  refine W_loopU (fun i : Nat => [(8, iv i)]) (fun i => []) (fun i => i ≤ l.length ∧ ∀ j, j < i → p (l.getD j dW) = false) (fun i => l.length - i) 0 ⟨by omega, fun j hj => by omega⟩ (by rfl) (by rfl) (fun i hi => ?_)
  obtain ⟨hi, hp⟩ := hi
  (refine sy1 ?_; try exact True.intro)
  repeat' (first | refine w1g ?_ | refine w1l ?_ | refine w1q ?_ | refine w1b ?_ | refine w1p ?_ | ((first | refine w1r ?_ | refine w1k ?_ | refine w1e ?_); (refine sy1 ?_; try exact True.intro)) | refine an2 ?_ | fail)
  refine W_condD (by rfl) (fun h => ?_) (fun h => ?_)
  · have hlt : i < l.length := by omega
    have cg := hg _ (getD_mem dW l i hlt)
    repeat' (first | refine w1g ?_ | refine w1l ?_ | refine w1q ?_ | refine w1b ?_ | refine w1p ?_ | ((first | refine w1r ?_ | refine w1k ?_ | refine w1e ?_ | refine CallC.now (cg) ?_); (refine sy1 ?_; try exact True.intro)) | refine an2 ?_ | fail)
    refine W_cond (by rfl) (fun hb => ?_) (fun hb => ?_)
    · repeat' (first | refine w1g ?_ | refine w1l ?_ | refine w1q ?_ | refine w1b ?_ | refine w1p ?_ | ((first | refine w1r ?_ | refine w1k ?_ | refine w1e ?_); (refine sy1 ?_; try exact True.intro)) | refine an2 ?_ | fail)
      exact W_ret ⟨[_], ⟨rfl, rfl⟩, by rw [idxF_at p dW l i 0 hlt hp hb, Int.zero_add]; rfl⟩
    · repeat' (first | refine w1g ?_ | refine w1l ?_ | refine w1q ?_ | refine w1b ?_ | refine w1p ?_ | ((first | refine w1r ?_ | refine w1k ?_ | refine w1e ?_); (refine sy1 ?_; try exact True.intro)) | refine an2 ?_ | fail)
      refine ⟨i + 1, ⟨by omega, up_all hp hb⟩, by omega, by rfl, ?_⟩
      (refine syE ?_; try exact True.intro)
  · repeat' (first | refine w1g ?_ | refine w1l ?_ | refine w1q ?_ | refine w1b ?_ | refine w1p ?_ | ((first | refine w1r ?_ | refine w1k ?_ | refine w1e ?_); (refine sy1 ?_; try exact True.intro)) | refine an2 ?_ | fail)
    exact W_ret ⟨[_], ⟨rfl, rfl⟩, by rw [idxF_none p dW l 0 (fun j hj => hp j (by omega))]; rfl⟩
theorem fn81 (l : List Wrk) (hl : l.length ≤ 1000000) (g : Nat) (fi ca : List AV) (p : Wrk → Bool) (hg : ∀ x ∈ l, Sy.Fn Try.prog g (fi ++ [.agg (cW x)] ++ ca) (bv (p x))) : Sy.Fn Try.prog 81 [aW l, .clo g fi ca] (bv (l.any p)) := by
  refine Fn_of_W mixed Xt81 rfl ?_
  repeat' (first | refine w1g ?_ | refine w1l ?_ | refine w1q ?_ | refine w1b ?_ | refine w1p ?_ | ((first | refine w1r ?_ | refine w1k ?_ | refine w1e ?_ | refine CallC.now (fn124 l hl g fi ca p hg) ?_); (refine sy1 ?_; try exact True.intro)) | refine an2 ?_ | fail)
  exact W_ret ⟨[_], ⟨rfl, rfl⟩, by rw [← idxF_any p l 0 (by omega)]; rfl⟩
theorem fn120 (l : List Int) (hl : l.length ≤ 1000000) (g : Nat) (fi ca : List AV) (p : Int → Bool) (hg : ∀ x ∈ l, Sy.Fn Try.prog g (fi ++ [iv x] ++ ca) (bv (p x))) : Sy.Fn Try.prog 120 [aI l, .clo g fi ca] (iv (idxF p l 0)) := by
  refine Fn_of_W mixed Xt120 rfl ?_
  repeat' (first | refine w1g ?_ | refine w1l ?_ | refine w1q ?_ | refine w1b ?_ | refine w1p ?_ | ((first | refine w1r ?_ | refine w1k ?_ | refine w1e ?_); (refine sy1 ?_; try exact True.intro)) | refine an2 ?_ | fail)
  refine W_loopU (fun i : Nat => [(8, iv i)]) (fun i => []) (fun i => i ≤ l.length ∧ ∀ j, j < i → p (l.getD j 0) = false) (fun i => l.length - i) 0 ⟨by omega, fun j hj => by omega⟩ (by rfl) (by rfl) (fun i hi => ?_)
  obtain ⟨hi, hp⟩ := hi
  (refine sy1 ?_; try exact True.intro)
  repeat' (first | refine w1g ?_ | refine w1l ?_ | refine w1q ?_ | refine w1b ?_ | refine w1p ?_ | ((first | refine w1r ?_ | refine w1k ?_ | refine w1e ?_); (refine sy1 ?_; try exact True.intro)) | refine an2 ?_ | fail)
  refine W_condD (by rfl) (fun h => ?_) (fun h => ?_)
  · have hlt : i < l.length := by omega
    have cg := hg _ (getD_mem 0 l i hlt)
    repeat' (first | refine w1g ?_ | refine w1l ?_ | refine w1q ?_ | refine w1b ?_ | refine w1p ?_ | ((first | refine w1r ?_ | refine w1k ?_ | refine w1e ?_ | refine CallC.now (cg) ?_); (refine sy1 ?_; try exact True.intro)) | refine an2 ?_ | fail)
    refine W_cond (by rfl) (fun hb => ?_) (fun hb => ?_)
    · repeat' (first | refine w1g ?_ | refine w1l ?_ | refine w1q ?_ | refine w1b ?_ | refine w1p ?_ | ((first | refine w1r ?_ | refine w1k ?_ | refine w1e ?_); (refine sy1 ?_; try exact True.intro)) | refine an2 ?_ | fail)
      exact W_ret ⟨[_], ⟨rfl, rfl⟩, by rw [idxF_at p 0 l i 0 hlt hp hb, Int.zero_add]; rfl⟩
    · repeat' (first | refine w1g ?_ | refine w1l ?_ | refine w1q ?_ | refine w1b ?_ | refine w1p ?_ | ((first | refine w1r ?_ | refine w1k ?_ | refine w1e ?_); (refine sy1 ?_; try exact True.intro)) | refine an2 ?_ | fail)
      refine ⟨i + 1, ⟨by omega, up_all hp hb⟩, by omega, by rfl, ?_⟩
      (refine syE ?_; try exact True.intro)
  · repeat' (first | refine w1g ?_ | refine w1l ?_ | refine w1q ?_ | refine w1b ?_ | refine w1p ?_ | ((first | refine w1r ?_ | refine w1k ?_ | refine w1e ?_); (refine sy1 ?_; try exact True.intro)) | refine an2 ?_ | fail)
    exact W_ret ⟨[_], ⟨rfl, rfl⟩, by rw [idxF_none p 0 l 0 (fun j hj => hp j (by omega))]; rfl⟩
theorem fn70 (l : List Int) (hl : l.length ≤ 1000000) (g : Nat) (fi ca : List AV) (p : Int → Bool) (hg : ∀ x ∈ l, Sy.Fn Try.prog g (fi ++ [iv x] ++ ca) (bv (p x))) : Sy.Fn Try.prog 70 [aI l, .clo g fi ca] (bv (l.any p)) := by
  refine Fn_of_W mixed Xt70 rfl ?_
  repeat' (first | refine w1g ?_ | refine w1l ?_ | refine w1q ?_ | refine w1b ?_ | refine w1p ?_ | ((first | refine w1r ?_ | refine w1k ?_ | refine w1e ?_ | refine CallC.now (fn120 l hl g fi ca p hg) ?_); (refine sy1 ?_; try exact True.intro)) | refine an2 ?_ | fail)
  exact W_ret ⟨[_], ⟨rfl, rfl⟩, by rw [← idxF_any p l 0 (by omega)]; rfl⟩
theorem fn138 (l : List Int) (x : Int) (hl : l.length ≤ 1000000) : Sy.Fn Try.prog 138 [aI l, iv x] (iv (idxF (fun y => x == y) l 0)) := by
  refine Fn_of_W mixed Xt138 rfl ?_
  repeat' (first | refine w1g ?_ | refine w1l ?_ | refine w1q ?_ | refine w1b ?_ | refine w1p ?_ | ((first | refine w1r ?_ | refine w1k ?_ | refine w1e ?_); (refine sy1 ?_; try exact True.intro)) | refine an2 ?_ | fail)
  refine W_loopU (fun i : Nat => [(8, iv i)]) (fun i => []) (fun i => i ≤ l.length ∧ ∀ j, j < i → (x == l.getD j 0) = false) (fun i => l.length - i) 0 ⟨by omega, fun j hj => by omega⟩ (by rfl) (by rfl) (fun i hi => ?_)
  obtain ⟨hi, hp⟩ := hi
  (refine sy1 ?_; try exact True.intro)
  repeat' (first | refine w1g ?_ | refine w1l ?_ | refine w1q ?_ | refine w1b ?_ | refine w1p ?_ | ((first | refine w1r ?_ | refine w1k ?_ | refine w1e ?_); (refine sy1 ?_; try exact True.intro)) | refine an2 ?_ | fail)
  refine W_condD (by rfl) (fun h => ?_) (fun h => ?_)
  · have hlt : i < l.length := by omega
    repeat' (first | refine w1g ?_ | refine w1l ?_ | refine w1q ?_ | refine w1b ?_ | refine w1p ?_ | ((first | refine w1r ?_ | refine w1k ?_ | refine w1e ?_); (refine sy1 ?_; try exact True.intro)) | refine an2 ?_ | fail)
    refine W_cond (by rfl) (fun hb => ?_) (fun hb => ?_)
    · repeat' (first | refine w1g ?_ | refine w1l ?_ | refine w1q ?_ | refine w1b ?_ | refine w1p ?_ | ((first | refine w1r ?_ | refine w1k ?_ | refine w1e ?_); (refine sy1 ?_; try exact True.intro)) | refine an2 ?_ | fail)
      exact W_ret ⟨[_], ⟨rfl, rfl⟩, by rw [idxF_at (fun y => x == y) 0 l i 0 hlt hp hb, Int.zero_add]; rfl⟩
    · repeat' (first | refine w1g ?_ | refine w1l ?_ | refine w1q ?_ | refine w1b ?_ | refine w1p ?_ | ((first | refine w1r ?_ | refine w1k ?_ | refine w1e ?_); (refine sy1 ?_; try exact True.intro)) | refine an2 ?_ | fail)
      refine ⟨i + 1, ⟨by omega, up_all hp hb⟩, by omega, by rfl, ?_⟩
      (refine syE ?_; try exact True.intro)
  · repeat' (first | refine w1g ?_ | refine w1l ?_ | refine w1q ?_ | refine w1b ?_ | refine w1p ?_ | ((first | refine w1r ?_ | refine w1k ?_ | refine w1e ?_); (refine sy1 ?_; try exact True.intro)) | refine an2 ?_ | fail)
    exact W_ret ⟨[_], ⟨rfl, rfl⟩, by rw [idxF_none (fun y => x == y) 0 l 0 (fun j hj => hp j (by omega))]; rfl⟩
theorem fn129 (l : List Int) (x : Int) (hl : l.length ≤ 1000000) : Sy.Fn Try.prog 129 [aI l, iv x] (bv (decide (x ∈ l))) := by
  refine Fn_of_W mixed Xt129 rfl ?_
  repeat' (first | refine w1g ?_ | refine w1l ?_ | refine w1q ?_ | refine w1b ?_ | refine w1p ?_ | ((first | refine w1r ?_ | refine w1k ?_ | refine w1e ?_ | refine CallC.now (fn138 l x hl) ?_); (refine sy1 ?_; try exact True.intro)) | refine an2 ?_ | fail)
  refine W_ret ⟨[_], ⟨rfl, rfl⟩, ?_⟩
  have e : decide (0 ≤ idxF (fun y => x == y) l 0) = decide (x ∈ l) := by
    rw [idxF_any _ l 0 (by omega), ← List.contains_eq_any_beq]
    rw [Bool.eq_iff_iff, List.contains_iff_mem, decide_eq_true_eq]
  rw [← e]; rfl
end Go.Proofs.Ytfbdlmenhoagmaa

namespace Go.Proofs.Ytfbdlmenhoagmaa
open Go Sy
set_option maxRecDepth 100000
set_option maxHeartbeats 4000000
set_option linter.unusedVariables false
set_option linter.unusedSimpArgs false
theorem fn89 (x : Int) : Sy.Fn Try.prog 89 [iv x] (bv (!inR x 0 1073741824)) := by
  refine Fn_of_W mixed Xt89 rfl ?_
  repeat' (first | refine w1g ?_ | refine w1l ?_ | refine w1q ?_ | refine w1b ?_ | refine w1p ?_ | ((first | refine w1r ?_ | refine w1k ?_ | refine w1e ?_ | refine CallC.now (fn85 _ _ _) ?_); (refine sy1 ?_; try exact True.intro)) | refine an2 ?_ | fail)
  exact W_ret ⟨[_], ⟨rfl, rfl⟩, rfl⟩
def li6 (f : Nat → Int) : List Int := [f 0, f 1, f 2, f 3, f 4, f 5]
theorem any6 (f : Nat → Int) : (List.any (li6 f) fun x => !inR x 0 1073741824) = !szB f := by
  unfold szB li6
  simp [List.range_succ, List.any_cons, List.all_append]
def szE (f : Nat → Int) : Int := if szB f = true then 0 else 2
theorem fn28 (f : Nat → Int) : Sy.Fn Try.prog 28 [.agg (c6 f)] (iv (szE f)) := by
  refine Fn_of_W mixed Xt28 rfl ?_
  have c88 := fn88 (li6 f) (Nat.le_of_ble_eq_true rfl) 89 [] [] (fun x => !inR x 0 1073741824) (fun x _ => fn89 x)
  rw [any6] at c88
  repeat' (first | refine w1g ?_ | refine w1l ?_ | refine w1q ?_ | refine w1b ?_ | refine w1p ?_ | ((first | refine w1r ?_ | refine w1k ?_ | refine w1e ?_); (refine sy1 ?_; try exact True.intro)) | refine an2 ?_ | fail)
  refine ⟨Int, 0, cI, li6 f, fun _ => ⟨trivial, rfl, by omega, fun x _ => rfl, rfl⟩, ?_⟩
  (refine sy1 ?_; try exact True.intro)
  repeat' (first | refine w1g ?_ | refine w1l ?_ | refine w1q ?_ | refine w1b ?_ | refine w1p ?_ | ((first | refine w1r ?_ | refine w1k ?_ | refine w1e ?_ | refine CallC.now (c88) ?_); (refine sy1 ?_; try exact True.intro)) | refine an2 ?_ | fail)
  unfold szE
  cases szB f
  · refine W_cond (by rfl) (fun _ => ?_) (fun h => by cases h)
    repeat' (first | refine w1g ?_ | refine w1l ?_ | refine w1q ?_ | refine w1b ?_ | refine w1p ?_ | ((first | refine w1r ?_ | refine w1k ?_ | refine w1e ?_); (refine sy1 ?_; try exact True.intro)) | refine an2 ?_ | fail)
    exact W_ret ⟨[_], ⟨rfl, rfl⟩, rfl⟩
  · refine W_cond (by rfl) (fun h => by cases h) (fun _ => ?_)
    repeat' (first | refine w1g ?_ | refine w1l ?_ | refine w1q ?_ | refine w1b ?_ | refine w1p ?_ | ((first | refine w1r ?_ | refine w1k ?_ | refine w1e ?_); (refine sy1 ?_; try exact True.intro)) | refine an2 ?_ | fail)
    exact W_ret ⟨[_], ⟨rfl, rfl⟩, rfl⟩
theorem fn29 (f : Nat → Int) : Sy.Fn Try.prog 29 [.agg (c6 f)] (iv (szE f)) := by
  refine Fn_of_W mixed Xt29 rfl ?_
  repeat' (first | refine w1g ?_ | refine w1l ?_ | refine w1q ?_ | refine w1b ?_ | refine w1p ?_ | ((first | refine w1r ?_ | refine w1k ?_ | refine w1e ?_); (refine sy1 ?_; try exact True.intro)) | refine an2 ?_ | fail)
  refine W_loopU (fun i : Nat => [(3, iv i)]) (fun i => []) (fun i => i ≤ 6 ∧ ∀ j, j < i → inR (f j) 0 1073741824 = true) (fun i => 6 - i) 0 ⟨by omega, fun j hj => by omega⟩ (by rfl) (by rfl) (fun i hi => ?_)
  obtain ⟨hi, hp⟩ := hi
  (refine sy1 ?_; try exact True.intro)
  repeat' (first | refine w1g ?_ | refine w1l ?_ | refine w1q ?_ | refine w1b ?_ | refine w1p ?_ | ((first | refine w1r ?_ | refine w1k ?_ | refine w1e ?_); (refine sy1 ?_; try exact True.intro)) | refine an2 ?_ | fail)
  refine W_condD (by rfl) (fun h => ?_) (fun h => ?_)
  · have hlt : i < 6 := by omega
    repeat' (first | refine w1g ?_ | refine w1l ?_ | refine w1q ?_ | refine w1b ?_ | refine w1p ?_ | ((first | refine w1r ?_ | refine w1k ?_ | refine w1e ?_ | refine CallC.now (fn66 _ _ _) ?_); simp (maxSteps := 400000) (disch := omega) only [push_cast, ↓reduceIte, reduceCtorEq, Nat.reduceAdd, Nat.reduceSub, Nat.reduceEqDiff, Nat.reduceLeDiff, Nat.reduceLT, Nat.reduceBEq, Nat.reduceDiv, Nat.reduceMod, Nat.reducePow, Nat.reduceMul, Int.reduceToNat, Int.reduceLT, Int.reduceLE, Nat.mul_one, Nat.zero_add]) | refine an2 ?_ | fail)
    refine W_cond (by rfl) (fun hb => ?_) (fun hb => ?_)
    · have e : szE f = 2 := by
        unfold szE szB
        rw [if_neg]
        intro q
        rw [List.all_eq_true] at q
        have := q i (List.mem_range.2 hlt)
        rw [this] at hb; cases hb
      rw [e]
      repeat' (first | refine w1g ?_ | refine w1l ?_ | refine w1q ?_ | refine w1b ?_ | refine w1p ?_ | ((first | refine w1r ?_ | refine w1k ?_ | refine w1e ?_); (refine sy1 ?_; try exact True.intro)) | refine an2 ?_ | fail)
      exact W_ret ⟨[_], ⟨rfl, rfl⟩, rfl⟩
    · repeat' (first | refine w1g ?_ | refine w1l ?_ | refine w1q ?_ | refine w1b ?_ | refine w1p ?_ | ((first | refine w1r ?_ | refine w1k ?_ | refine w1e ?_); (refine sy1 ?_; try exact True.intro)) | refine an2 ?_ | fail)
      refine ⟨i + 1, ⟨by omega, up_all hp (by simpa using hb)⟩, by omega, by rfl, ?_⟩
      (refine syE ?_; try exact True.intro)
  · have e : szE f = 0 := by
      unfold szE szB
      rw [if_pos]
      rw [List.all_eq_true]
      intro k hk
      have := List.mem_range.1 hk
      exact hp k (by omega)
    rw [e]
    repeat' (first | refine w1g ?_ | refine w1l ?_ | refine w1q ?_ | refine w1b ?_ | refine w1p ?_ | ((first | refine w1r ?_ | refine w1k ?_ | refine w1e ?_); (refine sy1 ?_; try exact True.intro)) | refine an2 ?_ | fail)
    exact W_ret ⟨[_], ⟨rfl, rfl⟩, rfl⟩
structure Gm (m : Mp) : Prop where
  r : m.rs.length ≤ 300
  w : m.ws.length ≤ 20
  s : ∀ w ∈ m.ws, w.rs.length ≤ 40
theorem fn82 (w : Wrk) : Sy.Fn Try.prog 82 [.agg (cW w)] (bv (decide (16 < w.rs.length))) := by
  refine Fn_of_W mixed Xt82 rfl ?_
  have e : decide ((16 : Int) < (w.rs.length : Int)) = decide (16 < w.rs.length) := by
    rw [Bool.eq_iff_iff, decide_eq_true_eq, decide_eq_true_eq]; omega
  rw [← e]
  repeat' (first | refine w1g ?_ | refine w1l ?_ | refine w1q ?_ | refine w1b ?_ | refine w1p ?_ | ((first | refine w1r ?_ | refine w1k ?_ | refine w1e ?_); (refine sy1 ?_; try exact True.intro)) | refine an2 ?_ | fail)
  exact W_ret ⟨[_], ⟨rfl, rfl⟩, rfl⟩
theorem fn83 (m : Mp) (x : Int) : Sy.Fn Try.prog 83 [iv x, .fp (cM m) 0] (bv (plB m.n x)) := by
  refine Fn_of_W mixed Xt83 rfl ?_
  repeat' (first | refine w1g ?_ | refine w1l ?_ | refine w1q ?_ | refine w1b ?_ | refine w1p ?_ | ((first | refine w1r ?_ | refine w1k ?_ | refine w1e ?_); (refine sy1 ?_; try exact True.intro)) | refine an2 ?_ | fail)
  exact W_ret ⟨[_], ⟨rfl, rfl⟩, rfl⟩
theorem hrs_wrap (r : Rd) : (decide (0 ≤ r.o) && decide (r.o < r.z) && decide (r.z ≤ 1440) && inR r.m 1 (min 1440 (IntKind.i64.wrap (r.z - r.o)))) = hrsB r := by
  unfold hrsB
  by_cases h : 0 ≤ r.o ∧ r.o < r.z ∧ r.z ≤ 1440
  · rw [wrap64 (by omega)]
  · have e : (decide (0 ≤ r.o) && decide (r.o < r.z) && decide (r.z ≤ 1440)) = false := by
      rw [← Bool.not_eq_true]
      simp only [Bool.and_eq_true, decide_eq_true_eq]
      omega
    rw [e]; rfl
theorem fn84 (m : Mp) (r : Rd) : Sy.Fn Try.prog 84 [.agg (cR r), .fp [.clo 83 [] [.fp (cM m) 0]] 0] (bv (!roadB m.n r)) := by
  refine Fn_of_W mixed Xt84 rfl ?_
  repeat' (first | refine w1g ?_ | refine w1l ?_ | refine w1q ?_ | refine w1b ?_ | refine w1p ?_ | ((first | refine w1r ?_ | refine w1k ?_ | refine w1e ?_ | refine CallC.now (fn85 _ _ _) ?_ | refine CallC.go _ (fun _ => ⟨trivial, fn85 _ _ _⟩) rfl ?_); (refine sy1 ?_; try exact True.intro)) | refine an2 ?_ | fail)
  rw [hrs_wrap]
  repeat' (first | refine w1g ?_ | refine w1l ?_ | refine w1q ?_ | refine w1b ?_ | refine w1p ?_ | ((first | refine w1r ?_ | refine w1k ?_ | refine w1e ?_ | refine CallC.now (fn83 _ _) ?_ | refine CallC.go _ (fun _ => ⟨trivial, fn83 _ _⟩) rfl ?_ | refine CallC.go _ (fun _ => ⟨trivial, fn85 _ _ _⟩) rfl ?_ | refine CallC.go _ (fun _ => ⟨trivial, fn28 _⟩) rfl ?_); (refine sy1 ?_; try exact True.intro)) | refine an2 ?_ | fail)
  refine W_ret ⟨[_], ⟨rfl, rfl⟩, ?_⟩
  have e : roadB m.n r = (plB m.n r.f && plB m.n r.t && !(r.f == r.t) && inR r.c 1 1073741824 && hrsB r && szB r.lim) := rfl
  rw [e]
  unfold szE
  generalize plB m.n r.f = b1
  generalize plB m.n r.t = b2
  generalize (r.f == r.t) = b3
  generalize inR r.c 1 1073741824 = b4
  generalize hrsB r = b5
  generalize szB r.lim = b6
  cases b1 <;> cases b2 <;> cases b3 <;> cases b4 <;> cases b5 <;> cases b6 <;> rfl
theorem workB_neg (n : Int) (w : Wrk) : ((w.rs.length : Int) == 0 || !setB w.rs n || decide (w.k < 0) || decide (5 < w.k) || !inR w.l 0 1073741824 || !inR w.c 1 1073741824) = !workB n w := by
  have e : workB n w = (decide (0 < w.rs.length) && setB w.rs n && decide (0 ≤ w.k) && decide (w.k ≤ 5) && inR w.l 0 1073741824 && inR w.c 1 1073741824) := rfl
  rw [e, Bool.eq_iff_iff]
  generalize setB w.rs n = b1
  generalize inR w.l 0 1073741824 = b2
  generalize inR w.c 1 1073741824 = b3
  simp only [Bool.or_eq_true, Bool.not_eq_true', Bool.and_eq_false_iff, decide_eq_true_eq, decide_eq_false_iff_not, beq_iff_eq]
  cases b1 <;> cases b2 <;> cases b3 <;> simp only [true_or, or_true, false_or, or_false, reduceCtorEq] <;> omega
theorem fn86 (m : Mp) (w : Wrk) (hl : w.rs.length ≤ 1000000) : Sy.Fn Try.prog 86 [.agg (cW w), .fp (cM m) 0] (bv (!workB m.rs.length w)) := by
  refine Fn_of_W mixed Xt86 rfl ?_
  repeat' (first | refine w1g ?_ | refine w1l ?_ | refine w1q ?_ | refine w1b ?_ | refine w1p ?_ | ((first | refine w1r ?_ | refine w1k ?_ | refine w1e ?_ | refine CallC.go _ (fun _ => ⟨trivial, fn73 _ _ (by omega)⟩) rfl ?_ | refine CallC.go _ (fun _ => ⟨trivial, fn85 _ _ _⟩) rfl ?_); (refine sy1 ?_; try exact True.intro)) | refine an2 ?_ | fail)
  rw [workB_neg]
  exact W_ret ⟨[_], ⟨rfl, rfl⟩, rfl⟩
theorem manyB_eq {m : Mp} (hr : decide ((256 : Int) < (m.rs.length : Int)) = decide (256 < m.rs.length)) : manyB m = (decide ((256 : Int) < (m.rs.length : Int)) || decide ((10 : Int) < (m.ws.length : Int)) || m.ws.any fun w => decide (16 < w.rs.length)) := by
  unfold manyB
  rw [hr]
  congr 2
  rw [Bool.eq_iff_iff, decide_eq_true_eq, decide_eq_true_eq]; omega
theorem fn27 (m : Mp) (h : Gm m) : Sy.Fn Try.prog 27 [aM m] (iv (chkM m)) := by
  refine Fn_of_W mixed Xt27 rfl ?_
  have h1 := h.r
  have h2 := h.w
  have c81a := fn81 m.ws (by omega) 82 [] [] (fun w => decide (16 < w.rs.length)) (fun w _ => fn82 w)
  have c81b := fn81 m.ws (by omega) 86 [] [.fp (cM m) 0] (fun w => !workB m.rs.length w) (fun w hw => fn86 m w (by have := h.s w hw; omega))
  have c87 := fn87 m.rs (by omega) 84 [] [.fp [.clo 83 [] [.fp (cM m) 0]] 0] (fun r => !roadB m.n r) (fun r _ => fn84 m r)
  repeat' (first | refine w1g ?_ | refine w1l ?_ | refine w1q ?_ | refine w1b ?_ | refine w1p ?_ | ((first | refine w1r ?_ | refine w1k ?_ | refine w1e ?_ | refine CallC.go _ (fun _ => ⟨trivial, c81a⟩) rfl ?_); (refine sy1 ?_; try exact True.intro)) | refine an2 ?_ | fail)
  have e1 := manyB_eq (m := m) (by rw [Bool.eq_iff_iff, decide_eq_true_eq, decide_eq_true_eq]; omega)
  rw [← e1]
  refine W_cond (by rfl) (fun hb => ?_) (fun hb => ?_)
  · have e : chkM m = 6 := by unfold chkM; rw [if_pos hb]
    rw [e]
    repeat' (first | refine w1g ?_ | refine w1l ?_ | refine w1q ?_ | refine w1b ?_ | refine w1p ?_ | ((first | refine w1r ?_ | refine w1k ?_ | refine w1e ?_); (refine sy1 ?_; try exact True.intro)) | refine an2 ?_ | fail)
    exact W_ret ⟨[_], ⟨rfl, rfl⟩, rfl⟩
  have hmn : ¬ manyB m = true := by rw [hb]; decide
  repeat' (first | refine w1g ?_ | refine w1l ?_ | refine w1q ?_ | refine w1b ?_ | refine w1p ?_ | ((first | refine w1r ?_ | refine w1k ?_ | refine w1e ?_ | refine CallC.go _ (fun _ => ⟨trivial, c87⟩) rfl ?_ | refine CallC.go _ (fun _ => ⟨trivial, c81b⟩) rfl ?_); (refine sy1 ?_; try exact True.intro)) | refine an2 ?_ | fail)
  have e2 : ((decide (m.n < 1) || decide (64 < m.n) || m.rs.any fun r => !roadB m.n r) || m.ws.any fun w => !workB (m.rs.length : Int) w) = badM m := rfl
  rw [e2]
  refine W_cond (by rfl) (fun hb => ?_) (fun hb => ?_)
  · have e : chkM m = 2 := by unfold chkM; rw [if_neg hmn, if_pos hb]
    rw [e]
    repeat' (first | refine w1g ?_ | refine w1l ?_ | refine w1q ?_ | refine w1b ?_ | refine w1p ?_ | ((first | refine w1r ?_ | refine w1k ?_ | refine w1e ?_); (refine sy1 ?_; try exact True.intro)) | refine an2 ?_ | fail)
    exact W_ret ⟨[_], ⟨rfl, rfl⟩, rfl⟩
  · have e : chkM m = 0 := by unfold chkM; rw [if_neg hmn, if_neg (by rw [hb]; decide)]
    rw [e]
    repeat' (first | refine w1g ?_ | refine w1l ?_ | refine w1q ?_ | refine w1b ?_ | refine w1p ?_ | ((first | refine w1r ?_ | refine w1k ?_ | refine w1e ?_); (refine sy1 ?_; try exact True.intro)) | refine an2 ?_ | fail)
    exact W_ret ⟨[_], ⟨rfl, rfl⟩, rfl⟩
theorem any_yes {α : Type} {l : List α} {q : α → Bool} {i : Nat} (d : α) (hi : i < l.length) (h : q (l.getD i d) = true) : l.any q = true := List.any_eq_true.2 ⟨_, getD_mem d l i hi, h⟩
theorem any_no {α : Type} {l : List α} {q : α → Bool} (d : α) (h : ∀ i, i < l.length → q (l.getD i d) = false) : l.any q = false := by
  rw [← Bool.not_eq_true, List.any_eq_true]
  rintro ⟨x, hx, hq⟩
  obtain ⟨i, hi⟩ := List.mem_iff_getElem?.1 hx
  have h1 := (List.getElem?_eq_some_iff.1 hi).1
  have := h i h1
  simp only [List.getD, hi, Option.getD_some] at this
  rw [this] at hq; cases hq
theorem road_neg (n : Int) (r : Rd) : (decide (r.f < 0) || decide (n ≤ r.f) || decide (r.t < 0) || decide (n ≤ r.t) || r.f == r.t || !inR r.c 1 1073741824 || !inR r.m 1 1440 || decide (r.o < 0) || decide (r.z ≤ r.o) || decide (1440 < r.z) || decide (IntKind.i64.wrap (r.z - r.o) < r.m) || (szE r.lim != 0)) = !roadB n r := by
  have e : roadB n r = (plB n r.f && plB n r.t && !(r.f == r.t) && inR r.c 1 1073741824 && hrsB r && szB r.lim) := rfl
  have e2 : (szE r.lim != 0) = !szB r.lim := by unfold szE; cases szB r.lim <;> rfl
  rw [e, e2]
  unfold hrsB plB inR
  generalize szB r.lim = b1
  by_cases h : 0 ≤ r.o ∧ r.o < r.z ∧ r.z ≤ 1440
  · rw [wrap64 (by omega), Bool.eq_iff_iff]
    simp only [Bool.or_eq_true, Bool.not_eq_true', Bool.and_eq_false_iff, Bool.and_eq_true, Bool.not_eq_false', decide_eq_true_eq, decide_eq_false_iff_not, beq_iff_eq, beq_eq_false_iff_ne]
    cases b1 <;> simp only [true_or, or_true, false_or, or_false, reduceCtorEq, true_iff] <;> omega
  · have h2 : (decide (r.o < 0) || decide (r.z ≤ r.o) || decide (1440 < r.z)) = true := by
      simp only [Bool.or_eq_true, decide_eq_true_eq]; omega
    have h3 : (decide (0 ≤ r.o) && decide (r.o < r.z) && decide (r.z ≤ 1440)) = false := by
      rw [← Bool.not_eq_true]; simp only [Bool.and_eq_true, decide_eq_true_eq]; omega
    rw [h3]
    have h4 : ∀ a b c d e f g : Bool, (d || e || f) = true → (a || d || e || f || b || c) = true := by intro a b c d e f g; cases a <;> cases b <;> cases c <;> cases d <;> cases e <;> cases f <;> simp
    rw [h4 _ _ _ _ _ _ true h2]
    simp
theorem work_neg (n : Int) (w : Wrk) : (decide ((w.rs.length : Int) < 1) || decide (w.k < 0) || decide (5 < w.k) || !inR w.l 0 1073741824 || !inR w.c 1 1073741824 || !setB w.rs n) = !workB n w := by
  have e : workB n w = (decide (0 < w.rs.length) && setB w.rs n && decide (0 ≤ w.k) && decide (w.k ≤ 5) && inR w.l 0 1073741824 && inR w.c 1 1073741824) := rfl
  rw [e, Bool.eq_iff_iff]
  generalize setB w.rs n = b1
  generalize inR w.l 0 1073741824 = b2
  generalize inR w.c 1 1073741824 = b3
  simp only [Bool.or_eq_true, Bool.not_eq_true', Bool.and_eq_false_iff, decide_eq_true_eq, decide_eq_false_iff_not, beq_iff_eq]
  cases b1 <;> cases b2 <;> cases b3 <;> simp only [true_or, or_true, false_or, or_false, reduceCtorEq] <;> omega
end Go.Proofs.Ytfbdlmenhoagmaa

namespace Go.Proofs.Ytfbdlmenhoagmaa
open Go Sy
set_option maxRecDepth 100000
set_option maxHeartbeats 4000000
set_option linter.unusedVariables false
set_option linter.unusedSimpArgs false
theorem fn16 (m : Mp) (h : Gm m) : Sy.Fn Try.prog 16 [aM m] (iv (chkM m)) := by
  refine Fn_of_W mixed Xt16 rfl ?_
  have h1 := h.r
  have h2 := h.w
  repeat' (first | refine w1g ?_ | refine w1l ?_ | refine w1q ?_ | refine w1b ?_ | refine w1p ?_ | ((first | refine w1r ?_ | refine w1k ?_ | refine w1e ?_); (refine sy1 ?_; try exact True.intro)) | refine an2 ?_ | fail)
  refine W_cond (by rfl) (fun hb => ?_) (fun hb => ?_)
  · have e : chkM m = 6 := by
      unfold chkM manyB
      rw [if_pos]
      simp only [Bool.or_eq_true, decide_eq_true_eq] at hb ⊢
      omega
    rw [e]
    repeat' (first | refine w1g ?_ | refine w1l ?_ | refine w1q ?_ | refine w1b ?_ | refine w1p ?_ | ((first | refine w1r ?_ | refine w1k ?_ | refine w1e ?_); (refine sy1 ?_; try exact True.intro)) | refine an2 ?_ | fail)
    exact W_ret ⟨[_], ⟨rfl, rfl⟩, rfl⟩
  simp only [Bool.or_eq_false_iff, decide_eq_false_iff_not] at hb
  repeat' (first | refine w1g ?_ | refine w1l ?_ | refine w1q ?_ | refine w1b ?_ | refine w1p ?_ | ((first | refine w1r ?_ | refine w1k ?_ | refine w1e ?_); (refine sy1 ?_; try exact True.intro)) | refine an2 ?_ | fail)
  refine W_loopU (fun i : Nat => [(3, iv i)]) (fun i => []) (fun i => i ≤ m.ws.length ∧ ∀ j, j < i → decide (16 < (gw m j).rs.length) = false) (fun i => m.ws.length - i) 0 ⟨by omega, fun j hj => by omega⟩ (by rfl) (by rfl) (fun i hi => ?_)
  obtain ⟨hi, hp⟩ := hi
  (refine sy1 ?_; try exact True.intro)
  repeat' (first | refine w1g ?_ | refine w1l ?_ | refine w1q ?_ | refine w1b ?_ | refine w1p ?_ | ((first | refine w1r ?_ | refine w1k ?_ | refine w1e ?_); (refine sy1 ?_; try exact True.intro)) | refine an2 ?_ | fail)
  refine W_condD (by rfl) (fun h5 => ?_) (fun h5 => ?_)
  · have hlt : i < m.ws.length := by omega
    have hgw : m.ws.getD i dW = gw m i := rfl
    have hgl : (gw m i).rs.length = (m.ws.getD i dW).rs.length := rfl
    repeat' (first | refine w1g ?_ | refine w1l ?_ | refine w1q ?_ | refine w1b ?_ | refine w1p ?_ | ((first | refine w1r ?_ | refine w1k ?_ | refine w1e ?_); simp (maxSteps := 400000) (disch := omega) only [push_cast, ↓reduceIte, reduceCtorEq, Nat.reduceAdd, Nat.reduceSub, Nat.reduceEqDiff, Nat.reduceLeDiff, Nat.reduceLT, Nat.reduceBEq, Nat.reduceDiv, Nat.reduceMod, Nat.reducePow, Nat.reduceMul, Int.reduceToNat, Int.reduceLT, Int.reduceLE, hgw]) | refine an2 ?_ | fail)
    refine W_condD (by rfl) (fun h6 => ?_) (fun h6 => ?_)
    · have e : chkM m = 6 := by
        unfold chkM manyB
        rw [if_pos]
        rw [any_yes dW hlt (decide_eq_true (by omega))]
        simp
      rw [e]
      repeat' (first | refine w1g ?_ | refine w1l ?_ | refine w1q ?_ | refine w1b ?_ | refine w1p ?_ | ((first | refine w1r ?_ | refine w1k ?_ | refine w1e ?_); (refine sy1 ?_; try exact True.intro)) | refine an2 ?_ | fail)
      exact W_ret ⟨[_], ⟨rfl, rfl⟩, rfl⟩
    · repeat' (first | refine w1g ?_ | refine w1l ?_ | refine w1q ?_ | refine w1b ?_ | refine w1p ?_ | ((first | refine w1r ?_ | refine w1k ?_ | refine w1e ?_); (refine sy1 ?_; try exact True.intro)) | refine an2 ?_ | fail)
      refine ⟨i + 1, ⟨by omega, up_all hp (decide_eq_false (by omega))⟩, by omega, by rfl, ?_⟩
      (refine syE ?_; try exact True.intro)
  have hmn : ¬ manyB m = true := by
    unfold manyB
    rw [any_no dW (fun j hj => hp j (by omega))]
    simp only [Bool.or_eq_true, decide_eq_true_eq]
    simp
    omega
  have hc : chkM m = if badM m = true then 2 else 0 := by unfold chkM; rw [if_neg hmn]
  clear hp h5 hi
  repeat' (first | refine w1g ?_ | refine w1l ?_ | refine w1q ?_ | refine w1b ?_ | refine w1p ?_ | ((first | refine w1r ?_ | refine w1k ?_ | refine w1e ?_); (refine sy1 ?_; try exact True.intro)) | refine an2 ?_ | fail)
  refine W_cond (by rfl) (fun hb2 => ?_) (fun hb2 => ?_)
  · have e : chkM m = 2 := by
      rw [hc, if_pos]
      unfold badM
      rw [hb2]; simp
    rw [e]
    repeat' (first | refine w1g ?_ | refine w1l ?_ | refine w1q ?_ | refine w1b ?_ | refine w1p ?_ | ((first | refine w1r ?_ | refine w1k ?_ | refine w1e ?_); (refine sy1 ?_; try exact True.intro)) | refine an2 ?_ | fail)
    exact W_ret ⟨[_], ⟨rfl, rfl⟩, rfl⟩
  repeat' (first | refine w1g ?_ | refine w1l ?_ | refine w1q ?_ | refine w1b ?_ | refine w1p ?_ | ((first | refine w1r ?_ | refine w1k ?_ | refine w1e ?_); (refine sy1 ?_; try exact True.intro)) | refine an2 ?_ | fail)
  refine W_loopU (fun i : Nat => [(4, iv i)]) (fun i => []) (fun i => i ≤ m.rs.length ∧ ∀ j, j < i → (!roadB m.n (gr m j)) = false) (fun i => m.rs.length - i) 0 ⟨by omega, fun j hj => by omega⟩ (by rfl) (by rfl) (fun i hi => ?_)
  obtain ⟨hi, hp⟩ := hi
  (refine sy1 ?_; try exact True.intro)
  repeat' (first | refine w1g ?_ | refine w1l ?_ | refine w1q ?_ | refine w1b ?_ | refine w1p ?_ | ((first | refine w1r ?_ | refine w1k ?_ | refine w1e ?_); (refine sy1 ?_; try exact True.intro)) | refine an2 ?_ | fail)
  refine W_condD (by rfl) (fun h5 => ?_) (fun h5 => ?_)
  · have hlt : i < m.rs.length := by omega
    have hgr : m.rs.getD i dR = gr m i := rfl
    repeat' (first | refine w1g ?_ | refine w1l ?_ | refine w1q ?_ | refine w1b ?_ | refine w1p ?_ | ((first | refine w1r ?_ | refine w1k ?_ | refine w1e ?_ | refine CallC.go _ (fun _ => ⟨trivial, fn66 _ _ _⟩) rfl ?_ | refine CallC.go _ (fun _ => ⟨trivial, fn29 _⟩) rfl ?_); simp (maxSteps := 400000) (disch := omega) only [push_cast, ↓reduceIte, reduceCtorEq, Nat.reduceAdd, Nat.reduceSub, Nat.reduceEqDiff, Nat.reduceLeDiff, Nat.reduceLT, Nat.reduceBEq, Nat.reduceDiv, Nat.reduceMod, Nat.reducePow, Nat.reduceMul, Int.reduceToNat, Int.reduceLT, Int.reduceLE, hgr]) | refine an2 ?_ | fail)
    rw [road_neg]
    refine W_cond (by rfl) (fun h6 => ?_) (fun h6 => ?_)
    · have e : chkM m = 2 := by
        rw [hc, if_pos]
        unfold badM
        rw [any_yes (q := fun r => !roadB m.n r) dR hlt h6]; simp
      rw [e]
      repeat' (first | refine w1g ?_ | refine w1l ?_ | refine w1q ?_ | refine w1b ?_ | refine w1p ?_ | ((first | refine w1r ?_ | refine w1k ?_ | refine w1e ?_); (refine sy1 ?_; try exact True.intro)) | refine an2 ?_ | fail)
      exact W_ret ⟨[_], ⟨rfl, rfl⟩, rfl⟩
    · repeat' (first | refine w1g ?_ | refine w1l ?_ | refine w1q ?_ | refine w1b ?_ | refine w1p ?_ | ((first | refine w1r ?_ | refine w1k ?_ | refine w1e ?_); (refine sy1 ?_; try exact True.intro)) | refine an2 ?_ | fail)
      refine ⟨i + 1, ⟨by omega, up_all hp h6⟩, by omega, by rfl, ?_⟩
      (refine syE ?_; try exact True.intro)
  have hra : (m.rs.any fun r => !roadB m.n r) = false := any_no dR (fun j hj => hp j (by omega))
  clear hp h5 hi
  repeat' (first | refine w1g ?_ | refine w1l ?_ | refine w1q ?_ | refine w1b ?_ | refine w1p ?_ | ((first | refine w1r ?_ | refine w1k ?_ | refine w1e ?_); (refine sy1 ?_; try exact True.intro)) | refine an2 ?_ | fail)
  refine W_loopU (fun i : Nat => [(6, iv i)]) (fun i => []) (fun i => i ≤ m.ws.length ∧ ∀ j, j < i → (!workB m.rs.length (gw m j)) = false) (fun i => m.ws.length - i) 0 ⟨by omega, fun j hj => by omega⟩ (by rfl) (by rfl) (fun i hi => ?_)
  obtain ⟨hi, hp⟩ := hi
  (refine sy1 ?_; try exact True.intro)
  repeat' (first | refine w1g ?_ | refine w1l ?_ | refine w1q ?_ | refine w1b ?_ | refine w1p ?_ | ((first | refine w1r ?_ | refine w1k ?_ | refine w1e ?_); (refine sy1 ?_; try exact True.intro)) | refine an2 ?_ | fail)
  refine W_condD (by rfl) (fun h5 => ?_) (fun h5 => ?_)
  · have hlt : i < m.ws.length := by omega
    have hgw : m.ws.getD i dW = gw m i := rfl
    have hwl := h.s (gw m i) (getD_mem dW _ i hlt)
    repeat' (first | refine w1g ?_ | refine w1l ?_ | refine w1q ?_ | refine w1b ?_ | refine w1p ?_ | ((first | refine w1r ?_ | refine w1k ?_ | refine w1e ?_ | refine CallC.go _ (fun _ => ⟨trivial, fn66 _ _ _⟩) rfl ?_ | refine CallC.go _ (fun _ => ⟨trivial, fn67 _ _ (by omega)⟩) rfl ?_); simp (maxSteps := 400000) (disch := omega) only [push_cast, ↓reduceIte, reduceCtorEq, Nat.reduceAdd, Nat.reduceSub, Nat.reduceEqDiff, Nat.reduceLeDiff, Nat.reduceLT, Nat.reduceBEq, Nat.reduceDiv, Nat.reduceMod, Nat.reducePow, Nat.reduceMul, Int.reduceToNat, Int.reduceLT, Int.reduceLE, hgw]) | refine an2 ?_ | fail)
    rw [work_neg]
    refine W_cond (by rfl) (fun h6 => ?_) (fun h6 => ?_)
    · have e : chkM m = 2 := by
        rw [hc, if_pos]
        unfold badM
        rw [any_yes (q := fun w => !workB m.rs.length w) dW hlt h6]; simp
      rw [e]
      repeat' (first | refine w1g ?_ | refine w1l ?_ | refine w1q ?_ | refine w1b ?_ | refine w1p ?_ | ((first | refine w1r ?_ | refine w1k ?_ | refine w1e ?_); (refine sy1 ?_; try exact True.intro)) | refine an2 ?_ | fail)
      exact W_ret ⟨[_], ⟨rfl, rfl⟩, rfl⟩
    · repeat' (first | refine w1g ?_ | refine w1l ?_ | refine w1q ?_ | refine w1b ?_ | refine w1p ?_ | ((first | refine w1r ?_ | refine w1k ?_ | refine w1e ?_); (refine sy1 ?_; try exact True.intro)) | refine an2 ?_ | fail)
      refine ⟨i + 1, ⟨by omega, up_all hp h6⟩, by omega, by rfl, ?_⟩
      (refine syE ?_; try exact True.intro)
  have hwa : (m.ws.any fun w => !workB m.rs.length w) = false := any_no dW (fun j hj => hp j (by omega))
  have e : chkM m = 0 := by
    rw [hc, if_neg]
    unfold badM
    rw [hb2, hra, hwa]
    decide
  rw [e]
  repeat' (first | refine w1g ?_ | refine w1l ?_ | refine w1q ?_ | refine w1b ?_ | refine w1p ?_ | ((first | refine w1r ?_ | refine w1k ?_ | refine w1e ?_); (refine sy1 ?_; try exact True.intro)) | refine an2 ?_ | fail)
  exact W_ret ⟨[_], ⟨rfl, rfl⟩, rfl⟩
end Go.Proofs.Ytfbdlmenhoagmaa

