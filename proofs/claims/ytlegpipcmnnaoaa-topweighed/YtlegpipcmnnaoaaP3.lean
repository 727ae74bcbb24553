/- Part 3 of the proof of: For every list of boxes, every place and both ways to lay the load the law TopWeighed returns true. -/
import Derived.Test.YtlegpipcmnnaoaaP2
import Derived.Test.YtlegpipcmnnaoaaChecked
import Derived.Lib.Mul64
import Derived.Laws.Bits64b
import Derived.Shelf.Strings.FuncGrows
namespace Go.Proofs.Ytlegpipcmnnaoaa
open Go Sy
set_option maxRecDepth 100000
def Xn4_1 : C := regL [0, 1, 2] none [⟨some 6, .mv (.const (.bool false)), none⟩]
def Xn4_3 : C := regL [0, 1, 2, 7] none [⟨some 20, .call 5 [], none⟩, ⟨some 7, .alc 26 (.agg #[.string ⟨#[]⟩, .slice none 0 0, .int .i64 0, .int .i64 0]), none⟩, ⟨none, .st 26 4 (.tmp 7) (.tmp 20), none⟩]
def Xn4_6 : C := regL [0, 1, 7, 21] none [⟨some 21, .mv (.tmp 2), none⟩]
def Xn4_8 : C := regL [0, 1, 7] none [⟨some 22, .fa 2 (.tmp 7), none⟩, ⟨none, .st 3 1 (.tmp 22) (.const (.int .i64 0)), none⟩]
def Xn4_7 : C := .cond (.tmp 21) Xn4_8 .skip
def Xn4_5 : C := .seq Xn4_6 Xn4_7
def Xn4_11 : C := regL [1, 7, 8] none [⟨some 23, .mv (.tmp 0), none⟩, ⟨some 24, .call 7 [.tmp 23], none⟩, ⟨some 8, .alc 34 (.agg #[.string ⟨#[]⟩, .slice none 0 0, .slice none 0 0, .int .i64 0]), none⟩, ⟨none, .st 34 4 (.tmp 8) (.tmp 24), none⟩]
def Xn4_13 : C := regL [1, 7, 9, 10] none [⟨some 26, .ld 34 4 true (.tmp 8), none⟩, ⟨some 27, .call 6 [.tmp 26], none⟩, ⟨some 25, .mv (.tmp 27), none⟩, ⟨some 28, .ext 0 (.tmp 25), none⟩, ⟨some 29, .ext 1 (.tmp 25), none⟩, ⟨some 9, .mv (.tmp 28), none⟩, ⟨some 10, .mv (.tmp 29), none⟩]
def Xn4_15 : C := regL [1, 7, 9, 10, 11, 12] none [⟨some 31, .ld 26 4 true (.tmp 7), none⟩, ⟨some 32, .call 8 [.tmp 31], none⟩, ⟨some 30, .mv (.tmp 32), none⟩, ⟨some 33, .ext 0 (.tmp 30), none⟩, ⟨some 34, .ext 1 (.tmp 30), none⟩, ⟨some 11, .mv (.tmp 33), none⟩, ⟨some 12, .mv (.tmp 34), none⟩]
def Xn4_18 : C := regL [1, 7, 9, 10, 11, 36] none [⟨some 35, .mv (.tmp 12), none⟩, ⟨some 36, .bin 28 .neq (.tmp 35) (.const (.int .i64 0)), none⟩]
def Xn4_21 : C := regL [6] none [⟨some 6, .mv (.const (.bool false)), none⟩]
def Xn4_20 : C := .seq Xn4_21 .ret
def Xn4_19 : C := .cond (.tmp 36) Xn4_20 .skip
def Xn4_17 : C := .seq Xn4_18 Xn4_19
def Xn4_26 : C := regL [1, 7, 9, 10, 11, 38] none [⟨some 37, .mv (.tmp 10), none⟩, ⟨some 38, .bin 28 .neq (.tmp 37) (.const (.int .i64 0)), none⟩]
def Xn4_29 : C := regL [6] none [⟨some 39, .mv (.tmp 10), none⟩, ⟨some 40, .bin 28 .eql (.tmp 39) (.const (.int .i64 6)), none⟩, ⟨some 41, .mv (.tmp 40), none⟩, ⟨some 42, .call 9 [], some (41, true)⟩, ⟨some 43, .pick 41 (.tmp 42) (.const (.bool false)), none⟩, ⟨some 6, .mv (.tmp 43), none⟩]
def Xn4_28 : C := .seq Xn4_29 .ret
def Xn4_27 : C := .cond (.tmp 38) Xn4_28 .skip
def Xn4_25 : C := .seq Xn4_26 Xn4_27
def Xn4_33 : C := regL [7, 9, 11, 13] none [⟨some 44, .mv (.tmp 1), none⟩, ⟨some 45, .cvt .i64 (.tmp 44), none⟩, ⟨some 46, .bin 2 .rem (.tmp 45) (.const (.int .i64 6001)), none⟩, ⟨some 13, .mv (.tmp 46), none⟩]
def Xn4_35 : C := regL [7, 9, 10, 11, 13, 14] none [⟨some 48, .ld 26 4 true (.tmp 7), none⟩, ⟨some 49, .mv (.tmp 9), none⟩, ⟨some 50, .mv (.tmp 13), none⟩, ⟨some 51, .call 10 [.tmp 48, .tmp 49, .const (.int .i64 6000), .tmp 50], none⟩, ⟨some 47, .mv (.tmp 51), none⟩, ⟨some 52, .ext 0 (.tmp 47), none⟩, ⟨some 53, .ext 1 (.tmp 47), none⟩, ⟨some 14, .mv (.tmp 52), none⟩, ⟨some 10, .mv (.tmp 53), none⟩]
def Xn4_38 : C := regL [7, 9, 10, 11, 13, 14, 55] none [⟨some 54, .mv (.tmp 10), none⟩, ⟨some 55, .bin 28 .neq (.tmp 54) (.const (.int .i64 0)), none⟩]
def Xn4_41 : C := regL [6] none [⟨some 56, .mv (.tmp 10), none⟩, ⟨some 57, .bin 28 .eql (.tmp 56) (.const (.int .i64 14)), none⟩, ⟨some 58, .mv (.tmp 57), none⟩, ⟨some 59, .call 9 [], some (58, true)⟩, ⟨some 60, .pick 58 (.tmp 59) (.const (.bool false)), none⟩, ⟨some 6, .mv (.tmp 60), none⟩]
def Xn4_40 : C := .seq Xn4_41 .ret
def Xn4_39 : C := .cond (.tmp 55) Xn4_40 .skip
def Xn4_37 : C := .seq Xn4_38 Xn4_39
def Xn4_46 : C := regL [7, 9, 11, 13, 14, 66] none [⟨some 61, .mv (.tmp 14), none⟩, ⟨some 62, .len (.tmp 61), none⟩, ⟨some 63, .fa 1 (.tmp 7), none⟩, ⟨some 64, .ld 24 1 false (.tmp 63), none⟩, ⟨some 65, .len (.tmp 64), none⟩, ⟨some 66, .bin 3 .neq (.tmp 62) (.tmp 65), none⟩]
def Xn4_49 : C := regL [6] none [⟨some 6, .mv (.const (.bool false)), none⟩]
def Xn4_48 : C := .seq Xn4_49 .ret
def Xn4_47 : C := .cond (.tmp 66) Xn4_48 .skip
def Xn4_45 : C := .seq Xn4_46 Xn4_47
def Xn4_53 : C := regL [7, 9, 11, 13, 14, 15, 16] none [⟨some 15, .mv (.const (.int .i64 0)), none⟩, ⟨some 16, .mv (.const (.int .i64 0)), none⟩]
def Xn4_56 : C := regL [7, 9, 11, 13, 14, 15, 16, 17] none [⟨some 17, .mv (.const (.int .i64 0)), none⟩]
def Xn4_61 : C := regL [7, 9, 11, 13, 14, 15, 16, 17, 70] none [⟨some 67, .mv (.tmp 17), none⟩, ⟨some 68, .mv (.tmp 14), none⟩, ⟨some 69, .len (.tmp 68), none⟩, ⟨some 70, .bin 3 .lss (.tmp 67) (.tmp 69), none⟩]
def Xn4_62 : C := .cond (.tmp 70) .skip (.exit 0)
def Xn4_60 : C := .seq Xn4_61 Xn4_62
def Xn4_68 : C := regL [7, 9, 11, 13, 14, 15, 16, 17, 18] none [⟨some 73, .fa 1 (.tmp 7), none⟩, ⟨some 74, .ld 24 1 false (.tmp 73), none⟩, ⟨some 75, .mv (.tmp 17), none⟩, ⟨some 76, .ia 11 (.tmp 74) (.tmp 75), none⟩, ⟨some 77, .fa 10 (.tmp 76), none⟩, ⟨some 78, .ld 42 1 false (.tmp 77), none⟩, ⟨some 79, .len (.tmp 78), none⟩, ⟨some 18, .mv (.tmp 79), none⟩]
def Xn4_70 : C := regL [7, 9, 11, 13, 14, 15, 16, 17, 18] none [⟨some 80, .mv (.tmp 15), none⟩, ⟨some 81, .mv (.tmp 14), none⟩, ⟨some 82, .mv (.tmp 17), none⟩, ⟨some 83, .ia 1 (.tmp 81) (.tmp 82), none⟩, ⟨some 84, .ld 2 1 false (.tmp 83), none⟩, ⟨some 85, .mv (.tmp 18), none⟩, ⟨some 86, .bin 2 .mul (.tmp 84) (.tmp 85), none⟩, ⟨some 87, .bin 2 .add (.tmp 80) (.tmp 86), none⟩, ⟨some 15, .mv (.tmp 87), none⟩]
def Xn4_71 : C := regL [7, 9, 11, 13, 14, 15, 16, 17] none [⟨some 88, .mv (.tmp 16), none⟩, ⟨some 89, .mv (.tmp 18), none⟩, ⟨some 90, .bin 2 .add (.tmp 88) (.tmp 89), none⟩, ⟨some 16, .mv (.tmp 90), none⟩]
def Xn4_69 : C := .seq Xn4_70 Xn4_71
def Xn4_67 : C := .seq Xn4_68 Xn4_69
def Xn4_66 : C := .block 1 Xn4_67
def Xn4_72 : C := regL [7, 9, 11, 13, 14, 15, 16, 17] none [⟨some 71, .mv (.tmp 17), none⟩, ⟨some 72, .bin 3 .add (.tmp 71) (.const (.int .i64 1)), none⟩, ⟨some 17, .mv (.tmp 72), none⟩]
def Xn4_65 : C := seqL [7, 9, 11, 13, 14, 15, 16, 17] Xn4_66 Xn4_72
def Xn4_59 : C := seqL [7, 9, 11, 13, 14, 15, 16, 17] Xn4_60 Xn4_65
def Xn4_58 : C := loopL [7, 9, 11, 13, 14, 15, 16, 17] Xn4_59
def Xn4_57 : C := .block 0 Xn4_58
def Xn4_55 : C := .seq Xn4_56 Xn4_57
def Xn4_75 : C := regL [7, 9, 13, 14, 105] none [⟨some 91, .mv (.tmp 15), none⟩, ⟨some 92, .mv (.tmp 11), none⟩, ⟨some 93, .mv (.tmp 9), none⟩, ⟨some 94, .bin 2 .add (.tmp 92) (.tmp 93), none⟩, ⟨some 95, .bin 2 .lss (.tmp 91) (.tmp 94), none⟩, ⟨some 96, .mv (.tmp 95), none⟩, ⟨some 97, .mv (.tmp 15), some (96, false)⟩, ⟨some 98, .mv (.tmp 11), some (96, false)⟩, ⟨some 99, .mv (.tmp 9), some (96, false)⟩, ⟨some 100, .bin 2 .add (.tmp 98) (.tmp 99), some (96, false)⟩, ⟨some 101, .mv (.tmp 16), some (96, false)⟩, ⟨some 102, .bin 2 .add (.tmp 100) (.tmp 101), some (96, false)⟩, ⟨some 103, .bin 2 .add (.tmp 102) (.const (.int .i64 1)), some (96, false)⟩, ⟨some 104, .bin 2 .gtr (.tmp 97) (.tmp 103), some (96, false)⟩, ⟨some 105, .pick 96 (.const (.bool true)) (.tmp 104), none⟩]
def Xn4_78 : C := regL [6] none [⟨some 6, .mv (.const (.bool false)), none⟩]
def Xn4_77 : C := .seq Xn4_78 .ret
def Xn4_76 : C := .cond (.tmp 105) Xn4_77 .skip
def Xn4_74 : C := .seq Xn4_75 Xn4_76
def Xn4_82 : C := regL [10, 14, 19] none [⟨some 107, .ld 26 4 true (.tmp 7), none⟩, ⟨some 108, .mv (.tmp 9), none⟩, ⟨some 109, .bin 2 .add (.tmp 108) (.const (.int .i64 1)), none⟩, ⟨some 110, .bin 2 .quo (.tmp 109) (.const (.int .i64 2)), none⟩, ⟨some 111, .mv (.tmp 13), none⟩, ⟨some 112, .call 10 [.tmp 107, .tmp 110, .const (.int .i64 6000), .tmp 111], none⟩, ⟨some 106, .mv (.tmp 112), none⟩, ⟨some 113, .ext 0 (.tmp 106), none⟩, ⟨some 114, .ext 1 (.tmp 106), none⟩, ⟨some 19, .mv (.tmp 113), none⟩, ⟨some 10, .mv (.tmp 114), none⟩]
def Xn4_84 : C := regL [6] (some [0, 1, 3, 7, 15, 7, 39, 127, 255, 511, 1023, 2047, 4095, 1023, 9215, 25599, 65535, 131071, 262143, 524287, 1048575, 2097151, 524287, 4718591, 13107199, 33554431, 67108863, 134217727, 268435455, 536870911, 1073741823]) [⟨some 115, .mv (.tmp 10), none⟩, ⟨some 116, .bin 28 .eql (.tmp 115) (.const (.int .i64 0)), none⟩, ⟨some 117, .mv (.tmp 116), none⟩, ⟨some 118, .mv (.tmp 19), some (117, true)⟩, ⟨some 119, .len (.tmp 118), some (117, true)⟩, ⟨some 120, .mv (.tmp 14), some (117, true)⟩, ⟨some 121, .len (.tmp 120), some (117, true)⟩, ⟨some 122, .bin 3 .eql (.tmp 119) (.tmp 121), some (117, true)⟩, ⟨some 123, .pick 117 (.tmp 122) (.const (.bool false)), none⟩, ⟨some 124, .mv (.tmp 123), none⟩, ⟨some 125, .mv (.tmp 19), some (124, true)⟩, ⟨some 126, .ia 1 (.tmp 125) (.const (.int .i64 0)), some (124, true)⟩, ⟨some 127, .ld 2 1 false (.tmp 126), some (124, true)⟩, ⟨some 128, .mv (.tmp 14), some (124, true)⟩, ⟨some 129, .ia 1 (.tmp 128) (.const (.int .i64 0)), some (124, true)⟩, ⟨some 130, .ld 2 1 false (.tmp 129), some (124, true)⟩, ⟨some 131, .bin 2 .leq (.tmp 127) (.tmp 130), some (124, true)⟩, ⟨some 132, .pick 124 (.tmp 131) (.const (.bool false)), none⟩, ⟨some 133, .mv (.tmp 132), none⟩, ⟨some 134, .mv (.tmp 19), some (133, true)⟩, ⟨some 135, .ia 1 (.tmp 134) (.const (.int .i64 1)), some (133, true)⟩, ⟨some 136, .ld 2 1 false (.tmp 135), some (133, true)⟩, ⟨some 137, .mv (.tmp 14), some (133, true)⟩, ⟨some 138, .ia 1 (.tmp 137) (.const (.int .i64 1)), some (133, true)⟩, ⟨some 139, .ld 2 1 false (.tmp 138), some (133, true)⟩, ⟨some 140, .bin 2 .leq (.tmp 136) (.tmp 139), some (133, true)⟩, ⟨some 141, .pick 133 (.tmp 140) (.const (.bool false)), none⟩, ⟨some 142, .mv (.tmp 141), none⟩, ⟨some 143, .call 9 [], some (142, true)⟩, ⟨some 144, .pick 142 (.tmp 143) (.const (.bool false)), none⟩, ⟨some 6, .mv (.tmp 144), none⟩]
def Xn4_83 : C := .seq Xn4_84 .ret
def Xn4_81 : C := .seq Xn4_82 Xn4_83
def Xn4_73 : C := seqL [7, 9, 13, 14] Xn4_74 Xn4_81
def Xn4_54 : C := seqL [7, 9, 11, 13, 14, 15, 16] Xn4_55 Xn4_73
def Xn4_52 : C := .seq Xn4_53 Xn4_54
def Xn4_44 : C := seqL [7, 9, 11, 13, 14] Xn4_45 Xn4_52
def Xn4_36 : C := seqL [7, 9, 11, 13, 14] Xn4_37 Xn4_44
def Xn4_34 : C := .seq Xn4_35 Xn4_36
def Xn4_32 : C := .seq Xn4_33 Xn4_34
def Xn4_24 : C := seqL [1, 7, 9, 11] Xn4_25 Xn4_32
def Xn4_16 : C := seqL [1, 7, 9, 10, 11] Xn4_17 Xn4_24
def Xn4_14 : C := .seq Xn4_15 Xn4_16
def Xn4_12 : C := .seq Xn4_13 Xn4_14
def Xn4_10 : C := .seq Xn4_11 Xn4_12
def Xn4_4 : C := seqL [0, 1, 7] Xn4_5 Xn4_10
def Xn4_2 : C := .seq Xn4_3 Xn4_4
def Xn4_0 : C := .seq Xn4_1 Xn4_2
theorem Xt4 : Text Try.prog 4 Xn4_0 145 3 [.t 6] := ⟨⟨Try.f4, [], Try.func4, by kernel_rfl, by kernel_rfl, by kernel_rfl, by kernel_rfl⟩⟩
def Xn5_1 : C := regL [0] none [⟨some 0, .alc 26 (.agg #[.string ⟨#[]⟩, .slice none 0 0, .int .i64 0, .int .i64 0]), none⟩]
def Xn5_3 : C := regL [0] none [⟨some 1, .bld (.agg #[.int .i64 0, .int .i64 0, .int .i64 0]) [(0, 1, .const (.int .i64 0)), (1, 1, .const (.int .i64 8000)), (2, 1, .const (.int .i64 2))], none⟩, ⟨some 2, .bld (.agg #[.int .i64 0, .int .i64 0, .int .i64 0]) [(0, 1, .const (.int .i64 3000)), (1, 1, .const (.int .i64 12000)), (2, 1, .const (.int .i64 4))], none⟩, ⟨some 3, .bls 47 3 2 (.agg #[.int .i64 0, .int .i64 0, .int .i64 0]) [(0, 3, .tmp 1), (3, 3, .tmp 2)], none⟩, ⟨some 4, .bld (.agg #[.int .i64 0, .int .i64 0, .int .i64 0, .int .i64 0, .int .i64 0, .int .i64 0, .int .i64 0, .int .i64 0, .int .i64 0, .int .i64 0, .slice none 0 0]) [(0, 1, .const (.int .i64 0)), (1, 1, .const (.int .i64 3000)), (3, 1, .const (.int .i64 1000)), (4, 1, .const (.int .i64 500)), (5, 1, .const (.int .i64 1200)), (6, 1, .const (.int .i64 2500)), (7, 1, .const (.int .i64 9000)), (10, 1, .tmp 3)], none⟩, ⟨some 5, .bld (.agg #[.int .i64 0, .int .i64 0, .int .i64 0]) [(0, 1, .const (.int .i64 5000)), (1, 1, .const (.int .i64 12000)), (2, 1, .const (.int .i64 8))], none⟩, ⟨some 6, .bld (.agg #[.int .i64 0, .int .i64 0, .int .i64 0]) [(0, 1, .const (.int .i64 6000)), (1, 1, .const (.int .i64 12000)), (2, 1, .const (.int .i64 8))], none⟩, ⟨some 7, .bld (.agg #[.int .i64 0, .int .i64 0, .int .i64 0]) [(0, 1, .const (.int .i64 7000)), (1, 1, .const (.int .i64 12000)), (2, 1, .const (.int .i64 8))], none⟩, ⟨some 8, .bls 47 3 3 (.agg #[.int .i64 0, .int .i64 0, .int .i64 0]) [(0, 3, .tmp 5), (3, 3, .tmp 6), (6, 3, .tmp 7)], none⟩, ⟨some 9, .bld (.agg #[.int .i64 0, .int .i64 0, .int .i64 0, .int .i64 0, .int .i64 0, .int .i64 0, .int .i64 0, .int .i64 0, .int .i64 0, .int .i64 0, .slice none 0 0]) [(0, 1, .const (.int .i64 2)), (1, 1, .const (.int .i64 6000)), (3, 1, .const (.int .i64 500)), (4, 1, .const (.int .i64 1500)), (5, 1, .const (.int .i64 1250)), (6, 1, .const (.int .i64 1200)), (7, 1, .const (.int .i64 7000)), (10, 1, .tmp 8)], none⟩, ⟨some 10, .bls 44 11 2 (.agg #[.int .i64 0, .int .i64 0, .int .i64 0, .int .i64 0, .int .i64 0, .int .i64 0, .int .i64 0, .int .i64 0, .int .i64 0, .int .i64 0, .slice none 0 0]) [(0, 11, .tmp 4), (11, 11, .tmp 9)], none⟩, ⟨some 11, .bld (.agg #[.string ⟨#[]⟩, .slice none 0 0, .int .i64 0, .int .i64 0]) [(0, 1, .const (.string ⟨#[99, 97, 114, 114, 105, 101, 114]⟩)), (2, 1, .const (.int .i64 1)), (3, 1, .const (.int .i64 1)), (1, 1, .tmp 10)], none⟩, ⟨none, .st 26 4 (.tmp 0) (.tmp 11), none⟩]
def Xn5_2 : C := .seq Xn5_3 .ret
def Xn5_0 : C := .seq Xn5_1 Xn5_2
theorem Xt5 : Text Try.prog 5 Xn5_0 12 0 [.c 0 4 true] := ⟨⟨Try.f5, [], Try.func5, by kernel_rfl, by kernel_rfl, by kernel_rfl, by kernel_rfl⟩⟩
def Xn6_1 : C := regL [1] none [⟨some 1, .box true 34 (.tmp 0), none⟩, ⟨some 2, .mv (.const (.int .i64 0)), none⟩, ⟨some 3, .mv (.const (.int .i64 0)), none⟩]
def Xn6_4 : C := regL [1, 4] none [⟨some 5, .ld 34 4 true (.tmp 1), none⟩, ⟨some 6, .call 11 [.tmp 5], none⟩, ⟨some 4, .mv (.tmp 6), none⟩]
def Xn6_6 : C := regL [1, 4, 8] none [⟨some 7, .mv (.tmp 4), none⟩, ⟨some 8, .bin 28 .neq (.tmp 7) (.const (.int .i64 0)), none⟩]
def Xn6_9 : C := regL [2, 3] none [⟨some 9, .mv (.tmp 4), none⟩, ⟨some 2, .mv (.const (.int .i64 0)), none⟩, ⟨some 3, .mv (.tmp 9), none⟩]
def Xn6_8 : C := .seq Xn6_9 .ret
def Xn6_7 : C := .cond (.tmp 8) Xn6_8 .skip
def Xn6_5 : C := .seq Xn6_6 Xn6_7
def Xn6_3 : C := .seq Xn6_4 Xn6_5
def Xn6_13 : C := regL [2, 3] none [⟨some 10, .fa 1 (.tmp 1), none⟩, ⟨some 11, .ld 31 1 false (.tmp 10), none⟩, ⟨some 12, .call 12 [.tmp 11], none⟩, ⟨some 13, .fl 0 1 false (.tmp 12), none⟩, ⟨some 2, .mv (.tmp 13), none⟩, ⟨some 3, .mv (.const (.int .i64 0)), none⟩]
def Xn6_12 : C := .seq Xn6_13 .ret
def Xn6_2 : C := seqL [1] Xn6_3 Xn6_12
def Xn6_0 : C := .seq Xn6_1 Xn6_2
theorem Xt6 : Text Try.prog 6 Xn6_0 14 1 [.t 2, .t 3] := ⟨⟨Try.f6, [1], Try.func6, by kernel_rfl, by kernel_rfl, by kernel_rfl, by kernel_rfl⟩⟩
def Xn7_1 : C := regL [0, 2] none [⟨some 2, .alc 34 (.agg #[.string ⟨#[]⟩, .slice none 0 0, .slice none 0 0, .int .i64 0]), none⟩]
def Xn7_3 : C := regL [0, 2, 3] none [⟨some 6, .bld (.agg #[.string ⟨#[]⟩, .slice none 0 0, .slice none 0 0, .int .i64 0]) [(0, 1, .const (.string ⟨#[99, 97, 114, 103, 111]⟩)), (3, 1, .const (.int .i64 300))], none⟩, ⟨some 3, .alc 34 (.agg #[.string ⟨#[]⟩, .slice none 0 0, .slice none 0 0, .int .i64 0]), none⟩, ⟨none, .st 34 4 (.tmp 3) (.tmp 6), none⟩]
def Xn7_6 : C := regL [0, 2, 3, 4] none [⟨some 4, .mv (.const (.int .i64 0)), none⟩]
def Xn7_11 : C := regL [0, 2, 3, 4, 14] none [⟨some 7, .mv (.tmp 4), none⟩, ⟨some 8, .mv (.tmp 0), none⟩, ⟨some 9, .len (.tmp 8), none⟩, ⟨some 10, .bin 3 .lss (.tmp 7) (.tmp 9), none⟩, ⟨some 11, .mv (.tmp 10), none⟩, ⟨some 12, .mv (.tmp 4), some (11, true)⟩, ⟨some 13, .bin 3 .lss (.tmp 12) (.const (.int .i64 4)), some (11, true)⟩, ⟨some 14, .pick 11 (.tmp 13) (.const (.bool false)), none⟩]
def Xn7_12 : C := .cond (.tmp 14) .skip (.exit 0)
def Xn7_10 : C := .seq Xn7_11 Xn7_12
def Xn7_18 : C := regL [0, 2, 3, 4, 5] none [⟨some 17, .mv (.tmp 0), none⟩, ⟨some 18, .mv (.tmp 4), none⟩, ⟨some 19, .ia 7 (.tmp 17) (.tmp 18), none⟩, ⟨some 20, .ld 54 7 true (.tmp 19), none⟩, ⟨some 5, .alc 54 (.agg #[.int .u8 0, .int .u8 0, .int .u8 0, .int .u8 0, .int .u8 0, .int .u8 0, .int .u16 0]), none⟩, ⟨none, .st 54 7 (.tmp 5) (.tmp 20), none⟩]
def Xn7_19 : C := regL [0, 2, 3, 4] none [⟨some 21, .fa 1 (.tmp 3), none⟩, ⟨some 22, .ld 31 1 false (.tmp 21), none⟩, ⟨some 23, .fa 0 (.tmp 5), none⟩, ⟨some 24, .ld 5 1 false (.tmp 23), none⟩, ⟨some 25, .cvt .i64 (.tmp 24), none⟩, ⟨some 26, .bin 2 .mul (.const (.int .i64 20)) (.tmp 25), none⟩, ⟨some 27, .fa 1 (.tmp 5), none⟩, ⟨some 28, .ld 5 1 false (.tmp 27), none⟩, ⟨some 29, .cvt .i64 (.tmp 28), none⟩, ⟨some 30, .bin 2 .mul (.const (.int .i64 10)) (.tmp 29), none⟩, ⟨some 31, .bin 2 .sub (.tmp 30) (.const (.int .i64 1280)), none⟩, ⟨some 32, .fa 2 (.tmp 5), none⟩, ⟨some 33, .ld 5 1 false (.tmp 32), none⟩, ⟨some 34, .cvt .i64 (.tmp 33), none⟩, ⟨some 35, .bin 2 .mul (.const (.int .i64 10)) (.tmp 34), none⟩, ⟨some 36, .fa 3 (.tmp 5), none⟩, ⟨some 37, .ld 5 1 false (.tmp 36), none⟩, ⟨some 38, .cvt .i64 (.tmp 37), none⟩, ⟨some 39, .bin 2 .mul (.const (.int .i64 20)) (.tmp 38), none⟩, ⟨some 40, .bin 2 .add (.const (.int .i64 1)) (.tmp 39), none⟩, ⟨some 41, .fa 4 (.tmp 5), none⟩, ⟨some 42, .ld 5 1 false (.tmp 41), none⟩, ⟨some 43, .cvt .i64 (.tmp 42), none⟩, ⟨some 44, .bin 2 .mul (.const (.int .i64 10)) (.tmp 43), none⟩, ⟨some 45, .bin 2 .add (.const (.int .i64 1)) (.tmp 44), none⟩, ⟨some 46, .fa 5 (.tmp 5), none⟩, ⟨some 47, .ld 5 1 false (.tmp 46), none⟩, ⟨some 48, .cvt .i64 (.tmp 47), none⟩, ⟨some 49, .bin 2 .mul (.const (.int .i64 10)) (.tmp 48), none⟩, ⟨some 50, .bin 2 .add (.const (.int .i64 1)) (.tmp 49), none⟩, ⟨some 51, .fa 6 (.tmp 5), none⟩, ⟨some 52, .ld 23 1 false (.tmp 51), none⟩, ⟨some 53, .cvt .i64 (.tmp 52), none⟩, ⟨some 54, .bin 2 .rem (.tmp 53) (.const (.int .i64 8000)), none⟩, ⟨some 55, .bin 2 .add (.const (.int .i64 1)) (.tmp 54), none⟩, ⟨some 56, .bld (.agg #[.int .i64 0, .int .i64 0, .int .i64 0, .int .i64 0, .int .i64 0, .int .i64 0, .int .i64 0]) [(0, 1, .tmp 26), (1, 1, .tmp 31), (2, 1, .tmp 35), (3, 1, .tmp 40), (4, 1, .tmp 45), (5, 1, .tmp 50), (6, 1, .tmp 55)], none⟩, ⟨some 57, .bls 56 7 1 (.agg #[.int .i64 0, .int .i64 0, .int .i64 0, .int .i64 0, .int .i64 0, .int .i64 0, .int .i64 0]) [(0, 7, .tmp 56)], none⟩, ⟨some 58, .app 56 7 56 (.tmp 22) (.tmp 57), none⟩, ⟨some 59, .fa 1 (.tmp 3), none⟩, ⟨none, .st 31 1 (.tmp 59) (.tmp 58), none⟩]
def Xn7_17 : C := .seq Xn7_18 Xn7_19
def Xn7_16 : C := .block 1 Xn7_17
def Xn7_20 : C := regL [0, 2, 3, 4] none [⟨some 15, .mv (.tmp 4), none⟩, ⟨some 16, .bin 3 .add (.tmp 15) (.const (.int .i64 1)), none⟩, ⟨some 4, .mv (.tmp 16), none⟩]
def Xn7_15 : C := seqL [0, 2, 3, 4] Xn7_16 Xn7_20
def Xn7_9 : C := seqL [0, 2, 3, 4] Xn7_10 Xn7_15
def Xn7_8 : C := loopL [0, 2, 3, 4] Xn7_9
def Xn7_7 : C := .block 0 Xn7_8
def Xn7_5 : C := .seq Xn7_6 Xn7_7
def Xn7_22 : C := regL [2] none [⟨some 60, .ld 34 4 true (.tmp 3), none⟩, ⟨none, .st 34 4 (.tmp 2) (.tmp 60), none⟩]
def Xn7_21 : C := .seq Xn7_22 .ret
def Xn7_4 : C := seqL [2, 3] Xn7_5 Xn7_21
def Xn7_2 : C := .seq Xn7_3 Xn7_4
def Xn7_0 : C := .seq Xn7_1 Xn7_2
theorem Xt7 : Text Try.prog 7 Xn7_0 61 1 [.c 2 4 true] := ⟨⟨Try.f7, [], Try.func7, by kernel_rfl, by kernel_rfl, by kernel_rfl, by kernel_rfl⟩⟩
def Xn8_1 : C := regL [1] none [⟨some 1, .box true 26 (.tmp 0), none⟩, ⟨some 2, .mv (.const (.int .i64 0)), none⟩, ⟨some 3, .mv (.const (.int .i64 0)), none⟩]
def Xn8_4 : C := regL [1, 4] none [⟨some 8, .ld 26 4 true (.tmp 1), none⟩, ⟨some 9, .call 13 [.tmp 8], none⟩, ⟨some 4, .mv (.tmp 9), none⟩]
def Xn8_6 : C := regL [1, 4, 11] none [⟨some 10, .mv (.tmp 4), none⟩, ⟨some 11, .bin 28 .neq (.tmp 10) (.const (.int .i64 0)), none⟩]
def Xn8_9 : C := regL [2, 3] none [⟨some 12, .mv (.tmp 4), none⟩, ⟨some 2, .mv (.const (.int .i64 0)), none⟩, ⟨some 3, .mv (.tmp 12), none⟩]
def Xn8_8 : C := .seq Xn8_9 .ret
def Xn8_7 : C := .cond (.tmp 11) Xn8_8 .skip
def Xn8_5 : C := .seq Xn8_6 Xn8_7
def Xn8_3 : C := .seq Xn8_4 Xn8_5
def Xn8_13 : C := regL [1, 5] none [⟨some 5, .mv (.const (.int .i64 0)), none⟩]
def Xn8_16 : C := regL [5, 14, 15, 16] none [⟨some 13, .fa 1 (.tmp 1), none⟩, ⟨some 14, .ld 24 1 false (.tmp 13), none⟩, ⟨some 15, .len (.tmp 14), none⟩, ⟨some 16, .mv (.const (.int .i64 0)), none⟩]
def Xn8_20 : C := regL [5, 14, 15, 16, 17] none [⟨some 17, .bin 3 .lss (.tmp 16) (.tmp 15), none⟩]
def Xn8_22 : C := .cond (.tmp 17) .skip (.exit 0)
def Xn8_28 : C := regL [5, 7, 14, 15, 16] none [⟨some 18, .ia 11 (.tmp 14) (.tmp 16), none⟩, ⟨some 19, .ld 44 11 true (.tmp 18), none⟩, ⟨some 7, .alc 44 (.agg #[.int .i64 0, .int .i64 0, .int .i64 0, .int .i64 0, .int .i64 0, .int .i64 0, .int .i64 0, .int .i64 0, .int .i64 0, .int .i64 0, .slice none 0 0]), none⟩, ⟨none, .st 44 11 (.tmp 7) (.tmp 19), none⟩]
def Xn8_29 : C := regL [5, 14, 15, 16] none [⟨some 20, .mv (.tmp 5), none⟩, ⟨some 21, .fa 7 (.tmp 7), none⟩, ⟨some 22, .ld 2 1 false (.tmp 21), none⟩, ⟨some 23, .bin 2 .add (.tmp 20) (.tmp 22), none⟩, ⟨some 5, .mv (.tmp 23), none⟩]
def Xn8_27 : C := .seq Xn8_28 Xn8_29
def Xn8_26 : C := .block 1 Xn8_27
def Xn8_30 : C := regL [5, 14, 15, 16] none [⟨some 24, .bin 3 .add (.tmp 16) (.const (.int .i64 1)), none⟩, ⟨some 16, .mv (.tmp 24), none⟩]
def Xn8_25 : C := seqL [5, 14, 15, 16] Xn8_26 Xn8_30
def Xn8_21 : C := seqL [5, 14, 15, 16] Xn8_22 Xn8_25
def Xn8_19 : C := .seq Xn8_20 Xn8_21
def Xn8_18 : C := loopL [5, 14, 15, 16] Xn8_19
def Xn8_17 : C := .block 0 Xn8_18
def Xn8_15 : C := .seq Xn8_16 Xn8_17
def Xn8_32 : C := regL [2, 3] none [⟨some 25, .mv (.tmp 5), none⟩, ⟨some 2, .mv (.tmp 25), none⟩, ⟨some 3, .mv (.const (.int .i64 0)), none⟩]
def Xn8_31 : C := .seq Xn8_32 .ret
def Xn8_14 : C := seqL [5] Xn8_15 Xn8_31
def Xn8_12 : C := .seq Xn8_13 Xn8_14
def Xn8_2 : C := seqL [1] Xn8_3 Xn8_12
def Xn8_0 : C := .seq Xn8_1 Xn8_2
theorem Xt8 : Text Try.prog 8 Xn8_0 26 1 [.t 2, .t 3] := ⟨⟨Try.f8, [1], Try.func8, by kernel_rfl, by kernel_rfl, by kernel_rfl, by kernel_rfl⟩⟩
def Xn9_1 : C := regL [] none [⟨some 0, .mv (.const (.bool false)), none⟩]
def Xn9_3 : C := regL [1, 2] none [⟨some 11, .call 5 [], none⟩, ⟨some 12, .bld (.agg #[.int .i64 0, .int .i64 0]) [], none⟩, ⟨some 13, .bld (.agg #[.int .i64 0, .int .i64 0]) [(0, 1, .const (.int .i64 (-100)))], none⟩, ⟨some 14, .call 14 [.tmp 11, .tmp 12, .tmp 13], none⟩, ⟨some 10, .mv (.tmp 14), none⟩, ⟨some 15, .ext 0 (.tmp 10), none⟩, ⟨some 16, .ext 1 (.tmp 10), none⟩, ⟨some 1, .alc 62 (.agg #[.int .i64 0, .int .i64 0, .slice none 0 0]), none⟩, ⟨none, .st 62 3 (.tmp 1) (.tmp 15), none⟩, ⟨some 2, .mv (.tmp 16), none⟩]
def Xn9_5 : C := regL [1, 2, 3, 4] none [⟨some 18, .bld (.agg #[.int .u8 0, .int .u8 0, .int .u8 0, .int .u8 0, .int .u8 0, .int .u8 0, .int .u16 0]) [(6, 1, .const (.int .u16 4))], none⟩, ⟨some 19, .bls 54 7 1 (.agg #[.int .u8 0, .int .u8 0, .int .u8 0, .int .u8 0, .int .u8 0, .int .u8 0, .int .u16 0]) [(0, 7, .tmp 18)], none⟩, ⟨some 20, .call 7 [.tmp 19], none⟩, ⟨some 21, .call 6 [.tmp 20], none⟩, ⟨some 17, .mv (.tmp 21), none⟩, ⟨some 22, .ext 0 (.tmp 17), none⟩, ⟨some 23, .ext 1 (.tmp 17), none⟩, ⟨some 3, .mv (.tmp 22), none⟩, ⟨some 4, .mv (.tmp 23), none⟩]
def Xn9_7 : C := regL [1, 2, 3, 4, 5, 6, 7] none [⟨some 25, .call 15 [.const (.int .i64 1000), .const (.int .i64 0), .const (.int .i64 3), .const (.int .i64 1)], none⟩, ⟨some 24, .mv (.tmp 25), none⟩, ⟨some 26, .ext 0 (.tmp 24), none⟩, ⟨some 27, .ext 1 (.tmp 24), none⟩, ⟨some 28, .ext 2 (.tmp 24), none⟩, ⟨some 5, .mv (.tmp 26), none⟩, ⟨some 6, .mv (.tmp 27), none⟩, ⟨some 7, .mv (.tmp 28), none⟩]
def Xn9_9 : C := regL [1, 2, 3, 4, 5, 6, 7, 8, 9] none [⟨some 30, .bld (.agg #[.int .i64 0, .int .i64 0]) [(0, 1, .const (.int .i64 1))], none⟩, ⟨some 31, .bld (.agg #[.int .i64 0, .int .i64 0]) [(0, 1, .const (.int .i64 3))], none⟩, ⟨some 32, .bld (.agg #[.int .i64 0, .int .i64 0]) [(0, 1, .const (.int .i64 2))], none⟩, ⟨some 33, .bls 59 2 3 (.agg #[.int .i64 0, .int .i64 0]) [(0, 2, .tmp 30), (2, 2, .tmp 31), (4, 2, .tmp 32)], none⟩, ⟨some 34, .call 16 [.tmp 33], none⟩, ⟨some 29, .mv (.tmp 34), none⟩, ⟨some 35, .ext 0 (.tmp 29), none⟩, ⟨some 36, .ext 1 (.tmp 29), none⟩, ⟨some 8, .mv (.tmp 35), none⟩, ⟨some 9, .mv (.tmp 36), none⟩]
def Xn9_11 : C := regL [0] none [⟨some 37, .mv (.tmp 2), none⟩, ⟨some 38, .bin 28 .eql (.tmp 37) (.const (.int .i64 0)), none⟩, ⟨some 39, .mv (.tmp 38), none⟩, ⟨some 40, .mv (.tmp 4), some (39, true)⟩, ⟨some 41, .bin 28 .eql (.tmp 40) (.const (.int .i64 0)), some (39, true)⟩, ⟨some 42, .pick 39 (.tmp 41) (.const (.bool false)), none⟩, ⟨some 43, .mv (.tmp 42), none⟩, ⟨some 44, .mv (.tmp 7), some (43, true)⟩, ⟨some 45, .bin 28 .eql (.tmp 44) (.const (.int .i64 0)), some (43, true)⟩, ⟨some 46, .pick 43 (.tmp 45) (.const (.bool false)), none⟩, ⟨some 47, .mv (.tmp 46), none⟩, ⟨some 48, .mv (.tmp 9), some (47, true)⟩, ⟨some 49, .bin 28 .eql (.tmp 48) (.const (.int .i64 0)), some (47, true)⟩, ⟨some 50, .pick 47 (.tmp 49) (.const (.bool false)), none⟩, ⟨some 51, .mv (.tmp 50), none⟩, ⟨some 52, .fa 2 (.tmp 1), some (51, true)⟩, ⟨some 53, .ld 60 1 false (.tmp 52), some (51, true)⟩, ⟨some 54, .len (.tmp 53), some (51, true)⟩, ⟨some 55, .bin 3 .eql (.tmp 54) (.const (.int .i64 2)), some (51, true)⟩, ⟨some 56, .pick 51 (.tmp 55) (.const (.bool false)), none⟩, ⟨some 57, .mv (.tmp 56), none⟩, ⟨some 58, .mv (.tmp 3), some (57, true)⟩, ⟨some 59, .bin 2 .eql (.tmp 58) (.const (.int .i64 5)), some (57, true)⟩, ⟨some 60, .pick 57 (.tmp 59) (.const (.bool false)), none⟩, ⟨some 61, .mv (.tmp 60), none⟩, ⟨some 62, .mv (.tmp 5), some (61, true)⟩, ⟨some 63, .bin 2 .eql (.tmp 62) (.const (.int .i64 667)), some (61, true)⟩, ⟨some 64, .pick 61 (.tmp 63) (.const (.bool false)), none⟩, ⟨some 65, .mv (.tmp 64), none⟩, ⟨some 66, .mv (.tmp 6), some (65, true)⟩, ⟨some 67, .bin 2 .eql (.tmp 66) (.const (.int .i64 334)), some (65, true)⟩, ⟨some 68, .pick 65 (.tmp 67) (.const (.bool false)), none⟩, ⟨some 69, .mv (.tmp 68), none⟩, ⟨some 70, .mv (.tmp 8), some (69, true)⟩, ⟨some 71, .len (.tmp 70), some (69, true)⟩, ⟨some 72, .bin 3 .eql (.tmp 71) (.const (.int .i64 2)), some (69, true)⟩, ⟨some 73, .pick 69 (.tmp 72) (.const (.bool false)), none⟩, ⟨some 0, .mv (.tmp 73), none⟩]
def Xn9_10 : C := .seq Xn9_11 .ret
def Xn9_8 : C := .seq Xn9_9 Xn9_10
def Xn9_6 : C := .seq Xn9_7 Xn9_8
def Xn9_4 : C := .seq Xn9_5 Xn9_6
def Xn9_2 : C := .seq Xn9_3 Xn9_4
def Xn9_0 : C := .seq Xn9_1 Xn9_2
theorem Xt9 : Text Try.prog 9 Xn9_0 74 0 [.t 0] := ⟨⟨Try.f9, [], Try.func9, by kernel_rfl, by kernel_rfl, by kernel_rfl, by kernel_rfl⟩⟩
def Xn10_1 : C := regL [1, 2, 3, 4] none [⟨some 4, .box true 26 (.tmp 0), none⟩, ⟨some 8, .mv (.const (.slice none 0 0)), none⟩, ⟨some 9, .mv (.const (.int .i64 0)), none⟩]
def Xn10_4 : C := regL [1, 2, 3, 4, 10] none [⟨some 17, .ld 26 4 true (.tmp 4), none⟩, ⟨some 18, .call 13 [.tmp 17], none⟩, ⟨some 10, .mv (.tmp 18), none⟩]
def Xn10_6 : C := regL [1, 2, 3, 4, 10, 20] none [⟨some 19, .mv (.tmp 10), none⟩, ⟨some 20, .bin 28 .neq (.tmp 19) (.const (.int .i64 0)), none⟩]
def Xn10_9 : C := regL [8, 9] none [⟨some 21, .mv (.tmp 10), none⟩, ⟨some 8, .mv (.const (.slice none 0 0)), none⟩, ⟨some 9, .mv (.tmp 21), none⟩]
def Xn10_8 : C := .seq Xn10_9 .ret
def Xn10_7 : C := .cond (.tmp 20) Xn10_8 .skip
def Xn10_5 : C := .seq Xn10_6 Xn10_7
def Xn10_3 : C := .seq Xn10_4 Xn10_5
def Xn10_15 : C := regL [1, 2, 3, 4, 22] none [⟨some 23, .mv (.tmp 1), none⟩, ⟨some 24, .call 17 [.tmp 23], none⟩, ⟨some 25, .un .not (.tmp 24), none⟩, ⟨some 26, .mv (.tmp 25), none⟩, ⟨some 27, .mv (.tmp 2), some (26, false)⟩, ⟨some 28, .call 18 [.tmp 27, .const (.int .i64 1), .const (.int .i64 16777216)], some (26, false)⟩, ⟨some 29, .un .not (.tmp 28), some (26, false)⟩, ⟨some 30, .pick 26 (.const (.bool true)) (.tmp 29), none⟩, ⟨some 22, .mv (.tmp 30), none⟩]
def Xn10_18 : C := regL [8, 9] none [⟨some 8, .mv (.const (.slice none 0 0)), none⟩, ⟨some 9, .mv (.const (.int .i64 3)), none⟩]
def Xn10_17 : C := .seq Xn10_18 .ret
def Xn10_21 : C := regL [1, 2, 3, 4, 31] none [⟨some 32, .mv (.tmp 3), none⟩, ⟨some 33, .mv (.tmp 2), none⟩, ⟨some 34, .call 18 [.tmp 32, .const (.int .i64 0), .tmp 33], none⟩, ⟨some 35, .un .not (.tmp 34), none⟩, ⟨some 31, .mv (.tmp 35), none⟩]
def Xn10_24 : C := regL [8, 9] none [⟨some 8, .mv (.const (.slice none 0 0)), none⟩, ⟨some 9, .mv (.const (.int .i64 19)), none⟩]
def Xn10_23 : C := .seq Xn10_24 .ret
def Xn10_22 : C := .cond (.tmp 31) Xn10_23 .skip
def Xn10_20 : C := .seq Xn10_21 Xn10_22
def Xn10_16 : C := .cond (.tmp 22) Xn10_17 Xn10_20
def Xn10_14 : C := .seq Xn10_15 Xn10_16
def Xn10_13 : C := .block 0 Xn10_14
def Xn10_28 : C := regL [1, 2, 3, 4, 11] none [⟨some 36, .fa 1 (.tmp 4), none⟩, ⟨some 37, .ld 24 1 false (.tmp 36), none⟩, ⟨some 38, .len (.tmp 37), none⟩, ⟨some 39, .mks 2 1 8 (.int .i64 0) (.tmp 38) (.tmp 38), none⟩, ⟨some 11, .mv (.tmp 39), none⟩]
def Xn10_31 : C := regL [1, 2, 3, 4, 11, 44] none [⟨some 40, .fa 2 (.tmp 4), none⟩, ⟨some 41, .ld 3 1 false (.tmp 40), none⟩, ⟨some 42, .fa 3 (.tmp 4), none⟩, ⟨some 43, .ld 3 1 false (.tmp 42), none⟩, ⟨some 44, .bin 3 .eql (.tmp 41) (.tmp 43), none⟩]
def Xn10_33 : C := regL [4, 11] none [⟨some 45, .mv (.tmp 11), none⟩, ⟨some 46, .fa 2 (.tmp 4), none⟩, ⟨some 47, .ld 3 1 false (.tmp 46), none⟩, ⟨some 48, .mv (.tmp 1), none⟩, ⟨some 49, .ia 1 (.tmp 45) (.tmp 47), none⟩, ⟨none, .st 2 1 (.tmp 49) (.tmp 48), none⟩]
def Xn10_34 : C := regL [4, 11] (some [0, 0, 2, 0, 0, 16, 0, 0, 0, 448, 960, 1984, 1984, 1984, 4039, 20423, 57343, 122879]) [⟨some 51, .mv (.tmp 11), none⟩, ⟨some 52, .fa 2 (.tmp 4), none⟩, ⟨some 53, .ld 3 1 false (.tmp 52), none⟩, ⟨some 54, .mv (.tmp 11), none⟩, ⟨some 55, .fa 3 (.tmp 4), none⟩, ⟨some 56, .ld 3 1 false (.tmp 55), none⟩, ⟨some 57, .mv (.tmp 1), none⟩, ⟨some 58, .mv (.tmp 2), none⟩, ⟨some 59, .mv (.tmp 3), none⟩, ⟨some 60, .call 15 [.tmp 57, .const (.int .i64 0), .tmp 58, .tmp 59], none⟩, ⟨some 50, .mv (.tmp 60), none⟩, ⟨some 61, .ext 0 (.tmp 50), none⟩, ⟨some 62, .ext 1 (.tmp 50), none⟩, ⟨some 63, .ext 2 (.tmp 50), none⟩, ⟨some 64, .ia 1 (.tmp 51) (.tmp 53), none⟩, ⟨none, .st 2 1 (.tmp 64) (.tmp 61), none⟩, ⟨some 65, .ia 1 (.tmp 54) (.tmp 56), none⟩, ⟨none, .st 2 1 (.tmp 65) (.tmp 62), none⟩]
def Xn10_32 : C := .cond (.tmp 44) Xn10_33 Xn10_34
def Xn10_30 : C := .seq Xn10_31 Xn10_32
def Xn10_36 : C := regL [4, 11, 12] none [⟨some 12, .mv (.const (.slice none 0 0)), none⟩]
def Xn10_39 : C := regL [11, 12, 67, 68, 69] none [⟨some 66, .fa 1 (.tmp 4), none⟩, ⟨some 67, .ld 24 1 false (.tmp 66), none⟩, ⟨some 68, .len (.tmp 67), none⟩, ⟨some 69, .mv (.const (.int .i64 0)), none⟩]
def Xn10_43 : C := regL [11, 12, 67, 68, 69, 70] none [⟨some 70, .bin 3 .lss (.tmp 69) (.tmp 68), none⟩]
def Xn10_45 : C := .cond (.tmp 70) .skip (.exit 1)
def Xn10_51 : C := regL [11, 12, 13, 14, 67, 68, 69] none [⟨some 71, .mv (.tmp 69), none⟩, ⟨some 72, .ia 11 (.tmp 67) (.tmp 69), none⟩, ⟨some 73, .ld 44 11 true (.tmp 72), none⟩, ⟨some 14, .alc 44 (.agg #[.int .i64 0, .int .i64 0, .int .i64 0, .int .i64 0, .int .i64 0, .int .i64 0, .int .i64 0, .int .i64 0, .int .i64 0, .int .i64 0, .slice none 0 0]), none⟩, ⟨some 13, .mv (.tmp 71), none⟩, ⟨none, .st 44 11 (.tmp 14) (.tmp 73), none⟩]
def Xn10_53 : C := regL [11, 12, 13, 14, 15, 67, 68, 69] none [⟨some 74, .fa 10 (.tmp 14), none⟩, ⟨some 75, .ld 42 1 false (.tmp 74), none⟩, ⟨some 76, .len (.tmp 75), none⟩, ⟨some 15, .mv (.tmp 76), none⟩]
def Xn10_55 : C := regL [11, 12, 14, 16, 67, 68, 69] (some [0, 1, 0, 0, 12, 28, 63, 0, 255, 511, 0, 2047, 0, 8191]) [⟨some 77, .fa 7 (.tmp 14), none⟩, ⟨some 78, .ld 2 1 false (.tmp 77), none⟩, ⟨some 79, .mv (.tmp 11), none⟩, ⟨some 80, .mv (.tmp 13), none⟩, ⟨some 81, .ia 1 (.tmp 79) (.tmp 80), none⟩, ⟨some 82, .ld 2 1 false (.tmp 81), none⟩, ⟨some 83, .bin 2 .add (.tmp 78) (.tmp 82), none⟩, ⟨some 84, .mv (.tmp 15), none⟩, ⟨some 85, .bin 2 .add (.tmp 83) (.tmp 84), none⟩, ⟨some 86, .bin 2 .sub (.tmp 85) (.const (.int .i64 1)), none⟩, ⟨some 87, .mv (.tmp 15), none⟩, ⟨some 88, .bin 2 .quo (.tmp 86) (.tmp 87), none⟩, ⟨some 16, .alc 2 (.int .i64 0), none⟩, ⟨none, .st 2 1 (.tmp 16) (.tmp 88), none⟩]
def Xn10_58 : C := regL [11, 12, 16, 67, 68, 69, 92] none [⟨some 89, .fa 10 (.tmp 14), none⟩, ⟨some 90, .ld 42 1 false (.tmp 89), none⟩, ⟨some 91, .mkf 20 [] [.tmp 16], none⟩, ⟨some 92, .call 19 [.tmp 90, .tmp 91], none⟩]
def Xn10_61 : C := regL [8, 9] none [⟨some 8, .mv (.const (.slice none 0 0)), none⟩, ⟨some 9, .mv (.const (.int .i64 14)), none⟩]
def Xn10_60 : C := .seq Xn10_61 .ret
def Xn10_59 : C := .cond (.tmp 92) Xn10_60 .skip
def Xn10_57 : C := .seq Xn10_58 Xn10_59
def Xn10_64 : C := regL [11, 12, 67, 68, 69] none [⟨some 93, .mv (.tmp 12), none⟩, ⟨some 94, .ld 2 1 false (.tmp 16), none⟩, ⟨some 95, .bls 2 1 1 (.int .i64 0) [(0, 1, .tmp 94)], none⟩, ⟨some 96, .app 2 1 8 (.tmp 93) (.tmp 95), none⟩, ⟨some 12, .mv (.tmp 96), none⟩]
def Xn10_56 : C := seqL [11, 12, 16, 67, 68, 69] Xn10_57 Xn10_64
def Xn10_54 : C := .seq Xn10_55 Xn10_56
def Xn10_52 : C := .seq Xn10_53 Xn10_54
def Xn10_50 : C := .seq Xn10_51 Xn10_52
def Xn10_49 : C := .block 2 Xn10_50
def Xn10_65 : C := regL [11, 12, 67, 68, 69] none [⟨some 97, .bin 3 .add (.tmp 69) (.const (.int .i64 1)), none⟩, ⟨some 69, .mv (.tmp 97), none⟩]
def Xn10_48 : C := seqL [11, 12, 67, 68, 69] Xn10_49 Xn10_65
def Xn10_44 : C := seqL [11, 12, 67, 68, 69] Xn10_45 Xn10_48
def Xn10_42 : C := .seq Xn10_43 Xn10_44
def Xn10_41 : C := loopL [11, 12, 67, 68, 69] Xn10_42
def Xn10_40 : C := .block 1 Xn10_41
def Xn10_38 : C := .seq Xn10_39 Xn10_40
def Xn10_67 : C := regL [8, 9] none [⟨some 98, .mv (.tmp 12), none⟩, ⟨some 8, .mv (.tmp 98), none⟩, ⟨some 9, .mv (.const (.int .i64 0)), none⟩]
def Xn10_66 : C := .seq Xn10_67 .ret
def Xn10_37 : C := seqL [12] Xn10_38 Xn10_66
def Xn10_35 : C := .seq Xn10_36 Xn10_37
def Xn10_29 : C := seqL [4, 11] Xn10_30 Xn10_35
def Xn10_27 : C := .seq Xn10_28 Xn10_29
def Xn10_12 : C := seqL [1, 2, 3, 4] Xn10_13 Xn10_27
def Xn10_2 : C := seqL [1, 2, 3, 4] Xn10_3 Xn10_12
def Xn10_0 : C := .seq Xn10_1 Xn10_2
theorem Xt10 : Text Try.prog 10 Xn10_0 99 4 [.t 8, .t 9] := ⟨⟨Try.f10, [4], Try.func10, by kernel_rfl, by kernel_rfl, by kernel_rfl, by kernel_rfl⟩⟩
def Xn11_1 : C := regL [1] none [⟨some 1, .box true 34 (.tmp 0), none⟩, ⟨some 2, .mv (.const (.int .i64 0)), none⟩]
def Xn11_4 : C := regL [1, 22] none [⟨some 7, .fa 1 (.tmp 1), none⟩, ⟨some 8, .ld 31 1 false (.tmp 7), none⟩, ⟨some 9, .len (.tmp 8), none⟩, ⟨some 10, .bin 3 .lss (.tmp 9) (.const (.int .i64 1)), none⟩, ⟨some 11, .mv (.tmp 10), none⟩, ⟨some 12, .fa 1 (.tmp 1), some (11, false)⟩, ⟨some 13, .ld 31 1 false (.tmp 12), some (11, false)⟩, ⟨some 14, .len (.tmp 13), some (11, false)⟩, ⟨some 15, .bin 3 .gtr (.tmp 14) (.const (.int .i64 32)), some (11, false)⟩, ⟨some 16, .pick 11 (.const (.bool true)) (.tmp 15), none⟩, ⟨some 17, .mv (.tmp 16), none⟩, ⟨some 18, .fa 2 (.tmp 1), some (17, false)⟩, ⟨some 19, .ld 32 1 false (.tmp 18), some (17, false)⟩, ⟨some 20, .len (.tmp 19), some (17, false)⟩, ⟨some 21, .bin 3 .gtr (.tmp 20) (.const (.int .i64 32)), some (17, false)⟩, ⟨some 22, .pick 17 (.const (.bool true)) (.tmp 21), none⟩]
def Xn11_7 : C := regL [2] none [⟨some 2, .mv (.const (.int .i64 6)), none⟩]
def Xn11_6 : C := .seq Xn11_7 .ret
def Xn11_5 : C := .cond (.tmp 22) Xn11_6 .skip
def Xn11_3 : C := .seq Xn11_4 Xn11_5
def Xn11_12 : C := regL [1, 32] none [⟨some 23, .fa 0 (.tmp 1), none⟩, ⟨some 24, .ld 9 1 false (.tmp 23), none⟩, ⟨some 25, .call 21 [.tmp 24], none⟩, ⟨some 26, .un .not (.tmp 25), none⟩, ⟨some 27, .mv (.tmp 26), none⟩, ⟨some 28, .fa 3 (.tmp 1), some (27, false)⟩, ⟨some 29, .ld 2 1 false (.tmp 28), some (27, false)⟩, ⟨some 30, .call 22 [.tmp 29, .const (.int .i64 0), .const (.int .i64 1000)], some (27, false)⟩, ⟨some 31, .un .not (.tmp 30), some (27, false)⟩, ⟨some 32, .pick 27 (.const (.bool true)) (.tmp 31), none⟩]
def Xn11_15 : C := regL [2] none [⟨some 2, .mv (.const (.int .i64 2)), none⟩]
def Xn11_14 : C := .seq Xn11_15 .ret
def Xn11_13 : C := .cond (.tmp 32) Xn11_14 .skip
def Xn11_11 : C := .seq Xn11_12 Xn11_13
def Xn11_20 : C := regL [1, 34, 35, 36] none [⟨some 33, .fa 1 (.tmp 1), none⟩, ⟨some 34, .ld 31 1 false (.tmp 33), none⟩, ⟨some 35, .len (.tmp 34), none⟩, ⟨some 36, .mv (.const (.int .i64 0)), none⟩]
def Xn11_24 : C := regL [1, 34, 35, 36, 37] none [⟨some 37, .bin 3 .lss (.tmp 36) (.tmp 35), none⟩]
def Xn11_26 : C := .cond (.tmp 37) .skip (.exit 0)
def Xn11_32 : C := regL [1, 4, 34, 35, 36] none [⟨some 38, .ia 7 (.tmp 34) (.tmp 36), none⟩, ⟨some 39, .ld 56 7 true (.tmp 38), none⟩, ⟨some 4, .alc 56 (.agg #[.int .i64 0, .int .i64 0, .int .i64 0, .int .i64 0, .int .i64 0, .int .i64 0, .int .i64 0]), none⟩, ⟨none, .st 56 7 (.tmp 4) (.tmp 39), none⟩]
def Xn11_34 : C := regL [1, 34, 35, 36, 42] none [⟨some 40, .ld 56 7 true (.tmp 4), none⟩, ⟨some 41, .call 23 [.tmp 40], none⟩, ⟨some 42, .un .not (.tmp 41), none⟩]
def Xn11_37 : C := regL [2] none [⟨some 2, .mv (.const (.int .i64 2)), none⟩]
def Xn11_36 : C := .seq Xn11_37 .ret
def Xn11_35 : C := .cond (.tmp 42) Xn11_36 .skip
def Xn11_33 : C := .seq Xn11_34 Xn11_35
def Xn11_31 : C := .seq Xn11_32 Xn11_33
def Xn11_30 : C := .block 1 Xn11_31
def Xn11_40 : C := regL [1, 34, 35, 36] none [⟨some 43, .bin 3 .add (.tmp 36) (.const (.int .i64 1)), none⟩, ⟨some 36, .mv (.tmp 43), none⟩]
def Xn11_29 : C := seqL [1, 34, 35, 36] Xn11_30 Xn11_40
def Xn11_25 : C := seqL [1, 34, 35, 36] Xn11_26 Xn11_29
def Xn11_23 : C := .seq Xn11_24 Xn11_25
def Xn11_22 : C := loopL [1, 34, 35, 36] Xn11_23
def Xn11_21 : C := .block 0 Xn11_22
def Xn11_19 : C := .seq Xn11_20 Xn11_21
def Xn11_43 : C := regL [1, 45, 46, 47] none [⟨some 44, .fa 2 (.tmp 1), none⟩, ⟨some 45, .ld 32 1 false (.tmp 44), none⟩, ⟨some 46, .len (.tmp 45), none⟩, ⟨some 47, .mv (.const (.int .i64 0)), none⟩]
def Xn11_47 : C := regL [1, 45, 46, 47, 48] none [⟨some 48, .bin 3 .lss (.tmp 47) (.tmp 46), none⟩]
def Xn11_49 : C := .cond (.tmp 48) .skip (.exit 2)
def Xn11_55 : C := regL [1, 6, 45, 46, 47] none [⟨some 49, .ia 4 (.tmp 45) (.tmp 47), none⟩, ⟨some 50, .ld 76 4 true (.tmp 49), none⟩, ⟨some 6, .alc 76 (.agg #[.int .i64 0, .int .i64 0, .int .i64 0, .int .i64 0]), none⟩, ⟨none, .st 76 4 (.tmp 6) (.tmp 50), none⟩]
def Xn11_57 : C := regL [1, 45, 46, 47, 53] none [⟨some 51, .ld 76 4 true (.tmp 6), none⟩, ⟨some 52, .call 24 [.tmp 51], none⟩, ⟨some 53, .un .not (.tmp 52), none⟩]
def Xn11_60 : C := regL [2] none [⟨some 2, .mv (.const (.int .i64 2)), none⟩]
def Xn11_59 : C := .seq Xn11_60 .ret
def Xn11_58 : C := .cond (.tmp 53) Xn11_59 .skip
def Xn11_56 : C := .seq Xn11_57 Xn11_58
def Xn11_54 : C := .seq Xn11_55 Xn11_56
def Xn11_53 : C := .block 3 Xn11_54
def Xn11_63 : C := regL [1, 45, 46, 47] none [⟨some 54, .bin 3 .add (.tmp 47) (.const (.int .i64 1)), none⟩, ⟨some 47, .mv (.tmp 54), none⟩]
def Xn11_52 : C := seqL [1, 45, 46, 47] Xn11_53 Xn11_63
def Xn11_48 : C := seqL [1, 45, 46, 47] Xn11_49 Xn11_52
def Xn11_46 : C := .seq Xn11_47 Xn11_48
def Xn11_45 : C := loopL [1, 45, 46, 47] Xn11_46
def Xn11_44 : C := .block 2 Xn11_45
def Xn11_42 : C := .seq Xn11_43 Xn11_44
def Xn11_66 : C := regL [60] none [⟨some 55, .fa 1 (.tmp 1), none⟩, ⟨some 56, .ld 31 1 false (.tmp 55), none⟩, ⟨some 57, .call 12 [.tmp 56], none⟩, ⟨some 58, .fl 0 1 false (.tmp 57), none⟩, ⟨some 59, .call 22 [.tmp 58, .const (.int .i64 1), .const (.int .i64 16777216)], none⟩, ⟨some 60, .un .not (.tmp 59), none⟩]
def Xn11_69 : C := regL [2] none [⟨some 2, .mv (.const (.int .i64 2)), none⟩]
def Xn11_68 : C := .seq Xn11_69 .ret
def Xn11_67 : C := .cond (.tmp 60) Xn11_68 .skip
def Xn11_65 : C := .seq Xn11_66 Xn11_67
def Xn11_73 : C := regL [2] none [⟨some 2, .mv (.const (.int .i64 0)), none⟩]
def Xn11_72 : C := .seq Xn11_73 .ret
def Xn11_64 : C := seqL [] Xn11_65 Xn11_72
def Xn11_41 : C := seqL [1] Xn11_42 Xn11_64
def Xn11_18 : C := seqL [1] Xn11_19 Xn11_41
def Xn11_10 : C := seqL [1] Xn11_11 Xn11_18
def Xn11_2 : C := seqL [1] Xn11_3 Xn11_10
def Xn11_0 : C := .seq Xn11_1 Xn11_2
theorem Xt11 : Text Try.prog 11 Xn11_0 61 1 [.t 2] := ⟨⟨Try.f11, [1], Try.func11, by kernel_rfl, by kernel_rfl, by kernel_rfl, by kernel_rfl⟩⟩
def Xn12_1 : C := regL [0, 2] none [⟨some 2, .alc 51 (.agg #[.int .i64 0, .int .i64 0, .int .i64 0, .int .i64 0]), none⟩]
def Xn12_4 : C := regL [2, 5, 6, 7] none [⟨some 5, .mv (.tmp 0), none⟩, ⟨some 6, .len (.tmp 5), none⟩, ⟨some 7, .mv (.const (.int .i64 0)), none⟩]
def Xn12_8 : C := regL [2, 5, 6, 7, 8] none [⟨some 8, .bin 3 .lss (.tmp 7) (.tmp 6), none⟩]
def Xn12_10 : C := .cond (.tmp 8) .skip (.exit 0)
def Xn12_16 : C := regL [2, 4, 5, 6, 7] none [⟨some 9, .ia 7 (.tmp 5) (.tmp 7), none⟩, ⟨some 10, .ld 56 7 true (.tmp 9), none⟩, ⟨some 4, .alc 56 (.agg #[.int .i64 0, .int .i64 0, .int .i64 0, .int .i64 0, .int .i64 0, .int .i64 0, .int .i64 0]), none⟩, ⟨none, .st 56 7 (.tmp 4) (.tmp 10), none⟩]
def Xn12_17 : C := regL [2, 5, 6, 7] none [⟨some 11, .ld 56 7 true (.tmp 4), none⟩, ⟨some 12, .call 25 [.tmp 2, .tmp 11], none⟩]
def Xn12_15 : C := .seq Xn12_16 Xn12_17
def Xn12_14 : C := .block 1 Xn12_15
def Xn12_18 : C := regL [2, 5, 6, 7] none [⟨some 13, .bin 3 .add (.tmp 7) (.const (.int .i64 1)), none⟩, ⟨some 7, .mv (.tmp 13), none⟩]
def Xn12_13 : C := seqL [2, 5, 6, 7] Xn12_14 Xn12_18
def Xn12_9 : C := seqL [2, 5, 6, 7] Xn12_10 Xn12_13
def Xn12_7 : C := .seq Xn12_8 Xn12_9
def Xn12_6 : C := loopL [2, 5, 6, 7] Xn12_7
def Xn12_5 : C := .block 0 Xn12_6
def Xn12_3 : C := .seq Xn12_4 Xn12_5
def Xn12_20 : C := regL [2] none [⟨some 14, .ld 51 4 true (.tmp 2), none⟩, ⟨none, .st 51 4 (.tmp 2) (.tmp 14), none⟩]
def Xn12_19 : C := .seq Xn12_20 .ret
def Xn12_2 : C := seqL [2] Xn12_3 Xn12_19
def Xn12_0 : C := .seq Xn12_1 Xn12_2
theorem Xt12 : Text Try.prog 12 Xn12_0 15 1 [.c 2 4 true] := ⟨⟨Try.f12, [], Try.func12, by kernel_rfl, by kernel_rfl, by kernel_rfl, by kernel_rfl⟩⟩
def Xn13_1 : C := regL [1] none [⟨some 1, .box true 26 (.tmp 0), none⟩, ⟨some 2, .mv (.const (.int .i64 0)), none⟩]
def Xn13_4 : C := regL [1, 11] none [⟨some 3, .fa 1 (.tmp 1), none⟩, ⟨some 4, .ld 24 1 false (.tmp 3), none⟩, ⟨some 5, .len (.tmp 4), none⟩, ⟨some 6, .bin 3 .gtr (.tmp 5) (.const (.int .i64 12)), none⟩, ⟨some 7, .mv (.tmp 6), none⟩, ⟨some 8, .fa 1 (.tmp 1), some (7, false)⟩, ⟨some 9, .ld 24 1 false (.tmp 8), some (7, false)⟩, ⟨some 10, .call 26 [.tmp 9, .func 27], some (7, false)⟩, ⟨some 11, .pick 7 (.const (.bool true)) (.tmp 10), none⟩]
def Xn13_7 : C := regL [2] none [⟨some 2, .mv (.const (.int .i64 6)), none⟩]
def Xn13_6 : C := .seq Xn13_7 .ret
def Xn13_5 : C := .cond (.tmp 11) Xn13_6 .skip
def Xn13_3 : C := .seq Xn13_4 Xn13_5
def Xn13_12 : C := regL [1, 49] none [⟨some 12, .fa 0 (.tmp 1), none⟩, ⟨some 13, .ld 9 1 false (.tmp 12), none⟩, ⟨some 14, .call 28 [.tmp 13], none⟩, ⟨some 15, .un .not (.tmp 14), none⟩, ⟨some 16, .mv (.tmp 15), none⟩, ⟨some 17, .fa 1 (.tmp 1), some (16, false)⟩, ⟨some 18, .ld 24 1 false (.tmp 17), some (16, false)⟩, ⟨some 19, .len (.tmp 18), some (16, false)⟩, ⟨some 20, .bin 3 .eql (.tmp 19) (.const (.int .i64 0)), some (16, false)⟩, ⟨some 21, .pick 16 (.const (.bool true)) (.tmp 20), none⟩, ⟨some 22, .mv (.tmp 21), none⟩, ⟨some 23, .fa 1 (.tmp 1), some (22, false)⟩, ⟨some 24, .ld 24 1 false (.tmp 23), some (22, false)⟩, ⟨some 25, .ia 11 (.tmp 24) (.const (.int .i64 0)), some (22, false)⟩, ⟨some 26, .fa 0 (.tmp 25), some (22, false)⟩, ⟨some 27, .ld 3 1 false (.tmp 26), some (22, false)⟩, ⟨some 28, .bin 3 .neq (.tmp 27) (.const (.int .i64 0)), some (22, false)⟩, ⟨some 29, .pick 22 (.const (.bool true)) (.tmp 28), none⟩, ⟨some 30, .mv (.tmp 29), none⟩, ⟨some 31, .fa 2 (.tmp 1), some (30, false)⟩, ⟨some 32, .ld 3 1 false (.tmp 31), some (30, false)⟩, ⟨some 33, .bin 3 .lss (.tmp 32) (.const (.int .i64 0)), some (30, false)⟩, ⟨some 34, .pick 30 (.const (.bool true)) (.tmp 33), none⟩, ⟨some 35, .mv (.tmp 34), none⟩, ⟨some 36, .fa 2 (.tmp 1), some (35, false)⟩, ⟨some 37, .ld 3 1 false (.tmp 36), some (35, false)⟩, ⟨some 38, .fa 3 (.tmp 1), some (35, false)⟩, ⟨some 39, .ld 3 1 false (.tmp 38), some (35, false)⟩, ⟨some 40, .bin 3 .gtr (.tmp 37) (.tmp 39), some (35, false)⟩, ⟨some 41, .pick 35 (.const (.bool true)) (.tmp 40), none⟩, ⟨some 42, .mv (.tmp 41), none⟩, ⟨some 43, .fa 3 (.tmp 1), some (42, false)⟩, ⟨some 44, .ld 3 1 false (.tmp 43), some (42, false)⟩, ⟨some 45, .fa 1 (.tmp 1), some (42, false)⟩, ⟨some 46, .ld 24 1 false (.tmp 45), some (42, false)⟩, ⟨some 47, .len (.tmp 46), some (42, false)⟩, ⟨some 48, .bin 3 .geq (.tmp 44) (.tmp 47), some (42, false)⟩, ⟨some 49, .pick 42 (.const (.bool true)) (.tmp 48), none⟩]
def Xn13_15 : C := regL [2] none [⟨some 2, .mv (.const (.int .i64 2)), none⟩]
def Xn13_14 : C := .seq Xn13_15 .ret
def Xn13_13 : C := .cond (.tmp 49) Xn13_14 .skip
def Xn13_11 : C := .seq Xn13_12 Xn13_13
def Xn13_20 : C := regL [52] none [⟨some 50, .fa 1 (.tmp 1), none⟩, ⟨some 51, .ld 24 1 false (.tmp 50), none⟩, ⟨some 52, .call 26 [.tmp 51, .func 29], none⟩]
def Xn13_23 : C := regL [2] none [⟨some 2, .mv (.const (.int .i64 2)), none⟩]
def Xn13_22 : C := .seq Xn13_23 .ret
def Xn13_21 : C := .cond (.tmp 52) Xn13_22 .skip
def Xn13_19 : C := .seq Xn13_20 Xn13_21
def Xn13_27 : C := regL [2] none [⟨some 2, .mv (.const (.int .i64 0)), none⟩]
def Xn13_26 : C := .seq Xn13_27 .ret
def Xn13_18 : C := seqL [] Xn13_19 Xn13_26
def Xn13_10 : C := seqL [1] Xn13_11 Xn13_18
def Xn13_2 : C := seqL [1] Xn13_3 Xn13_10
def Xn13_0 : C := .seq Xn13_1 Xn13_2
theorem Xt13 : Text Try.prog 13 Xn13_0 53 1 [.t 2] := ⟨⟨Try.f13, [1], Try.func13, by kernel_rfl, by kernel_rfl, by kernel_rfl, by kernel_rfl⟩⟩
def Xn14_1 : C := regL [3, 4, 5, 6] none [⟨some 3, .box true 26 (.tmp 0), none⟩, ⟨some 4, .box true 59 (.tmp 1), none⟩, ⟨some 5, .box true 59 (.tmp 2), none⟩, ⟨some 6, .alc 62 (.agg #[.int .i64 0, .int .i64 0, .slice none 0 0]), none⟩, ⟨some 7, .mv (.const (.int .i64 0)), none⟩]
def Xn14_4 : C := regL [3, 4, 5, 6, 8] none [⟨some 20, .ld 26 4 true (.tmp 3), none⟩, ⟨some 21, .call 13 [.tmp 20], none⟩, ⟨some 8, .mv (.tmp 21), none⟩]
def Xn14_6 : C := regL [3, 4, 5, 6, 8, 23] none [⟨some 22, .mv (.tmp 8), none⟩, ⟨some 23, .bin 28 .neq (.tmp 22) (.const (.int .i64 0)), none⟩]
def Xn14_9 : C := regL [6, 7] none [⟨some 24, .bld (.agg #[.int .i64 0, .int .i64 0, .slice none 0 0]) [], none⟩, ⟨some 25, .mv (.tmp 8), none⟩, ⟨none, .st 62 3 (.tmp 6) (.tmp 24), none⟩, ⟨some 7, .mv (.tmp 25), none⟩]
def Xn14_8 : C := .seq Xn14_9 .ret
def Xn14_7 : C := .cond (.tmp 23) Xn14_8 .skip
def Xn14_5 : C := .seq Xn14_6 Xn14_7
def Xn14_3 : C := .seq Xn14_4 Xn14_5
def Xn14_14 : C := regL [3, 4, 5, 6, 33] none [⟨some 26, .ld 59 2 true (.tmp 4), none⟩, ⟨some 27, .call 31 [.tmp 26], none⟩, ⟨some 28, .bin 28 .neq (.tmp 27) (.const (.int .i64 0)), none⟩, ⟨some 29, .mv (.tmp 28), none⟩, ⟨some 30, .ld 59 2 true (.tmp 5), some (29, false)⟩, ⟨some 31, .call 31 [.tmp 30], some (29, false)⟩, ⟨some 32, .bin 28 .neq (.tmp 31) (.const (.int .i64 0)), some (29, false)⟩, ⟨some 33, .pick 29 (.const (.bool true)) (.tmp 32), none⟩]
def Xn14_17 : C := regL [6, 7] none [⟨some 34, .bld (.agg #[.int .i64 0, .int .i64 0, .slice none 0 0]) [], none⟩, ⟨none, .st 62 3 (.tmp 6) (.tmp 34), none⟩, ⟨some 7, .mv (.const (.int .i64 2)), none⟩]
def Xn14_16 : C := .seq Xn14_17 .ret
def Xn14_15 : C := .cond (.tmp 33) Xn14_16 .skip
def Xn14_13 : C := .seq Xn14_14 Xn14_15
def Xn14_21 : C := regL [3, 4, 5, 6, 9] none [⟨some 35, .ld 59 2 true (.tmp 4), none⟩, ⟨some 36, .bld (.agg #[.int .i64 0, .int .i64 0, .slice none 0 0]) [(0, 2, .tmp 35)], none⟩, ⟨some 9, .alc 62 (.agg #[.int .i64 0, .int .i64 0, .slice none 0 0]), none⟩, ⟨none, .st 62 3 (.tmp 9) (.tmp 36), none⟩]
def Xn14_23 : C := regL [3, 4, 5, 6, 9, 10] none [⟨some 37, .fa 1 (.tmp 3), none⟩, ⟨some 38, .ld 24 1 false (.tmp 37), none⟩, ⟨some 39, .ia 11 (.tmp 38) (.const (.int .i64 0)), none⟩, ⟨some 40, .ld 44 11 true (.tmp 39), none⟩, ⟨some 41, .bld (.agg #[.int .i64 0, .int .i64 0, .int .i64 0, .int .i64 0, .int .i64 0, .int .i64 0, .int .i64 0, .int .i64 0, .int .i64 0, .int .i64 0, .slice none 0 0]) [(0, 11, .tmp 40)], none⟩, ⟨some 10, .alc 83 (.agg #[.int .i64 0, .int .i64 0, .int .i64 0, .int .i64 0, .int .i64 0, .int .i64 0, .int .i64 0, .int .i64 0, .int .i64 0, .int .i64 0, .slice none 0 0]), none⟩, ⟨none, .st 83 11 (.tmp 10) (.tmp 41), none⟩]
def Xn14_25 : C := regL [3, 4, 6, 9, 10, 11, 12] (some [0, 0, 0, 4, 15, 31, 63, 63, 0, 383, 1023]) [⟨some 43, .ld 59 2 true (.tmp 4), none⟩, ⟨some 44, .ld 59 2 true (.tmp 5), none⟩, ⟨some 45, .ld 83 11 true (.tmp 10), none⟩, ⟨some 46, .call 33 [.tmp 45], none⟩, ⟨some 47, .call 32 [.tmp 43, .tmp 44, .tmp 46], none⟩, ⟨some 42, .mv (.tmp 47), none⟩, ⟨some 48, .ext 0 (.tmp 42), none⟩, ⟨some 49, .ext 1 (.tmp 42), none⟩, ⟨some 11, .alc 59 (.agg #[.int .i64 0, .int .i64 0]), none⟩, ⟨none, .st 59 2 (.tmp 11) (.tmp 48), none⟩, ⟨some 12, .mv (.tmp 49), none⟩]
def Xn14_28 : C := regL [3, 4, 6, 9, 10, 11, 12, 51] none [⟨some 50, .mv (.tmp 12), none⟩, ⟨some 51, .bin 28 .neq (.tmp 50) (.const (.int .i64 0)), none⟩]
def Xn14_31 : C := regL [6, 7] none [⟨some 52, .bld (.agg #[.int .i64 0, .int .i64 0, .slice none 0 0]) [], none⟩, ⟨some 53, .mv (.tmp 12), none⟩, ⟨none, .st 62 3 (.tmp 6) (.tmp 52), none⟩, ⟨some 7, .mv (.tmp 53), none⟩]
def Xn14_30 : C := .seq Xn14_31 .ret
def Xn14_29 : C := .cond (.tmp 51) Xn14_30 .skip
def Xn14_27 : C := .seq Xn14_28 Xn14_29
def Xn14_35 : C := regL [3, 4, 6, 9, 10, 11] none [⟨some 54, .fa 2 (.tmp 9), none⟩, ⟨some 55, .ld 60 1 false (.tmp 54), none⟩, ⟨some 56, .ld 59 2 true (.tmp 11), none⟩, ⟨some 57, .bls 59 2 1 (.agg #[.int .i64 0, .int .i64 0]) [(0, 2, .tmp 56)], none⟩, ⟨some 58, .app 59 2 16 (.tmp 55) (.tmp 57), none⟩, ⟨some 59, .fa 2 (.tmp 9), none⟩, ⟨none, .st 60 1 (.tmp 59) (.tmp 58), none⟩]
def Xn14_37 : C := regL [3, 6, 9, 13] none [⟨some 60, .ld 83 11 true (.tmp 10), none⟩, ⟨some 61, .ld 59 2 true (.tmp 4), none⟩, ⟨some 62, .ld 59 2 true (.tmp 11), none⟩, ⟨some 63, .bld (.agg #[.int .i64 0, .int .i64 0, .int .i64 0, .int .i64 0, .int .i64 0, .int .i64 0, .int .i64 0, .int .i64 0, .int .i64 0, .int .i64 0, .slice none 0 0, .int .i64 0, .int .i64 0, .int .i64 0, .int .i64 0]) [(0, 11, .tmp 60), (11, 2, .tmp 61), (13, 2, .tmp 62)], none⟩, ⟨some 13, .alc 88 (.agg #[.int .i64 0, .int .i64 0, .int .i64 0, .int .i64 0, .int .i64 0, .int .i64 0, .int .i64 0, .int .i64 0, .int .i64 0, .int .i64 0, .slice none 0 0, .int .i64 0, .int .i64 0, .int .i64 0, .int .i64 0]), none⟩, ⟨none, .st 88 15 (.tmp 13) (.tmp 63), none⟩]
def Xn14_40 : C := regL [3, 6, 9, 13, 66, 67, 68] none [⟨some 64, .fa 1 (.tmp 3), none⟩, ⟨some 65, .ld 24 1 false (.tmp 64), none⟩, ⟨some 66, .slc 24 11 (.tmp 65) (some (.const (.int .i64 1))) none, none⟩, ⟨some 67, .len (.tmp 66), none⟩, ⟨some 68, .mv (.const (.int .i64 0)), none⟩]
def Xn14_44 : C := regL [3, 6, 9, 13, 66, 67, 68, 69] none [⟨some 69, .bin 3 .lss (.tmp 68) (.tmp 67), none⟩]
def Xn14_46 : C := .cond (.tmp 69) .skip (.exit 0)
def Xn14_52 : C := regL [3, 6, 9, 13, 15, 66, 67, 68] none [⟨some 70, .ia 11 (.tmp 66) (.tmp 68), none⟩, ⟨some 71, .ld 44 11 true (.tmp 70), none⟩, ⟨some 15, .alc 44 (.agg #[.int .i64 0, .int .i64 0, .int .i64 0, .int .i64 0, .int .i64 0, .int .i64 0, .int .i64 0, .int .i64 0, .int .i64 0, .int .i64 0, .slice none 0 0]), none⟩, ⟨none, .st 44 11 (.tmp 15) (.tmp 71), none⟩]
def Xn14_54 : C := regL [3, 6, 9, 13, 16, 66, 67, 68] none [⟨some 72, .ld 44 11 true (.tmp 15), none⟩, ⟨some 73, .bld (.agg #[.int .i64 0, .int .i64 0, .int .i64 0, .int .i64 0, .int .i64 0, .int .i64 0, .int .i64 0, .int .i64 0, .int .i64 0, .int .i64 0, .slice none 0 0]) [(0, 11, .tmp 72)], none⟩, ⟨some 16, .alc 83 (.agg #[.int .i64 0, .int .i64 0, .int .i64 0, .int .i64 0, .int .i64 0, .int .i64 0, .int .i64 0, .int .i64 0, .int .i64 0, .int .i64 0, .slice none 0 0]), none⟩, ⟨none, .st 83 11 (.tmp 16) (.tmp 73), none⟩]
def Xn14_56 : C := regL [3, 6, 9, 13, 16, 17, 18, 66, 67, 68] (some [0, 0, 2, 6, 15, 31, 63, 63, 0, 383, 1023]) [⟨some 75, .ld 88 15 true (.tmp 13), none⟩, ⟨some 76, .fa 0 (.tmp 13), none⟩, ⟨some 77, .ld 83 11 true (.tmp 76), none⟩, ⟨some 78, .call 35 [.tmp 77], none⟩, ⟨some 79, .call 34 [.tmp 75, .tmp 78, .const (.int .i64 0)], none⟩, ⟨some 74, .mv (.tmp 79), none⟩, ⟨some 80, .ext 0 (.tmp 74), none⟩, ⟨some 81, .ext 1 (.tmp 74), none⟩, ⟨some 17, .alc 59 (.agg #[.int .i64 0, .int .i64 0]), none⟩, ⟨none, .st 59 2 (.tmp 17) (.tmp 80), none⟩, ⟨some 18, .mv (.tmp 81), none⟩]
def Xn14_59 : C := regL [3, 6, 9, 13, 16, 17, 18, 66, 67, 68, 83] none [⟨some 82, .mv (.tmp 18), none⟩, ⟨some 83, .bin 28 .neq (.tmp 82) (.const (.int .i64 0)), none⟩]
def Xn14_62 : C := regL [6, 7] none [⟨some 84, .bld (.agg #[.int .i64 0, .int .i64 0, .slice none 0 0]) [], none⟩, ⟨some 85, .mv (.tmp 18), none⟩, ⟨none, .st 62 3 (.tmp 6) (.tmp 84), none⟩, ⟨some 7, .mv (.tmp 85), none⟩]
def Xn14_61 : C := .seq Xn14_62 .ret
def Xn14_60 : C := .cond (.tmp 83) Xn14_61 .skip
def Xn14_58 : C := .seq Xn14_59 Xn14_60
def Xn14_66 : C := regL [3, 6, 9, 13, 16, 17, 18, 19, 66, 67, 68] (some [0, 0, 2, 6, 0, 30, 62, 127, 255, 511, 511, 0, 3071, 8191]) [⟨some 87, .ld 88 15 true (.tmp 13), none⟩, ⟨some 88, .fa 0 (.tmp 13), none⟩, ⟨some 89, .ld 83 11 true (.tmp 88), none⟩, ⟨some 90, .call 35 [.tmp 89], none⟩, ⟨some 91, .ld 83 11 true (.tmp 16), none⟩, ⟨some 92, .call 33 [.tmp 91], none⟩, ⟨some 93, .bin 2 .sub (.tmp 90) (.tmp 92), none⟩, ⟨some 94, .call 34 [.tmp 87, .tmp 93, .const (.int .i64 0)], none⟩, ⟨some 86, .mv (.tmp 94), none⟩, ⟨some 95, .ext 0 (.tmp 86), none⟩, ⟨some 96, .ext 1 (.tmp 86), none⟩, ⟨some 19, .alc 59 (.agg #[.int .i64 0, .int .i64 0]), none⟩, ⟨none, .st 59 2 (.tmp 19) (.tmp 95), none⟩, ⟨some 18, .mv (.tmp 96), none⟩]
def Xn14_69 : C := regL [3, 6, 9, 13, 16, 17, 18, 19, 66, 67, 68, 98] none [⟨some 97, .mv (.tmp 18), none⟩, ⟨some 98, .bin 28 .neq (.tmp 97) (.const (.int .i64 0)), none⟩]
def Xn14_72 : C := regL [6, 7] none [⟨some 99, .bld (.agg #[.int .i64 0, .int .i64 0, .slice none 0 0]) [], none⟩, ⟨some 100, .mv (.tmp 18), none⟩, ⟨none, .st 62 3 (.tmp 6) (.tmp 99), none⟩, ⟨some 7, .mv (.tmp 100), none⟩]
def Xn14_71 : C := .seq Xn14_72 .ret
def Xn14_70 : C := .cond (.tmp 98) Xn14_71 .skip
def Xn14_68 : C := .seq Xn14_69 Xn14_70
def Xn14_76 : C := regL [3, 6, 9, 13, 16, 17, 19, 66, 67, 68] none [⟨some 101, .fa 2 (.tmp 9), none⟩, ⟨some 102, .ld 60 1 false (.tmp 101), none⟩, ⟨some 103, .ld 59 2 true (.tmp 19), none⟩, ⟨some 104, .bls 59 2 1 (.agg #[.int .i64 0, .int .i64 0]) [(0, 2, .tmp 103)], none⟩, ⟨some 105, .app 59 2 16 (.tmp 102) (.tmp 104), none⟩, ⟨some 106, .fa 2 (.tmp 9), none⟩, ⟨none, .st 60 1 (.tmp 106) (.tmp 105), none⟩]
def Xn14_77 : C := regL [3, 6, 9, 13, 66, 67, 68] none [⟨some 107, .ld 83 11 true (.tmp 16), none⟩, ⟨some 108, .ld 59 2 true (.tmp 17), none⟩, ⟨some 109, .ld 59 2 true (.tmp 19), none⟩, ⟨some 110, .bld (.agg #[.int .i64 0, .int .i64 0, .int .i64 0, .int .i64 0, .int .i64 0, .int .i64 0, .int .i64 0, .int .i64 0, .int .i64 0, .int .i64 0, .slice none 0 0, .int .i64 0, .int .i64 0, .int .i64 0, .int .i64 0]) [(0, 11, .tmp 107), (11, 2, .tmp 108), (13, 2, .tmp 109)], none⟩, ⟨none, .st 88 15 (.tmp 13) (.tmp 110), none⟩]
def Xn14_75 : C := .seq Xn14_76 Xn14_77
def Xn14_67 : C := seqL [3, 6, 9, 13, 16, 17, 19, 66, 67, 68] Xn14_68 Xn14_75
def Xn14_65 : C := .seq Xn14_66 Xn14_67
def Xn14_57 : C := seqL [3, 6, 9, 13, 16, 17, 66, 67, 68] Xn14_58 Xn14_65
def Xn14_55 : C := .seq Xn14_56 Xn14_57
def Xn14_53 : C := .seq Xn14_54 Xn14_55
def Xn14_51 : C := .seq Xn14_52 Xn14_53
def Xn14_50 : C := .block 1 Xn14_51
def Xn14_78 : C := regL [3, 6, 9, 13, 66, 67, 68] none [⟨some 111, .bin 3 .add (.tmp 68) (.const (.int .i64 1)), none⟩, ⟨some 68, .mv (.tmp 111), none⟩]
def Xn14_49 : C := seqL [3, 6, 9, 13, 66, 67, 68] Xn14_50 Xn14_78
def Xn14_45 : C := seqL [3, 6, 9, 13, 66, 67, 68] Xn14_46 Xn14_49
def Xn14_43 : C := .seq Xn14_44 Xn14_45
def Xn14_42 : C := loopL [3, 6, 9, 13, 66, 67, 68] Xn14_43
def Xn14_41 : C := .block 0 Xn14_42
def Xn14_39 : C := .seq Xn14_40 Xn14_41
def Xn14_80 : C := regL [6, 7] none [⟨some 112, .ld 26 4 true (.tmp 3), none⟩, ⟨some 113, .ld 62 3 true (.tmp 9), none⟩, ⟨some 114, .call 36 [.tmp 112, .tmp 113], none⟩, ⟨some 115, .ext 0 (.tmp 114), none⟩, ⟨some 116, .ext 1 (.tmp 114), none⟩, ⟨none, .st 62 3 (.tmp 6) (.tmp 115), none⟩, ⟨some 7, .mv (.tmp 116), none⟩]
def Xn14_79 : C := .seq Xn14_80 .ret
def Xn14_38 : C := seqL [3, 6, 9] Xn14_39 Xn14_79
def Xn14_36 : C := .seq Xn14_37 Xn14_38
def Xn14_34 : C := .seq Xn14_35 Xn14_36
def Xn14_26 : C := seqL [3, 4, 6, 9, 10, 11] Xn14_27 Xn14_34
def Xn14_24 : C := .seq Xn14_25 Xn14_26
def Xn14_22 : C := .seq Xn14_23 Xn14_24
def Xn14_20 : C := .seq Xn14_21 Xn14_22
def Xn14_12 : C := seqL [3, 4, 5, 6] Xn14_13 Xn14_20
def Xn14_2 : C := seqL [3, 4, 5, 6] Xn14_3 Xn14_12
def Xn14_0 : C := .seq Xn14_1 Xn14_2
theorem Xt14 : Text Try.prog 14 Xn14_0 117 3 [.c 6 3 true, .t 7] := ⟨⟨Try.f14, [3, 4, 5], Try.func14, by kernel_rfl, by kernel_rfl, by kernel_rfl, by kernel_rfl⟩⟩
def Xn15_1 : C := regL [0, 1, 2, 3] none [⟨some 8, .mv (.const (.int .i64 0)), none⟩, ⟨some 9, .mv (.const (.int .i64 0)), none⟩, ⟨some 10, .mv (.const (.int .i64 0)), none⟩]
def Xn15_3 : C := regL [0, 1, 2, 3, 11] none [⟨some 11, .mv (.func 37), none⟩]
def Xn15_7 : C := regL [0, 1, 2, 3, 12] none [⟨some 13, .mv (.tmp 0), none⟩, ⟨some 14, .call 17 [.tmp 13], none⟩, ⟨some 15, .un .not (.tmp 14), none⟩, ⟨some 16, .mv (.tmp 15), none⟩, ⟨some 17, .mv (.tmp 11), some (16, false)⟩, ⟨some 18, .mv (.tmp 1), some (16, false)⟩, ⟨some 19, .callv (.tmp 17) [.tmp 18], some (16, false)⟩, ⟨some 20, .un .not (.tmp 19), some (16, false)⟩, ⟨some 21, .pick 16 (.const (.bool true)) (.tmp 20), none⟩, ⟨some 22, .mv (.tmp 21), none⟩, ⟨some 23, .mv (.tmp 11), some (22, false)⟩, ⟨some 24, .mv (.tmp 2), some (22, false)⟩, ⟨some 25, .callv (.tmp 23) [.tmp 24], some (22, false)⟩, ⟨some 26, .un .not (.tmp 25), some (22, false)⟩, ⟨some 27, .pick 22 (.const (.bool true)) (.tmp 26), none⟩, ⟨some 28, .mv (.tmp 27), none⟩, ⟨some 29, .mv (.tmp 11), some (28, false)⟩, ⟨some 30, .mv (.tmp 3), some (28, false)⟩, ⟨some 31, .callv (.tmp 29) [.tmp 30], some (28, false)⟩, ⟨some 32, .un .not (.tmp 31), some (28, false)⟩, ⟨some 33, .pick 28 (.const (.bool true)) (.tmp 32), none⟩, ⟨some 12, .mv (.tmp 33), none⟩]
def Xn15_10 : C := regL [8, 9, 10] none [⟨some 8, .mv (.const (.int .i64 0)), none⟩, ⟨some 9, .mv (.const (.int .i64 0)), none⟩, ⟨some 10, .mv (.const (.int .i64 3)), none⟩]
def Xn15_9 : C := .seq Xn15_10 .ret
def Xn15_13 : C := regL [0, 1, 2, 3, 34] none [⟨some 35, .mv (.tmp 1), none⟩, ⟨some 36, .mv (.tmp 2), none⟩, ⟨some 37, .bin 2 .geq (.tmp 35) (.tmp 36), none⟩, ⟨some 34, .mv (.tmp 37), none⟩]
def Xn15_16 : C := regL [8, 9, 10] none [⟨some 8, .mv (.const (.int .i64 0)), none⟩, ⟨some 9, .mv (.const (.int .i64 0)), none⟩, ⟨some 10, .mv (.const (.int .i64 9)), none⟩]
def Xn15_15 : C := .seq Xn15_16 .ret
def Xn15_19 : C := regL [0, 1, 2, 3, 38] none [⟨some 39, .mv (.tmp 3), none⟩, ⟨some 40, .mv (.tmp 1), none⟩, ⟨some 41, .mv (.tmp 2), none⟩, ⟨some 42, .call 18 [.tmp 39, .tmp 40, .tmp 41], none⟩, ⟨some 43, .un .not (.tmp 42), none⟩, ⟨some 38, .mv (.tmp 43), none⟩]
def Xn15_22 : C := regL [8, 9, 10] none [⟨some 8, .mv (.const (.int .i64 0)), none⟩, ⟨some 9, .mv (.const (.int .i64 0)), none⟩, ⟨some 10, .mv (.const (.int .i64 19)), none⟩]
def Xn15_21 : C := .seq Xn15_22 .ret
def Xn15_20 : C := .cond (.tmp 38) Xn15_21 .skip
def Xn15_18 : C := .seq Xn15_19 Xn15_20
def Xn15_14 : C := .cond (.tmp 34) Xn15_15 Xn15_18
def Xn15_12 : C := .seq Xn15_13 Xn15_14
def Xn15_8 : C := .cond (.tmp 12) Xn15_9 Xn15_12
def Xn15_6 : C := .seq Xn15_7 Xn15_8
def Xn15_5 : C := .block 0 Xn15_6
def Xn15_26 : C := regL [8, 9, 10] none [⟨some 44, .mv (.tmp 0), none⟩, ⟨some 45, .mv (.tmp 2), none⟩, ⟨some 46, .mv (.tmp 3), none⟩, ⟨some 47, .bin 2 .sub (.tmp 45) (.tmp 46), none⟩, ⟨some 48, .mv (.tmp 2), none⟩, ⟨some 49, .mv (.tmp 1), none⟩, ⟨some 50, .bin 2 .sub (.tmp 48) (.tmp 49), none⟩, ⟨some 51, .bld (.agg #[.int .i64 0, .int .i64 0, .int .i64 0]) [(0, 1, .tmp 44), (1, 1, .tmp 47), (2, 1, .tmp 50)], none⟩, ⟨some 52, .call 38 [.tmp 51], none⟩, ⟨some 53, .mv (.tmp 0), none⟩, ⟨some 54, .mv (.tmp 3), none⟩, ⟨some 55, .mv (.tmp 1), none⟩, ⟨some 56, .bin 2 .sub (.tmp 54) (.tmp 55), none⟩, ⟨some 57, .mv (.tmp 2), none⟩, ⟨some 58, .mv (.tmp 1), none⟩, ⟨some 59, .bin 2 .sub (.tmp 57) (.tmp 58), none⟩, ⟨some 60, .bld (.agg #[.int .i64 0, .int .i64 0, .int .i64 0]) [(0, 1, .tmp 53), (1, 1, .tmp 56), (2, 1, .tmp 59)], none⟩, ⟨some 61, .call 38 [.tmp 60], none⟩, ⟨some 8, .mv (.tmp 52), none⟩, ⟨some 9, .mv (.tmp 61), none⟩, ⟨some 10, .mv (.const (.int .i64 0)), none⟩]
def Xn15_25 : C := .seq Xn15_26 .ret
def Xn15_4 : C := seqL [0, 1, 2, 3] Xn15_5 Xn15_25
def Xn15_2 : C := .seq Xn15_3 Xn15_4
def Xn15_0 : C := .seq Xn15_1 Xn15_2
theorem Xt15 : Text Try.prog 15 Xn15_0 62 4 [.t 8, .t 9, .t 10] := ⟨⟨Try.f15, [], Try.func15, by kernel_rfl, by kernel_rfl, by kernel_rfl, by kernel_rfl⟩⟩
def Xn16_1 : C := regL [0] none [⟨some 2, .mv (.const (.slice none 0 0)), none⟩, ⟨some 3, .mv (.const (.int .i64 0)), none⟩]
def Xn16_4 : C := regL [0, 4] none [⟨some 5, .mv (.tmp 0), none⟩, ⟨some 6, .bls 60 1 1 (.slice none 0 0) [(0, 1, .tmp 5)], none⟩, ⟨some 7, .call 39 [.tmp 6], none⟩, ⟨some 4, .mv (.tmp 7), none⟩]
def Xn16_6 : C := regL [0, 4, 9] none [⟨some 8, .mv (.tmp 4), none⟩, ⟨some 9, .bin 28 .neq (.tmp 8) (.const (.int .i64 0)), none⟩]
def Xn16_9 : C := regL [2, 3] none [⟨some 10, .mv (.tmp 4), none⟩, ⟨some 2, .mv (.const (.slice none 0 0)), none⟩, ⟨some 3, .mv (.tmp 10), none⟩]
def Xn16_8 : C := .seq Xn16_9 .ret
def Xn16_7 : C := .cond (.tmp 9) Xn16_8 .skip
def Xn16_5 : C := .seq Xn16_6 Xn16_7
def Xn16_3 : C := .seq Xn16_4 Xn16_5
def Xn16_14 : C := regL [0, 13] none [⟨some 11, .mv (.tmp 0), none⟩, ⟨some 12, .len (.tmp 11), none⟩, ⟨some 13, .bin 3 .eql (.tmp 12) (.const (.int .i64 0)), none⟩]
def Xn16_17 : C := regL [2, 3] none [⟨some 2, .mv (.const (.slice none 0 0)), none⟩, ⟨some 3, .mv (.const (.int .i64 5)), none⟩]
def Xn16_16 : C := .seq Xn16_17 .ret
def Xn16_15 : C := .cond (.tmp 13) Xn16_16 .skip
def Xn16_13 : C := .seq Xn16_14 Xn16_15
def Xn16_21 : C := regL [2, 3] none [⟨some 14, .mv (.tmp 0), none⟩, ⟨some 15, .call 40 [.tmp 14], none⟩, ⟨some 2, .mv (.tmp 15), none⟩, ⟨some 3, .mv (.const (.int .i64 0)), none⟩]
def Xn16_20 : C := .seq Xn16_21 .ret
def Xn16_12 : C := seqL [0] Xn16_13 Xn16_20
def Xn16_2 : C := seqL [0] Xn16_3 Xn16_12
def Xn16_0 : C := .seq Xn16_1 Xn16_2
theorem Xt16 : Text Try.prog 16 Xn16_0 16 1 [.t 2, .t 3] := ⟨⟨Try.f16, [], Try.func16, by kernel_rfl, by kernel_rfl, by kernel_rfl, by kernel_rfl⟩⟩
def Xn17_1 : C := regL [0] none [⟨some 2, .mv (.const (.bool false)), none⟩]
def Xn17_3 : C := regL [2] none [⟨some 3, .mv (.tmp 0), none⟩, ⟨some 4, .call 18 [.tmp 3, .const (.int .i64 1), .const (.int .i64 16777216)], none⟩, ⟨some 2, .mv (.tmp 4), none⟩]
def Xn17_2 : C := .seq Xn17_3 .ret
def Xn17_0 : C := .seq Xn17_1 Xn17_2
theorem Xt17 : Text Try.prog 17 Xn17_0 5 1 [.t 2] := ⟨⟨Try.f17, [], Try.func17, by kernel_rfl, by kernel_rfl, by kernel_rfl, by kernel_rfl⟩⟩
def Xn18_1 : C := regL [0, 1, 2] none [⟨some 6, .mv (.const (.bool false)), none⟩]
def Xn18_3 : C := regL [6] none [⟨some 7, .mv (.tmp 0), none⟩, ⟨some 8, .mv (.tmp 1), none⟩, ⟨some 9, .bin 2 .geq (.tmp 7) (.tmp 8), none⟩, ⟨some 10, .mv (.tmp 9), none⟩, ⟨some 11, .mv (.tmp 0), some (10, true)⟩, ⟨some 12, .mv (.tmp 2), some (10, true)⟩, ⟨some 13, .bin 2 .leq (.tmp 11) (.tmp 12), some (10, true)⟩, ⟨some 14, .pick 10 (.tmp 13) (.const (.bool false)), none⟩, ⟨some 6, .mv (.tmp 14), none⟩]
def Xn18_2 : C := .seq Xn18_3 .ret
def Xn18_0 : C := .seq Xn18_1 Xn18_2
theorem Xt18 : Text Try.prog 18 Xn18_0 15 3 [.t 6] := ⟨⟨Try.f18, [], Try.func18, by kernel_rfl, by kernel_rfl, by kernel_rfl, by kernel_rfl⟩⟩
def Xn19_1 : C := regL [0, 1] none [⟨some 4, .mv (.const (.bool false)), none⟩]
def Xn19_3 : C := regL [4] none [⟨some 5, .mv (.tmp 0), none⟩, ⟨some 6, .mv (.tmp 1), none⟩, ⟨some 7, .call 41 [.tmp 5, .tmp 6], none⟩, ⟨some 8, .bin 3 .geq (.tmp 7) (.const (.int .i64 0)), none⟩, ⟨some 4, .mv (.tmp 8), none⟩]
def Xn19_2 : C := .seq Xn19_3 .ret
def Xn19_0 : C := .seq Xn19_1 Xn19_2
theorem Xt19 : Text Try.prog 19 Xn19_0 9 2 [.t 4] := ⟨⟨Try.f19, [], Try.func19, by kernel_rfl, by kernel_rfl, by kernel_rfl, by kernel_rfl⟩⟩
def Xn20_1 : C := regL [1, 2] none [⟨some 2, .box true 47 (.tmp 0), none⟩, ⟨some 3, .mv (.const (.bool false)), none⟩]
def Xn20_3 : C := regL [3] none [⟨some 4, .ld 2 1 false (.tmp 1), none⟩, ⟨some 5, .fa 1 (.tmp 2), none⟩, ⟨some 6, .ld 2 1 false (.tmp 5), none⟩, ⟨some 7, .bin 2 .gtr (.tmp 4) (.tmp 6), none⟩, ⟨some 3, .mv (.tmp 7), none⟩]
def Xn20_2 : C := .seq Xn20_3 .ret
def Xn20_0 : C := .seq Xn20_1 Xn20_2
theorem Xt20 : Text Try.prog 20 Xn20_0 8 2 [.t 3] := ⟨⟨Try.f20, [2], Try.func20, by kernel_rfl, by kernel_rfl, by kernel_rfl, by kernel_rfl⟩⟩
def Xn21_1 : C := regL [0] none [⟨some 2, .mv (.const (.bool false)), none⟩]
def Xn21_4 : C := regL [0, 12] none [⟨some 5, .mv (.tmp 0), none⟩, ⟨some 6, .slen (.tmp 5), none⟩, ⟨some 7, .bin 3 .lss (.tmp 6) (.const (.int .i64 1)), none⟩, ⟨some 8, .mv (.tmp 7), none⟩, ⟨some 9, .mv (.tmp 0), some (8, false)⟩, ⟨some 10, .slen (.tmp 9), some (8, false)⟩, ⟨some 11, .bin 3 .gtr (.tmp 10) (.const (.int .i64 20)), some (8, false)⟩, ⟨some 12, .pick 8 (.const (.bool true)) (.tmp 11), none⟩]
def Xn21_7 : C := regL [2] none [⟨some 2, .mv (.const (.bool false)), none⟩]
def Xn21_6 : C := .seq Xn21_7 .ret
def Xn21_5 : C := .cond (.tmp 12) Xn21_6 .skip
def Xn21_3 : C := .seq Xn21_4 Xn21_5
def Xn21_12 : C := regL [14] none [⟨some 13, .mv (.tmp 0), none⟩, ⟨some 14, .rgs (.tmp 13), none⟩]
def Xn21_16 : C := regL [14, 15, 16] none [⟨some 15, .nxs (.tmp 14), none⟩, ⟨some 16, .ext 0 (.tmp 15), none⟩]
def Xn21_18 : C := .cond (.tmp 16) .skip (.exit 0)
def Xn21_23 : C := regL [4, 14] none [⟨some 17, .ext 2 (.tmp 15), none⟩, ⟨some 4, .mv (.tmp 17), none⟩]
def Xn21_25 : C := regL [14, 31] none [⟨some 18, .mv (.tmp 4), none⟩, ⟨some 19, .bin 21 .lss (.tmp 18) (.const (.int .i32 97)), none⟩, ⟨some 20, .mv (.tmp 19), none⟩, ⟨some 21, .mv (.tmp 4), some (20, false)⟩, ⟨some 22, .bin 21 .gtr (.tmp 21) (.const (.int .i32 122)), some (20, false)⟩, ⟨some 23, .pick 20 (.const (.bool true)) (.tmp 22), none⟩, ⟨some 24, .mv (.tmp 23), none⟩, ⟨some 25, .mv (.tmp 4), some (24, true)⟩, ⟨some 26, .bin 21 .lss (.tmp 25) (.const (.int .i32 48)), some (24, true)⟩, ⟨some 27, .mv (.tmp 26), some (24, true)⟩, ⟨some 28, .mv (.tmp 4), some (27, false)⟩, ⟨some 29, .bin 21 .gtr (.tmp 28) (.const (.int .i32 57)), some (27, false)⟩, ⟨some 30, .pick 27 (.const (.bool true)) (.tmp 29), some (24, true)⟩, ⟨some 31, .pick 24 (.tmp 30) (.const (.bool false)), none⟩]
def Xn21_28 : C := regL [2] none [⟨some 2, .mv (.const (.bool false)), none⟩]
def Xn21_27 : C := .seq Xn21_28 .ret
def Xn21_26 : C := .cond (.tmp 31) Xn21_27 .skip
def Xn21_24 : C := .seq Xn21_25 Xn21_26
def Xn21_22 : C := .seq Xn21_23 Xn21_24
def Xn21_21 : C := .block 1 Xn21_22
def Xn21_17 : C := seqL [14, 15] Xn21_18 Xn21_21
def Xn21_15 : C := .seq Xn21_16 Xn21_17
def Xn21_14 : C := loopL [14] Xn21_15
def Xn21_13 : C := .block 0 Xn21_14
def Xn21_11 : C := .seq Xn21_12 Xn21_13
def Xn21_32 : C := regL [2] none [⟨some 2, .mv (.const (.bool true)), none⟩]
def Xn21_31 : C := .seq Xn21_32 .ret
def Xn21_10 : C := seqL [] Xn21_11 Xn21_31
def Xn21_2 : C := seqL [0] Xn21_3 Xn21_10
def Xn21_0 : C := .seq Xn21_1 Xn21_2
theorem Xt21 : Text Try.prog 21 Xn21_0 32 1 [.t 2] := ⟨⟨Try.f21, [], Try.func21, by kernel_rfl, by kernel_rfl, by kernel_rfl, by kernel_rfl⟩⟩
def Xn22_1 : C := regL [0, 1, 2] none [⟨some 6, .mv (.const (.bool false)), none⟩]
def Xn22_3 : C := regL [6] none [⟨some 7, .mv (.tmp 0), none⟩, ⟨some 8, .mv (.tmp 1), none⟩, ⟨some 9, .bin 2 .geq (.tmp 7) (.tmp 8), none⟩, ⟨some 10, .mv (.tmp 9), none⟩, ⟨some 11, .mv (.tmp 0), some (10, true)⟩, ⟨some 12, .mv (.tmp 2), some (10, true)⟩, ⟨some 13, .bin 2 .leq (.tmp 11) (.tmp 12), some (10, true)⟩, ⟨some 14, .pick 10 (.tmp 13) (.const (.bool false)), none⟩, ⟨some 6, .mv (.tmp 14), none⟩]
def Xn22_2 : C := .seq Xn22_3 .ret
def Xn22_0 : C := .seq Xn22_1 Xn22_2
theorem Xt22 : Text Try.prog 22 Xn22_0 15 3 [.t 6] := ⟨⟨Try.f22, [], Try.func22, by kernel_rfl, by kernel_rfl, by kernel_rfl, by kernel_rfl⟩⟩
def Xn23_1 : C := regL [1] none [⟨some 1, .box true 56 (.tmp 0), none⟩, ⟨some 2, .mv (.const (.bool false)), none⟩]
def Xn23_3 : C := regL [1, 3, 4] (some [0, 1, 0, 4, 0, 16, 63, 0, 128, 0, 512, 0, 2048, 8064, 0, 0, 49279, 131071]) [⟨some 7, .fa 0 (.tmp 1), none⟩, ⟨some 8, .ld 2 1 false (.tmp 7), none⟩, ⟨some 9, .fa 1 (.tmp 1), none⟩, ⟨some 10, .ld 2 1 false (.tmp 9), none⟩, ⟨some 11, .fa 2 (.tmp 1), none⟩, ⟨some 12, .ld 2 1 false (.tmp 11), none⟩, ⟨some 13, .bld (.agg #[.int .i64 0, .int .i64 0, .int .i64 0]) [(0, 1, .tmp 8), (1, 1, .tmp 10), (2, 1, .tmp 12)], none⟩, ⟨some 14, .fa 3 (.tmp 1), none⟩, ⟨some 15, .ld 2 1 false (.tmp 14), none⟩, ⟨some 16, .fa 4 (.tmp 1), none⟩, ⟨some 17, .ld 2 1 false (.tmp 16), none⟩, ⟨some 18, .fa 5 (.tmp 1), none⟩, ⟨some 19, .ld 2 1 false (.tmp 18), none⟩, ⟨some 20, .bld (.agg #[.int .i64 0, .int .i64 0, .int .i64 0]) [(0, 1, .tmp 15), (1, 1, .tmp 17), (2, 1, .tmp 19)], none⟩, ⟨some 3, .alc 49 (.agg #[.int .i64 0, .int .i64 0, .int .i64 0]), none⟩, ⟨some 4, .alc 49 (.agg #[.int .i64 0, .int .i64 0, .int .i64 0]), none⟩, ⟨none, .st 49 3 (.tmp 3) (.tmp 13), none⟩, ⟨none, .st 49 3 (.tmp 4) (.tmp 20), none⟩]
def Xn23_5 : C := regL [1, 3, 4, 5] none [⟨some 21, .bld (.agg #[.int .i64 0, .int .i64 0, .int .i64 0]) [(0, 1, .const (.int .i64 (-131072))), (1, 1, .const (.int .i64 (-131072))), (2, 1, .const (.int .i64 0))], none⟩, ⟨some 5, .alc 49 (.agg #[.int .i64 0, .int .i64 0, .int .i64 0]), none⟩, ⟨none, .st 49 3 (.tmp 5) (.tmp 21), none⟩]
def Xn23_8 : C := regL [1, 3, 4, 5, 22] none [⟨some 22, .mv (.const (.int .i64 0)), none⟩]
def Xn23_12 : C := regL [1, 3, 4, 5, 22, 23] none [⟨some 23, .bin 3 .lss (.tmp 22) (.const (.int .i64 3)), none⟩]
def Xn23_14 : C := .cond (.tmp 23) .skip (.exit 0)
def Xn23_20 : C := regL [1, 3, 4, 5, 6, 22] none [⟨some 24, .mv (.tmp 22), none⟩, ⟨some 6, .mv (.tmp 24), none⟩]
def Xn23_22 : C := regL [1, 3, 4, 5, 22, 48] (some [0, 1, 3, 0, 8, 24, 63, 127, 255, 511, 1023, 2047, 4095, 8191, 16383, 32767, 65535, 131071, 32767, 294911, 819199, 1867775, 4194303, 8388607]) [⟨some 25, .mv (.tmp 6), none⟩, ⟨some 26, .iaa 3 1 (.tmp 3) (.tmp 25), none⟩, ⟨some 27, .ld 2 1 false (.tmp 26), none⟩, ⟨some 28, .mv (.tmp 6), none⟩, ⟨some 29, .iaa 3 1 (.tmp 5) (.tmp 28), none⟩, ⟨some 30, .ld 2 1 false (.tmp 29), none⟩, ⟨some 31, .call 22 [.tmp 27, .tmp 30, .const (.int .i64 131072)], none⟩, ⟨some 32, .un .not (.tmp 31), none⟩, ⟨some 33, .mv (.tmp 32), none⟩, ⟨some 34, .mv (.tmp 6), some (33, false)⟩, ⟨some 35, .iaa 3 1 (.tmp 4) (.tmp 34), some (33, false)⟩, ⟨some 36, .ld 2 1 false (.tmp 35), some (33, false)⟩, ⟨some 37, .bin 2 .lss (.tmp 36) (.const (.int .i64 1)), some (33, false)⟩, ⟨some 38, .pick 33 (.const (.bool true)) (.tmp 37), none⟩, ⟨some 39, .mv (.tmp 38), none⟩, ⟨some 40, .mv (.tmp 6), some (39, false)⟩, ⟨some 41, .iaa 3 1 (.tmp 4) (.tmp 40), some (39, false)⟩, ⟨some 42, .ld 2 1 false (.tmp 41), some (39, false)⟩, ⟨some 43, .mv (.tmp 6), some (39, false)⟩, ⟨some 44, .iaa 3 1 (.tmp 3) (.tmp 43), some (39, false)⟩, ⟨some 45, .ld 2 1 false (.tmp 44), some (39, false)⟩, ⟨some 46, .bin 2 .sub (.const (.int .i64 131072)) (.tmp 45), some (39, false)⟩, ⟨some 47, .bin 2 .gtr (.tmp 42) (.tmp 46), some (39, false)⟩, ⟨some 48, .pick 39 (.const (.bool true)) (.tmp 47), none⟩]
def Xn23_25 : C := regL [2] none [⟨some 2, .mv (.const (.bool false)), none⟩]
def Xn23_24 : C := .seq Xn23_25 .ret
def Xn23_23 : C := .cond (.tmp 48) Xn23_24 .skip
def Xn23_21 : C := .seq Xn23_22 Xn23_23
def Xn23_19 : C := .seq Xn23_20 Xn23_21
def Xn23_18 : C := .block 1 Xn23_19
def Xn23_28 : C := regL [1, 3, 4, 5, 22] none [⟨some 49, .bin 3 .add (.tmp 22) (.const (.int .i64 1)), none⟩, ⟨some 22, .mv (.tmp 49), none⟩]
def Xn23_17 : C := seqL [1, 3, 4, 5, 22] Xn23_18 Xn23_28
def Xn23_13 : C := seqL [1, 3, 4, 5, 22] Xn23_14 Xn23_17
def Xn23_11 : C := .seq Xn23_12 Xn23_13
def Xn23_10 : C := loopL [1, 3, 4, 5, 22] Xn23_11
def Xn23_9 : C := .block 0 Xn23_10
def Xn23_7 : C := .seq Xn23_8 Xn23_9
def Xn23_30 : C := regL [2] none [⟨some 50, .fa 6 (.tmp 1), none⟩, ⟨some 51, .ld 2 1 false (.tmp 50), none⟩, ⟨some 52, .call 22 [.tmp 51, .const (.int .i64 0), .const (.int .i64 16777216)], none⟩, ⟨some 2, .mv (.tmp 52), none⟩]
def Xn23_29 : C := .seq Xn23_30 .ret
def Xn23_6 : C := seqL [1] Xn23_7 Xn23_29
def Xn23_4 : C := .seq Xn23_5 Xn23_6
def Xn23_2 : C := .seq Xn23_3 Xn23_4
def Xn23_0 : C := .seq Xn23_1 Xn23_2
theorem Xt23 : Text Try.prog 23 Xn23_0 53 1 [.t 2] := ⟨⟨Try.f23, [1], Try.func23, by kernel_rfl, by kernel_rfl, by kernel_rfl, by kernel_rfl⟩⟩
def Xn24_1 : C := regL [1] none [⟨some 1, .box true 76 (.tmp 0), none⟩, ⟨some 2, .mv (.const (.bool false)), none⟩]
def Xn24_3 : C := regL [2] none [⟨some 3, .fa 0 (.tmp 1), none⟩, ⟨some 4, .ld 2 1 false (.tmp 3), none⟩, ⟨some 5, .call 22 [.tmp 4, .const (.int .i64 (-131072)), .const (.int .i64 131072)], none⟩, ⟨some 6, .mv (.tmp 5), none⟩, ⟨some 7, .fa 1 (.tmp 1), some (6, true)⟩, ⟨some 8, .ld 2 1 false (.tmp 7), some (6, true)⟩, ⟨some 9, .call 22 [.tmp 8, .const (.int .i64 (-131072)), .const (.int .i64 131072)], some (6, true)⟩, ⟨some 10, .pick 6 (.tmp 9) (.const (.bool false)), none⟩, ⟨some 11, .mv (.tmp 10), none⟩, ⟨some 12, .fa 2 (.tmp 1), some (11, true)⟩, ⟨some 13, .ld 2 1 false (.tmp 12), some (11, true)⟩, ⟨some 14, .call 22 [.tmp 13, .const (.int .i64 0), .const (.int .i64 131072)], some (11, true)⟩, ⟨some 15, .pick 11 (.tmp 14) (.const (.bool false)), none⟩, ⟨some 16, .mv (.tmp 15), none⟩, ⟨some 17, .fa 3 (.tmp 1), some (16, true)⟩, ⟨some 18, .ld 2 1 false (.tmp 17), some (16, true)⟩, ⟨some 19, .call 22 [.tmp 18, .const (.int .i64 0), .const (.int .i64 4194304)], some (16, true)⟩, ⟨some 20, .pick 16 (.tmp 19) (.const (.bool false)), none⟩, ⟨some 2, .mv (.tmp 20), none⟩]
def Xn24_2 : C := .seq Xn24_3 .ret
def Xn24_0 : C := .seq Xn24_1 Xn24_2
theorem Xt24 : Text Try.prog 24 Xn24_0 21 1 [.t 2] := ⟨⟨Try.f24, [1], Try.func24, by kernel_rfl, by kernel_rfl, by kernel_rfl, by kernel_rfl⟩⟩
def Xn25_1 : C := regL [0, 3] none [⟨some 3, .box true 56 (.tmp 1), none⟩]
def Xn25_3 : C := regL [0, 3, 4] none [⟨some 6, .ld 56 7 true (.tmp 3), none⟩, ⟨some 7, .call 42 [.tmp 6], none⟩, ⟨some 4, .alc 98 (.agg #[.int .i64 0, .int .i64 0, .int .i64 0, .int .i64 0, .int .i64 0, .int .i64 0]), none⟩, ⟨none, .st 98 6 (.tmp 4) (.tmp 7), none⟩]
def Xn25_5 : C := regL [0, 3, 4] (some [0, 1, 3, 7, 0, 16, 63, 127, 255, 511]) [⟨some 8, .mv (.tmp 0), none⟩, ⟨some 9, .nilc (.tmp 8), none⟩, ⟨some 10, .fa 0 (.tmp 9), none⟩, ⟨some 11, .ld 2 1 false (.tmp 10), none⟩, ⟨some 12, .fa 6 (.tmp 3), none⟩, ⟨some 13, .ld 2 1 false (.tmp 12), none⟩, ⟨some 14, .bin 2 .add (.tmp 11) (.tmp 13), none⟩, ⟨some 15, .nilc (.tmp 8), none⟩, ⟨some 16, .fa 0 (.tmp 15), none⟩, ⟨none, .st 2 1 (.tmp 16) (.tmp 14), none⟩]
def Xn25_7 : C := regL [0, 3, 4, 17] none [⟨some 17, .mv (.const (.int .i64 0)), none⟩]
def Xn25_11 : C := regL [0, 3, 4, 17, 18] none [⟨some 18, .bin 3 .lss (.tmp 17) (.const (.int .i64 3)), none⟩]
def Xn25_13 : C := .cond (.tmp 18) .skip (.exit 0)
def Xn25_19 : C := regL [0, 3, 4, 5, 17] none [⟨some 19, .mv (.tmp 17), none⟩, ⟨some 5, .mv (.tmp 19), none⟩]
def Xn25_20 : C := regL [0, 3, 4, 17] (some [0, 0, 1, 5, 15, 31, 0, 64, 0, 0, 768, 1792, 0, 0, 12288, 28672, 65280, 131008, 262143, 1, 524289, 2097151, 4194303]) [⟨some 20, .mv (.tmp 0), none⟩, ⟨some 21, .mv (.tmp 5), none⟩, ⟨some 22, .nilc (.tmp 20), none⟩, ⟨some 23, .fa 1 (.tmp 22), none⟩, ⟨some 24, .iaa 3 1 (.tmp 23) (.tmp 21), none⟩, ⟨some 25, .ld 2 1 false (.tmp 24), none⟩, ⟨some 26, .fa 6 (.tmp 3), none⟩, ⟨some 27, .ld 2 1 false (.tmp 26), none⟩, ⟨some 28, .mv (.tmp 5), none⟩, ⟨some 29, .fa 0 (.tmp 4), none⟩, ⟨some 30, .iaa 3 1 (.tmp 29) (.tmp 28), none⟩, ⟨some 31, .ld 2 1 false (.tmp 30), none⟩, ⟨some 32, .mv (.tmp 5), none⟩, ⟨some 33, .fa 3 (.tmp 4), none⟩, ⟨some 34, .iaa 3 1 (.tmp 33) (.tmp 32), none⟩, ⟨some 35, .ld 2 1 false (.tmp 34), none⟩, ⟨some 36, .bin 2 .add (.tmp 31) (.tmp 35), none⟩, ⟨some 37, .bin 2 .mul (.tmp 27) (.tmp 36), none⟩, ⟨some 38, .bin 2 .add (.tmp 25) (.tmp 37), none⟩, ⟨some 39, .nilc (.tmp 20), none⟩, ⟨some 40, .fa 1 (.tmp 39), none⟩, ⟨some 41, .iaa 3 1 (.tmp 40) (.tmp 21), none⟩, ⟨none, .st 2 1 (.tmp 41) (.tmp 38), none⟩]
def Xn25_18 : C := .seq Xn25_19 Xn25_20
def Xn25_17 : C := .block 1 Xn25_18
def Xn25_21 : C := regL [0, 3, 4, 17] none [⟨some 42, .bin 3 .add (.tmp 17) (.const (.int .i64 1)), none⟩, ⟨some 17, .mv (.tmp 42), none⟩]
def Xn25_16 : C := seqL [0, 3, 4, 17] Xn25_17 Xn25_21
def Xn25_12 : C := seqL [0, 3, 4, 17] Xn25_13 Xn25_16
def Xn25_10 : C := .seq Xn25_11 Xn25_12
def Xn25_9 : C := loopL [0, 3, 4, 17] Xn25_10
def Xn25_8 : C := .block 0 Xn25_9
def Xn25_6 : C := .seq Xn25_7 Xn25_8
def Xn25_4 : C := .seq Xn25_5 Xn25_6
def Xn25_2 : C := .seq Xn25_3 Xn25_4
def Xn25_0 : C := .seq Xn25_1 Xn25_2
theorem Xt25 : Text Try.prog 25 Xn25_0 43 2 [] := ⟨⟨Try.f25, [3], Try.func25, by kernel_rfl, by kernel_rfl, by kernel_rfl, by kernel_rfl⟩⟩
def Xn26_1 : C := regL [0, 1] none [⟨some 4, .mv (.const (.bool false)), none⟩]
def Xn26_3 : C := regL [4] none [⟨some 5, .mv (.tmp 0), none⟩, ⟨some 6, .mv (.tmp 1), none⟩, ⟨some 7, .call 43 [.tmp 5, .tmp 6], none⟩, ⟨some 8, .bin 3 .geq (.tmp 7) (.const (.int .i64 0)), none⟩, ⟨some 4, .mv (.tmp 8), none⟩]
def Xn26_2 : C := .seq Xn26_3 .ret
def Xn26_0 : C := .seq Xn26_1 Xn26_2
theorem Xt26 : Text Try.prog 26 Xn26_0 9 2 [.t 4] := ⟨⟨Try.f26, [], Try.func26, by kernel_rfl, by kernel_rfl, by kernel_rfl, by kernel_rfl⟩⟩
def Xn27_1 : C := regL [1] none [⟨some 1, .box true 44 (.tmp 0), none⟩, ⟨some 2, .mv (.const (.bool false)), none⟩]
def Xn27_3 : C := regL [2] none [⟨some 3, .fa 10 (.tmp 1), none⟩, ⟨some 4, .ld 42 1 false (.tmp 3), none⟩, ⟨some 5, .len (.tmp 4), none⟩, ⟨some 6, .bin 3 .gtr (.tmp 5) (.const (.int .i64 24)), none⟩, ⟨some 2, .mv (.tmp 6), none⟩]
def Xn27_2 : C := .seq Xn27_3 .ret
def Xn27_0 : C := .seq Xn27_1 Xn27_2
theorem Xt27 : Text Try.prog 27 Xn27_0 7 1 [.t 2] := ⟨⟨Try.f27, [1], Try.func27, by kernel_rfl, by kernel_rfl, by kernel_rfl, by kernel_rfl⟩⟩
def Xn28_1 : C := regL [0] none [⟨some 2, .mv (.const (.bool false)), none⟩]
def Xn28_4 : C := regL [0, 10] none [⟨some 3, .mv (.tmp 0), none⟩, ⟨some 4, .slen (.tmp 3), none⟩, ⟨some 5, .bin 3 .eql (.tmp 4) (.const (.int .i64 0)), none⟩, ⟨some 6, .mv (.tmp 5), none⟩, ⟨some 7, .mv (.tmp 0), some (6, false)⟩, ⟨some 8, .slen (.tmp 7), some (6, false)⟩, ⟨some 9, .bin 3 .gtr (.tmp 8) (.const (.int .i64 20)), some (6, false)⟩, ⟨some 10, .pick 6 (.const (.bool true)) (.tmp 9), none⟩]
def Xn28_7 : C := regL [2] none [⟨some 2, .mv (.const (.bool false)), none⟩]
def Xn28_6 : C := .seq Xn28_7 .ret
def Xn28_5 : C := .cond (.tmp 10) Xn28_6 .skip
def Xn28_3 : C := .seq Xn28_4 Xn28_5
def Xn28_11 : C := regL [2] none [⟨some 11, .mv (.tmp 0), none⟩, ⟨some 12, .call 44 [.tmp 11, .func 45], none⟩, ⟨some 13, .un .not (.tmp 12), none⟩, ⟨some 2, .mv (.tmp 13), none⟩]
def Xn28_10 : C := .seq Xn28_11 .ret
def Xn28_2 : C := seqL [0] Xn28_3 Xn28_10
def Xn28_0 : C := .seq Xn28_1 Xn28_2
theorem Xt28 : Text Try.prog 28 Xn28_0 14 1 [.t 2] := ⟨⟨Try.f28, [], Try.func28, by kernel_rfl, by kernel_rfl, by kernel_rfl, by kernel_rfl⟩⟩
def Xn29_1 : C := regL [1] none [⟨some 1, .box true 44 (.tmp 0), none⟩, ⟨some 2, .mv (.const (.bool false)), none⟩]
def Xn29_3 : C := regL [2] none [⟨some 3, .ld 44 11 true (.tmp 1), none⟩, ⟨some 4, .call 30 [.tmp 3], none⟩, ⟨some 5, .un .not (.tmp 4), none⟩, ⟨some 2, .mv (.tmp 5), none⟩]
def Xn29_2 : C := .seq Xn29_3 .ret
def Xn29_0 : C := .seq Xn29_1 Xn29_2
theorem Xt29 : Text Try.prog 29 Xn29_0 6 1 [.t 2] := ⟨⟨Try.f29, [1], Try.func29, by kernel_rfl, by kernel_rfl, by kernel_rfl, by kernel_rfl⟩⟩
def Xn30_1 : C := regL [1] none [⟨some 1, .box true 44 (.tmp 0), none⟩, ⟨some 2, .mv (.const (.bool false)), none⟩]
def Xn30_3 : C := regL [1, 3] none [⟨some 7, .fa 3 (.tmp 1), none⟩, ⟨some 8, .ld 2 1 false (.tmp 7), none⟩, ⟨some 9, .fa 4 (.tmp 1), none⟩, ⟨some 10, .ld 2 1 false (.tmp 9), none⟩, ⟨some 11, .fa 5 (.tmp 1), none⟩, ⟨some 12, .ld 2 1 false (.tmp 11), none⟩, ⟨some 13, .fa 6 (.tmp 1), none⟩, ⟨some 14, .ld 2 1 false (.tmp 13), none⟩, ⟨some 15, .bls 2 1 4 (.int .i64 0) [(0, 1, .tmp 8), (1, 1, .tmp 10), (2, 1, .tmp 12), (3, 1, .tmp 14)], none⟩, ⟨some 16, .call 46 [.tmp 15, .func 47], none⟩, ⟨some 17, .un .not (.tmp 16), none⟩, ⟨some 3, .mv (.tmp 17), none⟩]
def Xn30_6 : C := regL [1, 44] none [⟨some 18, .mv (.tmp 3), none⟩, ⟨some 19, .un .not (.tmp 18), none⟩, ⟨some 20, .mv (.tmp 19), none⟩, ⟨some 21, .fa 0 (.tmp 1), some (20, false)⟩, ⟨some 22, .ld 3 1 false (.tmp 21), some (20, false)⟩, ⟨some 23, .bin 3 .lss (.tmp 22) (.const (.int .i64 0)), some (20, false)⟩, ⟨some 24, .pick 20 (.const (.bool true)) (.tmp 23), none⟩, ⟨some 25, .mv (.tmp 24), none⟩, ⟨some 26, .fa 0 (.tmp 1), some (25, false)⟩, ⟨some 27, .ld 3 1 false (.tmp 26), some (25, false)⟩, ⟨some 28, .bin 3 .geq (.tmp 27) (.const (.int .i64 4)), some (25, false)⟩, ⟨some 29, .pick 25 (.const (.bool true)) (.tmp 28), none⟩, ⟨some 30, .mv (.tmp 29), none⟩, ⟨some 31, .fa 1 (.tmp 1), some (30, false)⟩, ⟨some 32, .ld 2 1 false (.tmp 31), some (30, false)⟩, ⟨some 33, .call 48 [.tmp 32, .const (.int .i64 100), .const (.int .i64 131072)], some (30, false)⟩, ⟨some 34, .un .not (.tmp 33), some (30, false)⟩, ⟨some 35, .pick 30 (.const (.bool true)) (.tmp 34), none⟩, ⟨some 36, .mv (.tmp 35), none⟩, ⟨some 37, .fa 2 (.tmp 1), some (36, false)⟩, ⟨some 38, .ld 2 1 false (.tmp 37), some (36, false)⟩, ⟨some 39, .fa 1 (.tmp 1), some (36, false)⟩, ⟨some 40, .ld 2 1 false (.tmp 39), some (36, false)⟩, ⟨some 41, .un .neg (.tmp 40), some (36, false)⟩, ⟨some 42, .call 48 [.tmp 38, .tmp 41, .const (.int .i64 131072)], some (36, false)⟩, ⟨some 43, .un .not (.tmp 42), some (36, false)⟩, ⟨some 44, .pick 36 (.const (.bool true)) (.tmp 43), none⟩]
def Xn30_9 : C := regL [2] none [⟨some 2, .mv (.const (.bool false)), none⟩]
def Xn30_8 : C := .seq Xn30_9 .ret
def Xn30_7 : C := .cond (.tmp 44) Xn30_8 .skip
def Xn30_5 : C := .seq Xn30_6 Xn30_7
def Xn30_14 : C := regL [1, 70] none [⟨some 45, .fa 7 (.tmp 1), none⟩, ⟨some 46, .ld 2 1 false (.tmp 45), none⟩, ⟨some 47, .call 48 [.tmp 46, .const (.int .i64 1), .const (.int .i64 1048576)], none⟩, ⟨some 48, .un .not (.tmp 47), none⟩, ⟨some 49, .mv (.tmp 48), none⟩, ⟨some 50, .fa 8 (.tmp 1), some (49, false)⟩, ⟨some 51, .ld 2 1 false (.tmp 50), some (49, false)⟩, ⟨some 52, .call 48 [.tmp 51, .const (.int .i64 0), .const (.int .i64 900)], some (49, false)⟩, ⟨some 53, .un .not (.tmp 52), some (49, false)⟩, ⟨some 54, .pick 49 (.const (.bool true)) (.tmp 53), none⟩, ⟨some 55, .mv (.tmp 54), none⟩, ⟨some 56, .fa 9 (.tmp 1), some (55, false)⟩, ⟨some 57, .ld 3 1 false (.tmp 56), some (55, false)⟩, ⟨some 58, .bin 3 .lss (.tmp 57) (.const (.int .i64 0)), some (55, false)⟩, ⟨some 59, .pick 55 (.const (.bool true)) (.tmp 58), none⟩, ⟨some 60, .mv (.tmp 59), none⟩, ⟨some 61, .fa 9 (.tmp 1), some (60, false)⟩, ⟨some 62, .ld 3 1 false (.tmp 61), some (60, false)⟩, ⟨some 63, .bin 3 .gtr (.tmp 62) (.const (.int .i64 40)), some (60, false)⟩, ⟨some 64, .pick 60 (.const (.bool true)) (.tmp 63), none⟩, ⟨some 65, .mv (.tmp 64), none⟩, ⟨some 66, .fa 10 (.tmp 1), some (65, false)⟩, ⟨some 67, .ld 42 1 false (.tmp 66), some (65, false)⟩, ⟨some 68, .len (.tmp 67), some (65, false)⟩, ⟨some 69, .bin 3 .eql (.tmp 68) (.const (.int .i64 0)), some (65, false)⟩, ⟨some 70, .pick 65 (.const (.bool true)) (.tmp 69), none⟩]
def Xn30_17 : C := regL [2] none [⟨some 2, .mv (.const (.bool false)), none⟩]
def Xn30_16 : C := .seq Xn30_17 .ret
def Xn30_15 : C := .cond (.tmp 70) Xn30_16 .skip
def Xn30_13 : C := .seq Xn30_14 Xn30_15
def Xn30_21 : C := regL [1, 4] none [⟨some 4, .mv (.const (.int .i64 0)), none⟩]
def Xn30_24 : C := regL [1, 4, 72, 73, 74] none [⟨some 71, .fa 10 (.tmp 1), none⟩, ⟨some 72, .ld 42 1 false (.tmp 71), none⟩, ⟨some 73, .len (.tmp 72), none⟩, ⟨some 74, .mv (.const (.int .i64 0)), none⟩]
def Xn30_28 : C := regL [1, 4, 72, 73, 74, 75] none [⟨some 75, .bin 3 .lss (.tmp 74) (.tmp 73), none⟩]
def Xn30_30 : C := .cond (.tmp 75) .skip (.exit 0)
def Xn30_36 : C := regL [1, 4, 6, 72, 73, 74] none [⟨some 76, .ia 3 (.tmp 72) (.tmp 74), none⟩, ⟨some 77, .ld 47 3 true (.tmp 76), none⟩, ⟨some 6, .alc 47 (.agg #[.int .i64 0, .int .i64 0, .int .i64 0]), none⟩, ⟨none, .st 47 3 (.tmp 6) (.tmp 77), none⟩]
def Xn30_39 : C := regL [1, 6, 72, 73, 74, 103] none [⟨some 78, .fa 0 (.tmp 6), none⟩, ⟨some 79, .ld 2 1 false (.tmp 78), none⟩, ⟨some 80, .mv (.tmp 4), none⟩, ⟨some 81, .fa 1 (.tmp 1), none⟩, ⟨some 82, .ld 2 1 false (.tmp 81), none⟩, ⟨some 83, .fa 4 (.tmp 1), none⟩, ⟨some 84, .ld 2 1 false (.tmp 83), none⟩, ⟨some 85, .bin 2 .add (.tmp 82) (.tmp 84), none⟩, ⟨some 86, .call 48 [.tmp 79, .tmp 80, .tmp 85], none⟩, ⟨some 87, .un .not (.tmp 86), none⟩, ⟨some 88, .mv (.tmp 87), none⟩, ⟨some 89, .fa 1 (.tmp 6), some (88, false)⟩, ⟨some 90, .ld 2 1 false (.tmp 89), some (88, false)⟩, ⟨some 91, .call 48 [.tmp 90, .const (.int .i64 1), .const (.int .i64 1048576)], some (88, false)⟩, ⟨some 92, .un .not (.tmp 91), some (88, false)⟩, ⟨some 93, .pick 88 (.const (.bool true)) (.tmp 92), none⟩, ⟨some 94, .mv (.tmp 93), none⟩, ⟨some 95, .fa 2 (.tmp 6), some (94, false)⟩, ⟨some 96, .ld 3 1 false (.tmp 95), some (94, false)⟩, ⟨some 97, .bin 3 .lss (.tmp 96) (.const (.int .i64 1)), some (94, false)⟩, ⟨some 98, .pick 94 (.const (.bool true)) (.tmp 97), none⟩, ⟨some 99, .mv (.tmp 98), none⟩, ⟨some 100, .fa 2 (.tmp 6), some (99, false)⟩, ⟨some 101, .ld 3 1 false (.tmp 100), some (99, false)⟩, ⟨some 102, .bin 3 .gtr (.tmp 101) (.const (.int .i64 16)), some (99, false)⟩, ⟨some 103, .pick 99 (.const (.bool true)) (.tmp 102), none⟩]
def Xn30_42 : C := regL [2] none [⟨some 2, .mv (.const (.bool false)), none⟩]
def Xn30_41 : C := .seq Xn30_42 .ret
def Xn30_40 : C := .cond (.tmp 103) Xn30_41 .skip
def Xn30_38 : C := .seq Xn30_39 Xn30_40
def Xn30_45 : C := regL [1, 4, 72, 73, 74] none [⟨some 104, .fa 0 (.tmp 6), none⟩, ⟨some 105, .ld 2 1 false (.tmp 104), none⟩, ⟨some 4, .mv (.tmp 105), none⟩]
def Xn30_37 : C := seqL [1, 6, 72, 73, 74] Xn30_38 Xn30_45
def Xn30_35 : C := .seq Xn30_36 Xn30_37
def Xn30_34 : C := .block 1 Xn30_35
def Xn30_46 : C := regL [1, 4, 72, 73, 74] none [⟨some 106, .bin 3 .add (.tmp 74) (.const (.int .i64 1)), none⟩, ⟨some 74, .mv (.tmp 106), none⟩]
def Xn30_33 : C := seqL [1, 4, 72, 73, 74] Xn30_34 Xn30_46
def Xn30_29 : C := seqL [1, 4, 72, 73, 74] Xn30_30 Xn30_33
def Xn30_27 : C := .seq Xn30_28 Xn30_29
def Xn30_26 : C := loopL [1, 4, 72, 73, 74] Xn30_27
def Xn30_25 : C := .block 0 Xn30_26
def Xn30_23 : C := .seq Xn30_24 Xn30_25
def Xn30_48 : C := regL [2] none [⟨some 2, .mv (.const (.bool true)), none⟩]
def Xn30_47 : C := .seq Xn30_48 .ret
def Xn30_22 : C := seqL [] Xn30_23 Xn30_47
def Xn30_20 : C := .seq Xn30_21 Xn30_22
def Xn30_12 : C := seqL [1] Xn30_13 Xn30_20
def Xn30_4 : C := seqL [1] Xn30_5 Xn30_12
def Xn30_2 : C := .seq Xn30_3 Xn30_4
def Xn30_0 : C := .seq Xn30_1 Xn30_2
theorem Xt30 : Text Try.prog 30 Xn30_0 107 1 [.t 2] := ⟨⟨Try.f30, [1], Try.func30, by kernel_rfl, by kernel_rfl, by kernel_rfl, by kernel_rfl⟩⟩
def Xn31_1 : C := regL [1] none [⟨some 1, .box true 59 (.tmp 0), none⟩, ⟨some 2, .mv (.const (.int .i64 0)), none⟩]
def Xn31_4 : C := regL [6] none [⟨some 3, .ld 59 2 true (.tmp 1), none⟩, ⟨some 4, .bls 59 2 1 (.agg #[.int .i64 0, .int .i64 0]) [(0, 2, .tmp 3)], none⟩, ⟨some 5, .call 49 [.tmp 4], none⟩, ⟨some 6, .un .not (.tmp 5), none⟩]
def Xn31_7 : C := regL [2] none [⟨some 2, .mv (.const (.int .i64 2)), none⟩]
def Xn31_6 : C := .seq Xn31_7 .ret
def Xn31_5 : C := .cond (.tmp 6) Xn31_6 .skip
def Xn31_3 : C := .seq Xn31_4 Xn31_5
def Xn31_11 : C := regL [2] none [⟨some 2, .mv (.const (.int .i64 0)), none⟩]
def Xn31_10 : C := .seq Xn31_11 .ret
def Xn31_2 : C := seqL [] Xn31_3 Xn31_10
def Xn31_0 : C := .seq Xn31_1 Xn31_2
theorem Xt31 : Text Try.prog 31 Xn31_0 7 1 [.t 2] := ⟨⟨Try.f31, [1], Try.func31, by kernel_rfl, by kernel_rfl, by kernel_rfl, by kernel_rfl⟩⟩
def Xn32_1 : C := regL [2, 3, 4, 6] none [⟨some 3, .box true 59 (.tmp 0), none⟩, ⟨some 4, .box true 59 (.tmp 1), none⟩, ⟨some 6, .alc 59 (.agg #[.int .i64 0, .int .i64 0]), none⟩, ⟨some 7, .mv (.const (.int .i64 0)), none⟩]
def Xn32_4 : C := regL [2, 3, 4, 6, 12] none [⟨some 8, .ld 59 2 true (.tmp 4), none⟩, ⟨some 9, .ld 59 2 true (.tmp 3), none⟩, ⟨some 10, .bls 59 2 2 (.agg #[.int .i64 0, .int .i64 0]) [(0, 2, .tmp 8), (2, 2, .tmp 9)], none⟩, ⟨some 11, .call 49 [.tmp 10], none⟩, ⟨some 12, .un .not (.tmp 11), none⟩]
def Xn32_7 : C := regL [6, 7] none [⟨some 13, .bld (.agg #[.int .i64 0, .int .i64 0]) [], none⟩, ⟨none, .st 59 2 (.tmp 6) (.tmp 13), none⟩, ⟨some 7, .mv (.const (.int .i64 2)), none⟩]
def Xn32_6 : C := .seq Xn32_7 .ret
def Xn32_5 : C := .cond (.tmp 12) Xn32_6 .skip
def Xn32_3 : C := .seq Xn32_4 Xn32_5
def Xn32_12 : C := regL [2, 3, 4, 6, 16] none [⟨some 14, .mv (.tmp 2), none⟩, ⟨some 15, .call 50 [.tmp 14, .const (.int .i64 1), .const (.int .i64 16777216)], none⟩, ⟨some 16, .un .not (.tmp 15), none⟩]
def Xn32_15 : C := regL [6, 7] none [⟨some 17, .bld (.agg #[.int .i64 0, .int .i64 0]) [], none⟩, ⟨none, .st 59 2 (.tmp 6) (.tmp 17), none⟩, ⟨some 7, .mv (.const (.int .i64 3)), none⟩]
def Xn32_14 : C := .seq Xn32_15 .ret
def Xn32_13 : C := .cond (.tmp 16) Xn32_14 .skip
def Xn32_11 : C := .seq Xn32_12 Xn32_13
def Xn32_19 : C := regL [6, 7] none [⟨some 18, .ld 59 2 true (.tmp 3), none⟩, ⟨some 19, .ld 59 2 true (.tmp 4), none⟩, ⟨some 20, .mv (.tmp 2), none⟩, ⟨some 21, .call 51 [.tmp 18, .tmp 19, .tmp 20, .const (.int .i64 0)], none⟩, ⟨some 22, .ext 0 (.tmp 21), none⟩, ⟨some 23, .ext 1 (.tmp 21), none⟩, ⟨none, .st 59 2 (.tmp 6) (.tmp 22), none⟩, ⟨some 7, .mv (.tmp 23), none⟩]
def Xn32_18 : C := .seq Xn32_19 .ret
def Xn32_10 : C := seqL [2, 3, 4, 6] Xn32_11 Xn32_18
def Xn32_2 : C := seqL [2, 3, 4, 6] Xn32_3 Xn32_10
def Xn32_0 : C := .seq Xn32_1 Xn32_2
theorem Xt32 : Text Try.prog 32 Xn32_0 24 3 [.c 6 2 true, .t 7] := ⟨⟨Try.f32, [3, 4], Try.func32, by kernel_rfl, by kernel_rfl, by kernel_rfl, by kernel_rfl⟩⟩
def Xn33_1 : C := regL [1] none [⟨some 1, .box true 83 (.tmp 0), none⟩, ⟨some 2, .mv (.const (.int .i64 0)), none⟩]
def Xn33_3 : C := regL [2] none [⟨some 3, .fa 0 (.tmp 1), none⟩, ⟨some 4, .fa 1 (.tmp 3), none⟩, ⟨some 5, .ld 2 1 false (.tmp 4), none⟩, ⟨some 6, .fa 0 (.tmp 1), none⟩, ⟨some 7, .fa 8 (.tmp 6), none⟩, ⟨some 8, .ld 2 1 false (.tmp 7), none⟩, ⟨some 9, .bin 2 .sub (.const (.int .i64 1000)) (.tmp 8), none⟩, ⟨some 10, .bin 2 .mul (.tmp 5) (.tmp 9), none⟩, ⟨some 11, .bin 2 .quo (.tmp 10) (.const (.int .i64 1000)), none⟩, ⟨some 2, .mv (.tmp 11), none⟩]
def Xn33_2 : C := .seq Xn33_3 .ret
def Xn33_0 : C := .seq Xn33_1 Xn33_2
theorem Xt33 : Text Try.prog 33 Xn33_0 12 1 [.t 2] := ⟨⟨Try.f33, [1], Try.func33, by kernel_rfl, by kernel_rfl, by kernel_rfl, by kernel_rfl⟩⟩
def Xn34_1 : C := regL [1, 2, 3, 6] none [⟨some 3, .box true 88 (.tmp 0), none⟩, ⟨some 6, .alc 59 (.agg #[.int .i64 0, .int .i64 0]), none⟩, ⟨some 7, .mv (.const (.int .i64 0)), none⟩]
def Xn34_3 : C := regL [6, 7] none [⟨some 8, .fa 13 (.tmp 3), none⟩, ⟨some 9, .ld 59 2 true (.tmp 8), none⟩, ⟨some 10, .fa 11 (.tmp 3), none⟩, ⟨some 11, .ld 59 2 true (.tmp 10), none⟩, ⟨some 12, .mv (.tmp 1), none⟩, ⟨some 13, .mv (.tmp 2), none⟩, ⟨some 14, .call 52 [.tmp 9, .tmp 11, .tmp 12, .tmp 13], none⟩, ⟨some 15, .ext 0 (.tmp 14), none⟩, ⟨some 16, .ext 1 (.tmp 14), none⟩, ⟨none, .st 59 2 (.tmp 6) (.tmp 15), none⟩, ⟨some 7, .mv (.tmp 16), none⟩]
def Xn34_2 : C := .seq Xn34_3 .ret
def Xn34_0 : C := .seq Xn34_1 Xn34_2
theorem Xt34 : Text Try.prog 34 Xn34_0 17 3 [.c 6 2 true, .t 7] := ⟨⟨Try.f34, [3], Try.func34, by kernel_rfl, by kernel_rfl, by kernel_rfl, by kernel_rfl⟩⟩
def Xn35_1 : C := regL [1] none [⟨some 1, .box true 83 (.tmp 0), none⟩, ⟨some 2, .mv (.const (.int .i64 0)), none⟩]
def Xn35_3 : C := regL [2] (some [0, 1, 0, 4, 12, 31, 0, 64, 192, 511, 1023]) [⟨some 3, .ld 83 11 true (.tmp 1), none⟩, ⟨some 4, .call 33 [.tmp 3], none⟩, ⟨some 5, .fa 0 (.tmp 1), none⟩, ⟨some 6, .fa 1 (.tmp 5), none⟩, ⟨some 7, .ld 2 1 false (.tmp 6), none⟩, ⟨some 8, .bin 2 .sub (.tmp 4) (.tmp 7), none⟩, ⟨some 9, .fa 0 (.tmp 1), none⟩, ⟨some 10, .fa 2 (.tmp 9), none⟩, ⟨some 11, .ld 2 1 false (.tmp 10), none⟩, ⟨some 12, .bin 2 .sub (.tmp 8) (.tmp 11), none⟩, ⟨some 2, .mv (.tmp 12), none⟩]
def Xn35_2 : C := .seq Xn35_3 .ret
def Xn35_0 : C := .seq Xn35_1 Xn35_2
theorem Xt35 : Text Try.prog 35 Xn35_0 13 1 [.t 2] := ⟨⟨Try.f35, [1], Try.func35, by kernel_rfl, by kernel_rfl, by kernel_rfl, by kernel_rfl⟩⟩
def Xn36_1 : C := regL [2, 3, 4] none [⟨some 2, .box true 26 (.tmp 0), none⟩, ⟨some 3, .box true 62 (.tmp 1), none⟩, ⟨some 4, .alc 62 (.agg #[.int .i64 0, .int .i64 0, .slice none 0 0]), none⟩, ⟨some 5, .mv (.const (.int .i64 0)), none⟩]
def Xn36_4 : C := regL [3, 4, 7] none [⟨some 9, .ld 26 4 true (.tmp 2), none⟩, ⟨some 10, .ld 62 3 true (.tmp 3), none⟩, ⟨some 11, .call 53 [.tmp 9, .tmp 10], none⟩, ⟨some 8, .mv (.tmp 11), none⟩, ⟨some 12, .ext 0 (.tmp 8), none⟩, ⟨some 13, .ext 1 (.tmp 8), none⟩, ⟨some 6, .mv (.tmp 12), none⟩, ⟨some 7, .mv (.tmp 13), none⟩]
def Xn36_6 : C := regL [3, 4, 15] none [⟨some 14, .mv (.tmp 7), none⟩, ⟨some 15, .bin 28 .neq (.tmp 14) (.const (.int .i64 0)), none⟩]
def Xn36_9 : C := regL [4, 5] none [⟨some 16, .bld (.agg #[.int .i64 0, .int .i64 0, .slice none 0 0]) [], none⟩, ⟨none, .st 62 3 (.tmp 4) (.tmp 16), none⟩, ⟨some 5, .mv (.const (.int .i64 9)), none⟩]
def Xn36_8 : C := .seq Xn36_9 .ret
def Xn36_7 : C := .cond (.tmp 15) Xn36_8 .skip
def Xn36_5 : C := .seq Xn36_6 Xn36_7
def Xn36_3 : C := .seq Xn36_4 Xn36_5
def Xn36_13 : C := regL [4, 5] none [⟨some 17, .ld 62 3 true (.tmp 3), none⟩, ⟨none, .st 62 3 (.tmp 4) (.tmp 17), none⟩, ⟨some 5, .mv (.const (.int .i64 0)), none⟩]
def Xn36_12 : C := .seq Xn36_13 .ret
def Xn36_2 : C := seqL [3, 4] Xn36_3 Xn36_12
def Xn36_0 : C := .seq Xn36_1 Xn36_2
theorem Xt36 : Text Try.prog 36 Xn36_0 18 2 [.c 4 3 true, .t 5] := ⟨⟨Try.f36, [2, 3], Try.func36, by kernel_rfl, by kernel_rfl, by kernel_rfl, by kernel_rfl⟩⟩
def Xn37_1 : C := regL [0] none [⟨some 2, .mv (.const (.bool false)), none⟩]
def Xn37_3 : C := regL [2] none [⟨some 3, .mv (.tmp 0), none⟩, ⟨some 4, .call 18 [.tmp 3, .const (.int .i64 (-16777216)), .const (.int .i64 16777216)], none⟩, ⟨some 2, .mv (.tmp 4), none⟩]
def Xn37_2 : C := .seq Xn37_3 .ret
def Xn37_0 : C := .seq Xn37_1 Xn37_2
theorem Xt37 : Text Try.prog 37 Xn37_0 5 1 [.t 2] := ⟨⟨Try.f37, [], Try.func37, by kernel_rfl, by kernel_rfl, by kernel_rfl, by kernel_rfl⟩⟩
def Xn38_1 : C := regL [1] none [⟨some 1, .box true 92 (.tmp 0), none⟩, ⟨some 2, .mv (.const (.int .i64 0)), none⟩]
def Xn38_3 : C := regL [2] none [⟨some 3, .fa 0 (.tmp 1), none⟩, ⟨some 4, .ld 2 1 false (.tmp 3), none⟩, ⟨some 5, .un .neg (.tmp 4), none⟩, ⟨some 6, .fa 1 (.tmp 1), none⟩, ⟨some 7, .ld 2 1 false (.tmp 6), none⟩, ⟨some 8, .fa 2 (.tmp 1), none⟩, ⟨some 9, .ld 2 1 false (.tmp 8), none⟩, ⟨some 10, .bld (.agg #[.int .i64 0, .int .i64 0, .int .i64 0]) [(0, 1, .tmp 5), (1, 1, .tmp 7), (2, 1, .tmp 9)], none⟩, ⟨some 11, .call 54 [.tmp 10], none⟩, ⟨some 12, .un .neg (.tmp 11), none⟩, ⟨some 2, .mv (.tmp 12), none⟩]
def Xn38_2 : C := .seq Xn38_3 .ret
def Xn38_0 : C := .seq Xn38_1 Xn38_2
theorem Xt38 : Text Try.prog 38 Xn38_0 13 1 [.t 2] := ⟨⟨Try.f38, [1], Try.func38, by kernel_rfl, by kernel_rfl, by kernel_rfl, by kernel_rfl⟩⟩
def Xn39_1 : C := regL [0] none [⟨some 2, .mv (.const (.int .i64 0)), none⟩]
def Xn39_4 : C := regL [0, 7, 8, 9] none [⟨some 7, .mv (.tmp 0), none⟩, ⟨some 8, .len (.tmp 7), none⟩, ⟨some 9, .mv (.const (.int .i64 0)), none⟩]
def Xn39_8 : C := regL [0, 7, 8, 9, 10] none [⟨some 10, .bin 3 .lss (.tmp 9) (.tmp 8), none⟩]
def Xn39_10 : C := .cond (.tmp 10) .skip (.exit 0)
def Xn39_16 : C := regL [0, 4, 7, 8, 9] none [⟨some 11, .ia 1 (.tmp 7) (.tmp 9), none⟩, ⟨some 12, .ld 60 1 false (.tmp 11), none⟩, ⟨some 4, .mv (.tmp 12), none⟩]
def Xn39_18 : C := regL [0, 7, 8, 9, 15] none [⟨some 13, .mv (.tmp 4), none⟩, ⟨some 14, .len (.tmp 13), none⟩, ⟨some 15, .bin 3 .gtr (.tmp 14) (.const (.int .i64 256)), none⟩]
def Xn39_21 : C := regL [2] none [⟨some 2, .mv (.const (.int .i64 6)), none⟩]
def Xn39_20 : C := .seq Xn39_21 .ret
def Xn39_19 : C := .cond (.tmp 15) Xn39_20 .skip
def Xn39_17 : C := .seq Xn39_18 Xn39_19
def Xn39_15 : C := .seq Xn39_16 Xn39_17
def Xn39_14 : C := .block 1 Xn39_15
def Xn39_24 : C := regL [0, 7, 8, 9] none [⟨some 16, .bin 3 .add (.tmp 9) (.const (.int .i64 1)), none⟩, ⟨some 9, .mv (.tmp 16), none⟩]
def Xn39_13 : C := seqL [0, 7, 8, 9] Xn39_14 Xn39_24
def Xn39_9 : C := seqL [0, 7, 8, 9] Xn39_10 Xn39_13
def Xn39_7 : C := .seq Xn39_8 Xn39_9
def Xn39_6 : C := loopL [0, 7, 8, 9] Xn39_7
def Xn39_5 : C := .block 0 Xn39_6
def Xn39_3 : C := .seq Xn39_4 Xn39_5
def Xn39_27 : C := regL [17, 18, 19] none [⟨some 17, .mv (.tmp 0), none⟩, ⟨some 18, .len (.tmp 17), none⟩, ⟨some 19, .mv (.const (.int .i64 0)), none⟩]
def Xn39_31 : C := regL [17, 18, 19, 20] none [⟨some 20, .bin 3 .lss (.tmp 19) (.tmp 18), none⟩]
def Xn39_33 : C := .cond (.tmp 20) .skip (.exit 2)
def Xn39_39 : C := regL [6, 17, 18, 19] none [⟨some 21, .ia 1 (.tmp 17) (.tmp 19), none⟩, ⟨some 22, .ld 60 1 false (.tmp 21), none⟩, ⟨some 6, .mv (.tmp 22), none⟩]
def Xn39_41 : C := regL [17, 18, 19, 25] none [⟨some 23, .mv (.tmp 6), none⟩, ⟨some 24, .call 49 [.tmp 23], none⟩, ⟨some 25, .un .not (.tmp 24), none⟩]
def Xn39_44 : C := regL [2] none [⟨some 2, .mv (.const (.int .i64 2)), none⟩]
def Xn39_43 : C := .seq Xn39_44 .ret
def Xn39_42 : C := .cond (.tmp 25) Xn39_43 .skip
def Xn39_40 : C := .seq Xn39_41 Xn39_42
def Xn39_38 : C := .seq Xn39_39 Xn39_40
def Xn39_37 : C := .block 3 Xn39_38
def Xn39_47 : C := regL [17, 18, 19] none [⟨some 26, .bin 3 .add (.tmp 19) (.const (.int .i64 1)), none⟩, ⟨some 19, .mv (.tmp 26), none⟩]
def Xn39_36 : C := seqL [17, 18, 19] Xn39_37 Xn39_47
def Xn39_32 : C := seqL [17, 18, 19] Xn39_33 Xn39_36
def Xn39_30 : C := .seq Xn39_31 Xn39_32
def Xn39_29 : C := loopL [17, 18, 19] Xn39_30
def Xn39_28 : C := .block 2 Xn39_29
def Xn39_26 : C := .seq Xn39_27 Xn39_28
def Xn39_49 : C := regL [2] none [⟨some 2, .mv (.const (.int .i64 0)), none⟩]
def Xn39_48 : C := .seq Xn39_49 .ret
def Xn39_25 : C := seqL [] Xn39_26 Xn39_48
def Xn39_2 : C := seqL [0] Xn39_3 Xn39_25
def Xn39_0 : C := .seq Xn39_1 Xn39_2
theorem Xt39 : Text Try.prog 39 Xn39_0 27 1 [.t 2] := ⟨⟨Try.f39, [], Try.func39, by kernel_rfl, by kernel_rfl, by kernel_rfl, by kernel_rfl⟩⟩
def Xn40_1 : C := regL [0] none [⟨some 2, .mv (.const (.slice none 0 0)), none⟩]
def Xn40_3 : C := regL [3] none [⟨some 7, .mv (.tmp 0), none⟩, ⟨some 8, .call 55 [.tmp 7], none⟩, ⟨some 3, .mv (.tmp 8), none⟩]
def Xn40_5 : C := regL [3] none [⟨some 9, .mv (.tmp 3), none⟩, ⟨some 10, .call 56 [.tmp 9, .func 57], none⟩]
def Xn40_7 : C := regL [3] none [⟨some 11, .mv (.tmp 3), none⟩, ⟨some 12, .call 58 [.tmp 11], none⟩, ⟨some 3, .mv (.tmp 12), none⟩]
def Xn40_10 : C := regL [3, 15] none [⟨some 13, .mv (.tmp 3), none⟩, ⟨some 14, .len (.tmp 13), none⟩, ⟨some 15, .bin 3 .lss (.tmp 14) (.const (.int .i64 2)), none⟩]
def Xn40_13 : C := regL [2] none [⟨some 16, .mv (.tmp 3), none⟩, ⟨some 2, .mv (.tmp 16), none⟩]
def Xn40_12 : C := .seq Xn40_13 .ret
def Xn40_11 : C := .cond (.tmp 15) Xn40_12 .skip
def Xn40_9 : C := .seq Xn40_10 Xn40_11
def Xn40_17 : C := regL [3, 4] none [⟨some 4, .mv (.func 59), none⟩]
def Xn40_19 : C := regL [3, 4, 5] none [⟨some 17, .mv (.tmp 3), none⟩, ⟨some 18, .call 62 [.tmp 17], none⟩, ⟨some 19, .mv (.tmp 4), none⟩, ⟨some 20, .call 61 [.tmp 18, .tmp 19], none⟩, ⟨some 5, .mv (.tmp 20), none⟩]
def Xn40_21 : C := regL [3, 4, 5] none [⟨some 21, .mv (.tmp 3), none⟩, ⟨some 22, .call 63 [.tmp 21], none⟩]
def Xn40_23 : C := regL [5, 6] none [⟨some 23, .mv (.tmp 3), none⟩, ⟨some 24, .call 62 [.tmp 23], none⟩, ⟨some 25, .mv (.tmp 4), none⟩, ⟨some 26, .call 61 [.tmp 24, .tmp 25], none⟩, ⟨some 6, .mv (.tmp 26), none⟩]
def Xn40_25 : C := regL [2] (some [0, 0, 2, 6, 15, 0, 0, 64, 192, 480, 1023, 2047]) [⟨some 27, .mv (.tmp 5), none⟩, ⟨some 28, .mv (.tmp 5), none⟩, ⟨some 29, .len (.tmp 28), none⟩, ⟨some 30, .bin 3 .sub (.tmp 29) (.const (.int .i64 1)), none⟩, ⟨some 31, .slc 60 2 (.tmp 27) none (some (.tmp 30)), none⟩, ⟨some 32, .mv (.tmp 6), none⟩, ⟨some 33, .mv (.tmp 6), none⟩, ⟨some 34, .len (.tmp 33), none⟩, ⟨some 35, .bin 3 .sub (.tmp 34) (.const (.int .i64 1)), none⟩, ⟨some 36, .slc 60 2 (.tmp 32) none (some (.tmp 35)), none⟩, ⟨some 37, .app 59 2 16 (.tmp 31) (.tmp 36), none⟩, ⟨some 2, .mv (.tmp 37), none⟩]
def Xn40_24 : C := .seq Xn40_25 .ret
def Xn40_22 : C := .seq Xn40_23 Xn40_24
def Xn40_20 : C := .seq Xn40_21 Xn40_22
def Xn40_18 : C := .seq Xn40_19 Xn40_20
def Xn40_16 : C := .seq Xn40_17 Xn40_18
def Xn40_8 : C := seqL [3] Xn40_9 Xn40_16
def Xn40_6 : C := .seq Xn40_7 Xn40_8
def Xn40_4 : C := .seq Xn40_5 Xn40_6
def Xn40_2 : C := .seq Xn40_3 Xn40_4
def Xn40_0 : C := .seq Xn40_1 Xn40_2
theorem Xt40 : Text Try.prog 40 Xn40_0 38 1 [.t 2] := ⟨⟨Try.f40, [], Try.func40, by kernel_rfl, by kernel_rfl, by kernel_rfl, by kernel_rfl⟩⟩
def Xn41_1 : C := regL [0, 1] none [⟨some 4, .mv (.const (.int .i64 0)), none⟩]
def Xn41_4 : C := regL [0, 1, 7, 8] none [⟨some 6, .mv (.tmp 0), none⟩, ⟨some 7, .len (.tmp 6), none⟩, ⟨some 8, .mv (.const (.int .i64 0)), none⟩]
def Xn41_8 : C := regL [0, 1, 7, 8, 9] none [⟨some 9, .bin 3 .lss (.tmp 8) (.tmp 7), none⟩]
def Xn41_10 : C := .cond (.tmp 9) .skip (.exit 0)
def Xn41_16 : C := regL [0, 1, 5, 7, 8] none [⟨some 10, .mv (.tmp 8), none⟩, ⟨some 5, .mv (.tmp 10), none⟩]
def Xn41_18 : C := regL [0, 1, 5, 7, 8, 16] none [⟨some 11, .mv (.tmp 1), none⟩, ⟨some 12, .mv (.tmp 0), none⟩, ⟨some 13, .mv (.tmp 5), none⟩, ⟨some 14, .ia 3 (.tmp 12) (.tmp 13), none⟩, ⟨some 15, .ld 47 3 true (.tmp 14), none⟩, ⟨some 16, .callv (.tmp 11) [.tmp 15], none⟩]
def Xn41_21 : C := regL [4] none [⟨some 17, .mv (.tmp 5), none⟩, ⟨some 4, .mv (.tmp 17), none⟩]
def Xn41_20 : C := .seq Xn41_21 .ret
def Xn41_19 : C := .cond (.tmp 16) Xn41_20 .skip
def Xn41_17 : C := .seq Xn41_18 Xn41_19
def Xn41_15 : C := .seq Xn41_16 Xn41_17
def Xn41_14 : C := .block 1 Xn41_15
def Xn41_24 : C := regL [0, 1, 7, 8] none [⟨some 18, .bin 3 .add (.tmp 8) (.const (.int .i64 1)), none⟩, ⟨some 8, .mv (.tmp 18), none⟩]
def Xn41_13 : C := seqL [0, 1, 7, 8] Xn41_14 Xn41_24
def Xn41_9 : C := seqL [0, 1, 7, 8] Xn41_10 Xn41_13
def Xn41_7 : C := .seq Xn41_8 Xn41_9
def Xn41_6 : C := loopL [0, 1, 7, 8] Xn41_7
def Xn41_5 : C := .block 0 Xn41_6
def Xn41_3 : C := .seq Xn41_4 Xn41_5
def Xn41_26 : C := regL [4] none [⟨some 4, .mv (.const (.int .i64 (-1))), none⟩]
def Xn41_25 : C := .seq Xn41_26 .ret
def Xn41_2 : C := seqL [] Xn41_3 Xn41_25
def Xn41_0 : C := .seq Xn41_1 Xn41_2
theorem Xt41 : Text Try.prog 41 Xn41_0 19 2 [.t 4] := ⟨⟨Try.f41, [], Try.func41, by kernel_rfl, by kernel_rfl, by kernel_rfl, by kernel_rfl⟩⟩
def Xn42_1 : C := regL [1, 2] none [⟨some 1, .box true 56 (.tmp 0), none⟩, ⟨some 2, .alc 98 (.agg #[.int .i64 0, .int .i64 0, .int .i64 0, .int .i64 0, .int .i64 0, .int .i64 0]), none⟩]
def Xn42_3 : C := regL [2] none [⟨some 3, .fa 0 (.tmp 1), none⟩, ⟨some 4, .ld 2 1 false (.tmp 3), none⟩, ⟨some 5, .fa 1 (.tmp 1), none⟩, ⟨some 6, .ld 2 1 false (.tmp 5), none⟩, ⟨some 7, .fa 2 (.tmp 1), none⟩, ⟨some 8, .ld 2 1 false (.tmp 7), none⟩, ⟨some 9, .bld (.agg #[.int .i64 0, .int .i64 0, .int .i64 0]) [(0, 1, .tmp 4), (1, 1, .tmp 6), (2, 1, .tmp 8)], none⟩, ⟨some 10, .fa 0 (.tmp 1), none⟩, ⟨some 11, .ld 2 1 false (.tmp 10), none⟩, ⟨some 12, .fa 3 (.tmp 1), none⟩, ⟨some 13, .ld 2 1 false (.tmp 12), none⟩, ⟨some 14, .bin 2 .add (.tmp 11) (.tmp 13), none⟩, ⟨some 15, .fa 1 (.tmp 1), none⟩, ⟨some 16, .ld 2 1 false (.tmp 15), none⟩, ⟨some 17, .fa 4 (.tmp 1), none⟩, ⟨some 18, .ld 2 1 false (.tmp 17), none⟩, ⟨some 19, .bin 2 .add (.tmp 16) (.tmp 18), none⟩, ⟨some 20, .fa 2 (.tmp 1), none⟩, ⟨some 21, .ld 2 1 false (.tmp 20), none⟩, ⟨some 22, .fa 5 (.tmp 1), none⟩, ⟨some 23, .ld 2 1 false (.tmp 22), none⟩, ⟨some 24, .bin 2 .add (.tmp 21) (.tmp 23), none⟩, ⟨some 25, .bld (.agg #[.int .i64 0, .int .i64 0, .int .i64 0]) [(0, 1, .tmp 14), (1, 1, .tmp 19), (2, 1, .tmp 24)], none⟩, ⟨some 26, .bld (.agg #[.int .i64 0, .int .i64 0, .int .i64 0, .int .i64 0, .int .i64 0, .int .i64 0]) [(0, 3, .tmp 9), (3, 3, .tmp 25)], none⟩, ⟨none, .st 98 6 (.tmp 2) (.tmp 26), none⟩]
def Xn42_2 : C := .seq Xn42_3 .ret
def Xn42_0 : C := .seq Xn42_1 Xn42_2
theorem Xt42 : Text Try.prog 42 Xn42_0 27 1 [.c 2 6 true] := ⟨⟨Try.f42, [1], Try.func42, by kernel_rfl, by kernel_rfl, by kernel_rfl, by kernel_rfl⟩⟩
def Xn43_1 : C := regL [0, 1] none [⟨some 4, .mv (.const (.int .i64 0)), none⟩]
def Xn43_4 : C := regL [0, 1, 7, 8] none [⟨some 6, .mv (.tmp 0), none⟩, ⟨some 7, .len (.tmp 6), none⟩, ⟨some 8, .mv (.const (.int .i64 0)), none⟩]
def Xn43_8 : C := regL [0, 1, 7, 8, 9] none [⟨some 9, .bin 3 .lss (.tmp 8) (.tmp 7), none⟩]
def Xn43_10 : C := .cond (.tmp 9) .skip (.exit 0)
def Xn43_16 : C := regL [0, 1, 5, 7, 8] none [⟨some 10, .mv (.tmp 8), none⟩, ⟨some 5, .mv (.tmp 10), none⟩]
def Xn43_18 : C := regL [0, 1, 5, 7, 8, 16] none [⟨some 11, .mv (.tmp 1), none⟩, ⟨some 12, .mv (.tmp 0), none⟩, ⟨some 13, .mv (.tmp 5), none⟩, ⟨some 14, .ia 11 (.tmp 12) (.tmp 13), none⟩, ⟨some 15, .ld 44 11 true (.tmp 14), none⟩, ⟨some 16, .callv (.tmp 11) [.tmp 15], none⟩]
def Xn43_21 : C := regL [4] none [⟨some 17, .mv (.tmp 5), none⟩, ⟨some 4, .mv (.tmp 17), none⟩]
def Xn43_20 : C := .seq Xn43_21 .ret
def Xn43_19 : C := .cond (.tmp 16) Xn43_20 .skip
def Xn43_17 : C := .seq Xn43_18 Xn43_19
def Xn43_15 : C := .seq Xn43_16 Xn43_17
def Xn43_14 : C := .block 1 Xn43_15
def Xn43_24 : C := regL [0, 1, 7, 8] none [⟨some 18, .bin 3 .add (.tmp 8) (.const (.int .i64 1)), none⟩, ⟨some 8, .mv (.tmp 18), none⟩]
def Xn43_13 : C := seqL [0, 1, 7, 8] Xn43_14 Xn43_24
def Xn43_9 : C := seqL [0, 1, 7, 8] Xn43_10 Xn43_13
def Xn43_7 : C := .seq Xn43_8 Xn43_9
def Xn43_6 : C := loopL [0, 1, 7, 8] Xn43_7
def Xn43_5 : C := .block 0 Xn43_6
def Xn43_3 : C := .seq Xn43_4 Xn43_5
def Xn43_26 : C := regL [4] none [⟨some 4, .mv (.const (.int .i64 (-1))), none⟩]
def Xn43_25 : C := .seq Xn43_26 .ret
def Xn43_2 : C := seqL [] Xn43_3 Xn43_25
def Xn43_0 : C := .seq Xn43_1 Xn43_2
theorem Xt43 : Text Try.prog 43 Xn43_0 19 2 [.t 4] := ⟨⟨Try.f43, [], Try.func43, by kernel_rfl, by kernel_rfl, by kernel_rfl, by kernel_rfl⟩⟩
def Xn44_1 : C := regL [0, 1] none [⟨some 4, .mv (.const (.bool false)), none⟩]
def Xn44_3 : C := regL [4] none [⟨some 5, .mv (.tmp 0), none⟩, ⟨some 6, .mv (.tmp 1), none⟩, ⟨some 7, .call 64 [.tmp 5, .tmp 6], none⟩, ⟨some 8, .bin 3 .geq (.tmp 7) (.const (.int .i64 0)), none⟩, ⟨some 4, .mv (.tmp 8), none⟩]
def Xn44_2 : C := .seq Xn44_3 .ret
def Xn44_0 : C := .seq Xn44_1 Xn44_2
theorem Xt44 : Text Try.prog 44 Xn44_0 9 2 [.t 4] := ⟨⟨Try.f44, [], Try.func44, by kernel_rfl, by kernel_rfl, by kernel_rfl, by kernel_rfl⟩⟩
def Xn45_1 : C := regL [0] none [⟨some 2, .mv (.const (.bool false)), none⟩]
def Xn45_3 : C := regL [2] none [⟨some 3, .mv (.tmp 0), none⟩, ⟨some 4, .bin 21 .lss (.tmp 3) (.const (.int .i32 97)), none⟩, ⟨some 5, .mv (.tmp 4), none⟩, ⟨some 6, .mv (.tmp 0), some (5, false)⟩, ⟨some 7, .bin 21 .gtr (.tmp 6) (.const (.int .i32 122)), some (5, false)⟩, ⟨some 8, .pick 5 (.const (.bool true)) (.tmp 7), none⟩, ⟨some 9, .mv (.tmp 8), none⟩, ⟨some 10, .mv (.tmp 0), some (9, true)⟩, ⟨some 11, .bin 21 .lss (.tmp 10) (.const (.int .i32 48)), some (9, true)⟩, ⟨some 12, .mv (.tmp 11), some (9, true)⟩, ⟨some 13, .mv (.tmp 0), some (12, false)⟩, ⟨some 14, .bin 21 .gtr (.tmp 13) (.const (.int .i32 57)), some (12, false)⟩, ⟨some 15, .pick 12 (.const (.bool true)) (.tmp 14), some (9, true)⟩, ⟨some 16, .pick 9 (.tmp 15) (.const (.bool false)), none⟩, ⟨some 2, .mv (.tmp 16), none⟩]
def Xn45_2 : C := .seq Xn45_3 .ret
def Xn45_0 : C := .seq Xn45_1 Xn45_2
theorem Xt45 : Text Try.prog 45 Xn45_0 17 1 [.t 2] := ⟨⟨Try.f45, [], Try.func45, by kernel_rfl, by kernel_rfl, by kernel_rfl, by kernel_rfl⟩⟩
def Xn46_1 : C := regL [0, 1] none [⟨some 4, .mv (.const (.bool false)), none⟩]
def Xn46_3 : C := regL [4] none [⟨some 5, .mv (.tmp 0), none⟩, ⟨some 6, .mv (.tmp 1), none⟩, ⟨some 7, .call 65 [.tmp 5, .tmp 6], none⟩, ⟨some 8, .bin 3 .geq (.tmp 7) (.const (.int .i64 0)), none⟩, ⟨some 4, .mv (.tmp 8), none⟩]
def Xn46_2 : C := .seq Xn46_3 .ret
def Xn46_0 : C := .seq Xn46_1 Xn46_2
theorem Xt46 : Text Try.prog 46 Xn46_0 9 2 [.t 4] := ⟨⟨Try.f46, [], Try.func46, by kernel_rfl, by kernel_rfl, by kernel_rfl, by kernel_rfl⟩⟩
def Xn47_1 : C := regL [0] none [⟨some 2, .mv (.const (.bool false)), none⟩]
def Xn47_3 : C := regL [2] none [⟨some 3, .mv (.tmp 0), none⟩, ⟨some 4, .call 48 [.tmp 3, .const (.int .i64 0), .const (.int .i64 131072)], none⟩, ⟨some 5, .un .not (.tmp 4), none⟩, ⟨some 2, .mv (.tmp 5), none⟩]
def Xn47_2 : C := .seq Xn47_3 .ret
def Xn47_0 : C := .seq Xn47_1 Xn47_2
theorem Xt47 : Text Try.prog 47 Xn47_0 6 1 [.t 2] := ⟨⟨Try.f47, [], Try.func47, by kernel_rfl, by kernel_rfl, by kernel_rfl, by kernel_rfl⟩⟩
def Xn48_1 : C := regL [0, 1, 2] none [⟨some 6, .mv (.const (.bool false)), none⟩]
def Xn48_3 : C := regL [6] none [⟨some 7, .mv (.tmp 1), none⟩, ⟨some 8, .mv (.tmp 0), none⟩, ⟨some 9, .bin 2 .leq (.tmp 7) (.tmp 8), none⟩, ⟨some 10, .mv (.tmp 9), none⟩, ⟨some 11, .mv (.tmp 0), some (10, true)⟩, ⟨some 12, .mv (.tmp 2), some (10, true)⟩, ⟨some 13, .bin 2 .leq (.tmp 11) (.tmp 12), some (10, true)⟩, ⟨some 14, .pick 10 (.tmp 13) (.const (.bool false)), none⟩, ⟨some 6, .mv (.tmp 14), none⟩]
def Xn48_2 : C := .seq Xn48_3 .ret
def Xn48_0 : C := .seq Xn48_1 Xn48_2
theorem Xt48 : Text Try.prog 48 Xn48_0 15 3 [.t 6] := ⟨⟨Try.f48, [], Try.func48, by kernel_rfl, by kernel_rfl, by kernel_rfl, by kernel_rfl⟩⟩
def Xn49_1 : C := regL [0] none [⟨some 2, .mv (.const (.bool false)), none⟩]
def Xn49_4 : C := regL [5, 6, 7] none [⟨some 5, .mv (.tmp 0), none⟩, ⟨some 6, .len (.tmp 5), none⟩, ⟨some 7, .mv (.const (.int .i64 0)), none⟩]
def Xn49_8 : C := regL [5, 6, 7, 8] none [⟨some 8, .bin 3 .lss (.tmp 7) (.tmp 6), none⟩]
def Xn49_10 : C := .cond (.tmp 8) .skip (.exit 0)
def Xn49_16 : C := regL [4, 5, 6, 7] none [⟨some 9, .ia 2 (.tmp 5) (.tmp 7), none⟩, ⟨some 10, .ld 59 2 true (.tmp 9), none⟩, ⟨some 4, .alc 59 (.agg #[.int .i64 0, .int .i64 0]), none⟩, ⟨none, .st 59 2 (.tmp 4) (.tmp 10), none⟩]
def Xn49_18 : C := regL [5, 6, 7, 20] none [⟨some 11, .fa 0 (.tmp 4), none⟩, ⟨some 12, .ld 2 1 false (.tmp 11), none⟩, ⟨some 13, .call 50 [.tmp 12, .const (.int .i64 (-16777216)), .const (.int .i64 16777216)], none⟩, ⟨some 14, .un .not (.tmp 13), none⟩, ⟨some 15, .mv (.tmp 14), none⟩, ⟨some 16, .fa 1 (.tmp 4), some (15, false)⟩, ⟨some 17, .ld 2 1 false (.tmp 16), some (15, false)⟩, ⟨some 18, .call 50 [.tmp 17, .const (.int .i64 (-16777216)), .const (.int .i64 16777216)], some (15, false)⟩, ⟨some 19, .un .not (.tmp 18), some (15, false)⟩, ⟨some 20, .pick 15 (.const (.bool true)) (.tmp 19), none⟩]
def Xn49_21 : C := regL [2] none [⟨some 2, .mv (.const (.bool false)), none⟩]
def Xn49_20 : C := .seq Xn49_21 .ret
def Xn49_19 : C := .cond (.tmp 20) Xn49_20 .skip
def Xn49_17 : C := .seq Xn49_18 Xn49_19
def Xn49_15 : C := .seq Xn49_16 Xn49_17
def Xn49_14 : C := .block 1 Xn49_15
def Xn49_24 : C := regL [5, 6, 7] none [⟨some 21, .bin 3 .add (.tmp 7) (.const (.int .i64 1)), none⟩, ⟨some 7, .mv (.tmp 21), none⟩]
def Xn49_13 : C := seqL [5, 6, 7] Xn49_14 Xn49_24
def Xn49_9 : C := seqL [5, 6, 7] Xn49_10 Xn49_13
def Xn49_7 : C := .seq Xn49_8 Xn49_9
def Xn49_6 : C := loopL [5, 6, 7] Xn49_7
def Xn49_5 : C := .block 0 Xn49_6
def Xn49_3 : C := .seq Xn49_4 Xn49_5
def Xn49_26 : C := regL [2] none [⟨some 2, .mv (.const (.bool true)), none⟩]
def Xn49_25 : C := .seq Xn49_26 .ret
def Xn49_2 : C := seqL [] Xn49_3 Xn49_25
def Xn49_0 : C := .seq Xn49_1 Xn49_2
theorem Xt49 : Text Try.prog 49 Xn49_0 22 1 [.t 2] := ⟨⟨Try.f49, [], Try.func49, by kernel_rfl, by kernel_rfl, by kernel_rfl, by kernel_rfl⟩⟩
def Xn50_1 : C := regL [0, 1, 2] none [⟨some 6, .mv (.const (.bool false)), none⟩]
def Xn50_3 : C := regL [6] none [⟨some 7, .mv (.tmp 1), none⟩, ⟨some 8, .mv (.tmp 0), none⟩, ⟨some 9, .bin 2 .leq (.tmp 7) (.tmp 8), none⟩, ⟨some 10, .mv (.tmp 9), none⟩, ⟨some 11, .mv (.tmp 0), some (10, true)⟩, ⟨some 12, .mv (.tmp 2), some (10, true)⟩, ⟨some 13, .bin 2 .leq (.tmp 11) (.tmp 12), some (10, true)⟩, ⟨some 14, .pick 10 (.tmp 13) (.const (.bool false)), none⟩, ⟨some 6, .mv (.tmp 14), none⟩]
def Xn50_2 : C := .seq Xn50_3 .ret
def Xn50_0 : C := .seq Xn50_1 Xn50_2
theorem Xt50 : Text Try.prog 50 Xn50_0 15 3 [.t 6] := ⟨⟨Try.f50, [], Try.func50, by kernel_rfl, by kernel_rfl, by kernel_rfl, by kernel_rfl⟩⟩
def Xn51_1 : C := regL [2, 3, 4, 5, 8] none [⟨some 4, .box true 59 (.tmp 0), none⟩, ⟨some 5, .box true 59 (.tmp 1), none⟩, ⟨some 8, .alc 59 (.agg #[.int .i64 0, .int .i64 0]), none⟩, ⟨some 9, .mv (.const (.int .i64 0)), none⟩]
def Xn51_3 : C := regL [2, 3, 4, 8, 10, 11] (some [0, 1, 0, 4, 15, 0, 32, 0, 128, 480, 31, 2047]) [⟨some 13, .fa 0 (.tmp 5), none⟩, ⟨some 14, .ld 2 1 false (.tmp 13), none⟩, ⟨some 15, .fa 0 (.tmp 4), none⟩, ⟨some 16, .ld 2 1 false (.tmp 15), none⟩, ⟨some 17, .bin 2 .sub (.tmp 14) (.tmp 16), none⟩, ⟨some 18, .fa 1 (.tmp 5), none⟩, ⟨some 19, .ld 2 1 false (.tmp 18), none⟩, ⟨some 20, .fa 1 (.tmp 4), none⟩, ⟨some 21, .ld 2 1 false (.tmp 20), none⟩, ⟨some 22, .bin 2 .sub (.tmp 19) (.tmp 21), none⟩, ⟨some 10, .mv (.tmp 17), none⟩, ⟨some 11, .mv (.tmp 22), none⟩]
def Xn51_6 : C := regL [2, 3, 4, 8, 10, 11, 28] none [⟨some 23, .mv (.tmp 10), none⟩, ⟨some 24, .bin 2 .eql (.tmp 23) (.const (.int .i64 0)), none⟩, ⟨some 25, .mv (.tmp 24), none⟩, ⟨some 26, .mv (.tmp 11), some (25, true)⟩, ⟨some 27, .bin 2 .eql (.tmp 26) (.const (.int .i64 0)), some (25, true)⟩, ⟨some 28, .pick 25 (.tmp 27) (.const (.bool false)), none⟩]
def Xn51_9 : C := regL [8, 9] none [⟨some 29, .bld (.agg #[.int .i64 0, .int .i64 0]) [], none⟩, ⟨none, .st 59 2 (.tmp 8) (.tmp 29), none⟩, ⟨some 9, .mv (.const (.int .i64 9)), none⟩]
def Xn51_8 : C := .seq Xn51_9 .ret
def Xn51_7 : C := .cond (.tmp 28) Xn51_8 .skip
def Xn51_5 : C := .seq Xn51_6 Xn51_7
def Xn51_13 : C := regL [2, 3, 4, 8, 10, 11, 12] none [⟨some 30, .mv (.tmp 10), none⟩, ⟨some 31, .mv (.tmp 10), none⟩, ⟨some 32, .bin 2 .mul (.tmp 30) (.tmp 31), none⟩, ⟨some 33, .mv (.tmp 11), none⟩, ⟨some 34, .mv (.tmp 11), none⟩, ⟨some 35, .bin 2 .mul (.tmp 33) (.tmp 34), none⟩, ⟨some 36, .bin 2 .add (.tmp 32) (.tmp 35), none⟩, ⟨some 37, .bin 2 .mul (.const (.int .i64 1024)) (.tmp 36), none⟩, ⟨some 38, .call 66 [.tmp 37], none⟩, ⟨some 12, .mv (.tmp 38), none⟩]
def Xn51_15 : C := regL [8, 9] (some [0, 1, 0, 0, 12, 0, 0, 96, 252, 508, 0, 2044, 4095, 0, 8192, 0, 0, 98304, 0, 0, 786432, 2064384, 4161536, 0, 16748540, 33550332, 67108863, 134217727, 268435455, 268435455, 1073741823, 2147483647]) [⟨some 39, .fa 0 (.tmp 4), none⟩, ⟨some 40, .ld 2 1 false (.tmp 39), none⟩, ⟨some 41, .mv (.tmp 10), none⟩, ⟨some 42, .mv (.tmp 2), none⟩, ⟨some 43, .bin 2 .mul (.tmp 41) (.tmp 42), none⟩, ⟨some 44, .mv (.tmp 11), none⟩, ⟨some 45, .mv (.tmp 3), none⟩, ⟨some 46, .bin 2 .mul (.tmp 44) (.tmp 45), none⟩, ⟨some 47, .bin 2 .sub (.tmp 43) (.tmp 46), none⟩, ⟨some 48, .bin 2 .mul (.const (.int .i64 32)) (.tmp 47), none⟩, ⟨some 49, .mv (.tmp 12), none⟩, ⟨some 50, .call 68 [.tmp 48, .tmp 49], none⟩, ⟨some 51, .bin 2 .add (.tmp 40) (.tmp 50), none⟩, ⟨some 52, .fa 1 (.tmp 4), none⟩, ⟨some 53, .ld 2 1 false (.tmp 52), none⟩, ⟨some 54, .mv (.tmp 11), none⟩, ⟨some 55, .mv (.tmp 2), none⟩, ⟨some 56, .bin 2 .mul (.tmp 54) (.tmp 55), none⟩, ⟨some 57, .mv (.tmp 10), none⟩, ⟨some 58, .mv (.tmp 3), none⟩, ⟨some 59, .bin 2 .mul (.tmp 57) (.tmp 58), none⟩, ⟨some 60, .bin 2 .add (.tmp 56) (.tmp 59), none⟩, ⟨some 61, .bin 2 .mul (.const (.int .i64 32)) (.tmp 60), none⟩, ⟨some 62, .mv (.tmp 12), none⟩, ⟨some 63, .call 68 [.tmp 61, .tmp 62], none⟩, ⟨some 64, .bin 2 .add (.tmp 53) (.tmp 63), none⟩, ⟨some 65, .bld (.agg #[.int .i64 0, .int .i64 0]) [(0, 1, .tmp 51), (1, 1, .tmp 64)], none⟩, ⟨some 66, .call 67 [.tmp 65], none⟩, ⟨some 67, .ext 0 (.tmp 66), none⟩, ⟨some 68, .ext 1 (.tmp 66), none⟩, ⟨none, .st 59 2 (.tmp 8) (.tmp 67), none⟩, ⟨some 9, .mv (.tmp 68), none⟩]
def Xn51_14 : C := .seq Xn51_15 .ret
def Xn51_12 : C := .seq Xn51_13 Xn51_14
def Xn51_4 : C := seqL [2, 3, 4, 8, 10, 11] Xn51_5 Xn51_12
def Xn51_2 : C := .seq Xn51_3 Xn51_4
def Xn51_0 : C := .seq Xn51_1 Xn51_2
theorem Xt51 : Text Try.prog 51 Xn51_0 69 4 [.c 8 2 true, .t 9] := ⟨⟨Try.f51, [4, 5], Try.func51, by kernel_rfl, by kernel_rfl, by kernel_rfl, by kernel_rfl⟩⟩
def Xn52_1 : C := regL [2, 3, 4, 5, 8] none [⟨some 4, .box true 59 (.tmp 0), none⟩, ⟨some 5, .box true 59 (.tmp 1), none⟩, ⟨some 8, .alc 59 (.agg #[.int .i64 0, .int .i64 0]), none⟩, ⟨some 9, .mv (.const (.int .i64 0)), none⟩]
def Xn52_4 : C := regL [2, 3, 4, 5, 8, 14] none [⟨some 10, .ld 59 2 true (.tmp 4), none⟩, ⟨some 11, .ld 59 2 true (.tmp 5), none⟩, ⟨some 12, .bls 59 2 2 (.agg #[.int .i64 0, .int .i64 0]) [(0, 2, .tmp 10), (2, 2, .tmp 11)], none⟩, ⟨some 13, .call 49 [.tmp 12], none⟩, ⟨some 14, .un .not (.tmp 13), none⟩]
def Xn52_7 : C := regL [8, 9] none [⟨some 15, .bld (.agg #[.int .i64 0, .int .i64 0]) [], none⟩, ⟨none, .st 59 2 (.tmp 8) (.tmp 15), none⟩, ⟨some 9, .mv (.const (.int .i64 2)), none⟩]
def Xn52_6 : C := .seq Xn52_7 .ret
def Xn52_5 : C := .cond (.tmp 14) Xn52_6 .skip
def Xn52_3 : C := .seq Xn52_4 Xn52_5
def Xn52_12 : C := regL [2, 3, 4, 5, 8, 23] none [⟨some 16, .mv (.tmp 2), none⟩, ⟨some 17, .call 50 [.tmp 16, .const (.int .i64 (-16777216)), .const (.int .i64 16777216)], none⟩, ⟨some 18, .un .not (.tmp 17), none⟩, ⟨some 19, .mv (.tmp 18), none⟩, ⟨some 20, .mv (.tmp 3), some (19, false)⟩, ⟨some 21, .call 50 [.tmp 20, .const (.int .i64 (-16777216)), .const (.int .i64 16777216)], some (19, false)⟩, ⟨some 22, .un .not (.tmp 21), some (19, false)⟩, ⟨some 23, .pick 19 (.const (.bool true)) (.tmp 22), none⟩]
def Xn52_15 : C := regL [8, 9] none [⟨some 24, .bld (.agg #[.int .i64 0, .int .i64 0]) [], none⟩, ⟨none, .st 59 2 (.tmp 8) (.tmp 24), none⟩, ⟨some 9, .mv (.const (.int .i64 3)), none⟩]
def Xn52_14 : C := .seq Xn52_15 .ret
def Xn52_13 : C := .cond (.tmp 23) Xn52_14 .skip
def Xn52_11 : C := .seq Xn52_12 Xn52_13
def Xn52_19 : C := regL [8, 9] none [⟨some 25, .ld 59 2 true (.tmp 4), none⟩, ⟨some 26, .ld 59 2 true (.tmp 5), none⟩, ⟨some 27, .mv (.tmp 2), none⟩, ⟨some 28, .mv (.tmp 3), none⟩, ⟨some 29, .call 51 [.tmp 25, .tmp 26, .tmp 27, .tmp 28], none⟩, ⟨some 30, .ext 0 (.tmp 29), none⟩, ⟨some 31, .ext 1 (.tmp 29), none⟩, ⟨none, .st 59 2 (.tmp 8) (.tmp 30), none⟩, ⟨some 9, .mv (.tmp 31), none⟩]
def Xn52_18 : C := .seq Xn52_19 .ret
def Xn52_10 : C := seqL [2, 3, 4, 5, 8] Xn52_11 Xn52_18
def Xn52_2 : C := seqL [2, 3, 4, 5, 8] Xn52_3 Xn52_10
def Xn52_0 : C := .seq Xn52_1 Xn52_2
theorem Xt52 : Text Try.prog 52 Xn52_0 32 4 [.c 8 2 true, .t 9] := ⟨⟨Try.f52, [4, 5], Try.func52, by kernel_rfl, by kernel_rfl, by kernel_rfl, by kernel_rfl⟩⟩
def Xn53_1 : C := regL [2, 3] none [⟨some 2, .box true 26 (.tmp 0), none⟩, ⟨some 3, .box true 62 (.tmp 1), none⟩, ⟨some 4, .mv (.const (.slice none 0 0)), none⟩, ⟨some 5, .mv (.const (.int .i64 0)), none⟩]
def Xn53_4 : C := regL [2, 3, 6] none [⟨some 8, .ld 26 4 true (.tmp 2), none⟩, ⟨some 9, .call 13 [.tmp 8], none⟩, ⟨some 6, .mv (.tmp 9), none⟩]
def Xn53_6 : C := regL [2, 3, 6, 11] none [⟨some 10, .mv (.tmp 6), none⟩, ⟨some 11, .bin 28 .neq (.tmp 10) (.const (.int .i64 0)), none⟩]
def Xn53_9 : C := regL [4, 5] none [⟨some 12, .mv (.tmp 6), none⟩, ⟨some 4, .mv (.const (.slice none 0 0)), none⟩, ⟨some 5, .mv (.tmp 12), none⟩]
def Xn53_8 : C := .seq Xn53_9 .ret
def Xn53_7 : C := .cond (.tmp 11) Xn53_8 .skip
def Xn53_5 : C := .seq Xn53_6 Xn53_7
def Xn53_3 : C := .seq Xn53_4 Xn53_5
def Xn53_14 : C := regL [2, 3, 25] none [⟨some 13, .fa 2 (.tmp 3), none⟩, ⟨some 14, .ld 60 1 false (.tmp 13), none⟩, ⟨some 15, .len (.tmp 14), none⟩, ⟨some 16, .fa 1 (.tmp 2), none⟩, ⟨some 17, .ld 24 1 false (.tmp 16), none⟩, ⟨some 18, .len (.tmp 17), none⟩, ⟨some 19, .bin 3 .neq (.tmp 15) (.tmp 18), none⟩, ⟨some 20, .mv (.tmp 19), none⟩, ⟨some 21, .fa 0 (.tmp 3), some (20, false)⟩, ⟨some 22, .ld 59 2 true (.tmp 21), some (20, false)⟩, ⟨some 23, .call 31 [.tmp 22], some (20, false)⟩, ⟨some 24, .bin 28 .neq (.tmp 23) (.const (.int .i64 0)), some (20, false)⟩, ⟨some 25, .pick 20 (.const (.bool true)) (.tmp 24), none⟩]
def Xn53_17 : C := regL [4, 5] none [⟨some 4, .mv (.const (.slice none 0 0)), none⟩, ⟨some 5, .mv (.const (.int .i64 3)), none⟩]
def Xn53_16 : C := .seq Xn53_17 .ret
def Xn53_15 : C := .cond (.tmp 25) Xn53_16 .skip
def Xn53_13 : C := .seq Xn53_14 Xn53_15
def Xn53_21 : C := regL [2, 7] none [⟨some 26, .ld 26 4 true (.tmp 2), none⟩, ⟨some 27, .ld 62 3 true (.tmp 3), none⟩, ⟨some 28, .bld (.agg #[.string ⟨#[]⟩, .slice none 0 0, .int .i64 0, .int .i64 0, .int .i64 0, .int .i64 0, .slice none 0 0]) [(0, 4, .tmp 26), (4, 3, .tmp 27)], none⟩, ⟨some 29, .call 70 [.tmp 28], none⟩, ⟨some 30, .call 69 [.tmp 29], none⟩, ⟨some 7, .mv (.tmp 30), none⟩]
def Xn53_24 : C := regL [7, 36] none [⟨some 31, .mv (.tmp 7), none⟩, ⟨some 32, .len (.tmp 31), none⟩, ⟨some 33, .fa 1 (.tmp 2), none⟩, ⟨some 34, .ld 24 1 false (.tmp 33), none⟩, ⟨some 35, .len (.tmp 34), none⟩, ⟨some 36, .bin 3 .neq (.tmp 32) (.tmp 35), none⟩]
def Xn53_27 : C := regL [4, 5] none [⟨some 4, .mv (.const (.slice none 0 0)), none⟩, ⟨some 5, .mv (.const (.int .i64 3)), none⟩]
def Xn53_26 : C := .seq Xn53_27 .ret
def Xn53_25 : C := .cond (.tmp 36) Xn53_26 .skip
def Xn53_23 : C := .seq Xn53_24 Xn53_25
def Xn53_31 : C := regL [4, 5] none [⟨some 37, .mv (.tmp 7), none⟩, ⟨some 4, .mv (.tmp 37), none⟩, ⟨some 5, .mv (.const (.int .i64 0)), none⟩]
def Xn53_30 : C := .seq Xn53_31 .ret
def Xn53_22 : C := seqL [7] Xn53_23 Xn53_30
def Xn53_20 : C := .seq Xn53_21 Xn53_22
def Xn53_12 : C := seqL [2, 3] Xn53_13 Xn53_20
def Xn53_2 : C := seqL [2, 3] Xn53_3 Xn53_12
def Xn53_0 : C := .seq Xn53_1 Xn53_2
theorem Xt53 : Text Try.prog 53 Xn53_0 38 2 [.t 4, .t 5] := ⟨⟨Try.f53, [2, 3], Try.func53, by kernel_rfl, by kernel_rfl, by kernel_rfl, by kernel_rfl⟩⟩
def Xn54_1 : C := regL [1] none [⟨some 1, .box true 92 (.tmp 0), none⟩, ⟨some 2, .mv (.const (.int .i64 0)), none⟩]
def Xn54_3 : C := regL [3, 4, 5] none [⟨some 7, .ld 92 3 true (.tmp 1), none⟩, ⟨some 8, .call 71 [.tmp 7], none⟩, ⟨some 6, .mv (.tmp 8), none⟩, ⟨some 9, .ext 0 (.tmp 6), none⟩, ⟨some 10, .ext 1 (.tmp 6), none⟩, ⟨some 11, .ext 2 (.tmp 6), none⟩, ⟨some 3, .mv (.tmp 9), none⟩, ⟨some 4, .mv (.tmp 10), none⟩, ⟨some 5, .mv (.tmp 11), none⟩]
def Xn54_6 : C := regL [3, 4, 13] none [⟨some 12, .mv (.tmp 5), none⟩, ⟨some 13, .un .not (.tmp 12), none⟩]
def Xn54_9 : C := regL [2] none [⟨some 14, .mv (.tmp 3), none⟩, ⟨some 2, .mv (.tmp 14), none⟩]
def Xn54_8 : C := .seq Xn54_9 .ret
def Xn54_7 : C := .cond (.tmp 13) Xn54_8 .skip
def Xn54_5 : C := .seq Xn54_6 Xn54_7
def Xn54_14 : C := regL [3, 15] none [⟨some 15, .mv (.tmp 4), none⟩]
def Xn54_16 : C := regL [3] none [⟨some 16, .mv (.tmp 3), none⟩, ⟨some 17, .bin 2 .add (.tmp 16) (.const (.int .i64 1)), none⟩, ⟨some 3, .mv (.tmp 17), none⟩]
def Xn54_15 : C := .cond (.tmp 15) Xn54_16 .skip
def Xn54_13 : C := .seq Xn54_14 Xn54_15
def Xn54_19 : C := regL [2] none [⟨some 18, .mv (.tmp 3), none⟩, ⟨some 19, .un .neg (.tmp 18), none⟩, ⟨some 2, .mv (.tmp 19), none⟩]
def Xn54_18 : C := .seq Xn54_19 .ret
def Xn54_12 : C := seqL [3] Xn54_13 Xn54_18
def Xn54_4 : C := seqL [3, 4] Xn54_5 Xn54_12
def Xn54_2 : C := .seq Xn54_3 Xn54_4
def Xn54_0 : C := .seq Xn54_1 Xn54_2
theorem Xt54 : Text Try.prog 54 Xn54_0 20 1 [.t 2] := ⟨⟨Try.f54, [1], Try.func54, by kernel_rfl, by kernel_rfl, by kernel_rfl, by kernel_rfl⟩⟩
def Xn55_1 : C := regL [0] none [⟨some 2, .mv (.const (.slice none 0 0)), none⟩]
def Xn55_4 : C := regL [0, 4] none [⟨some 3, .mv (.tmp 0), none⟩, ⟨some 4, .isn false (.tmp 3), none⟩]
def Xn55_7 : C := regL [2] none [⟨some 2, .mv (.const (.slice none 0 0)), none⟩]
def Xn55_6 : C := .seq Xn55_7 .ret
def Xn55_5 : C := .cond (.tmp 4) Xn55_6 .skip
def Xn55_3 : C := .seq Xn55_4 Xn55_5
def Xn55_11 : C := regL [2] none [⟨some 5, .bls 59 2 0 (.agg #[.int .i64 0, .int .i64 0]) [], none⟩, ⟨some 6, .mv (.tmp 0), none⟩, ⟨some 7, .app 59 2 16 (.tmp 5) (.tmp 6), none⟩, ⟨some 2, .mv (.tmp 7), none⟩]
def Xn55_10 : C := .seq Xn55_11 .ret
def Xn55_2 : C := seqL [0] Xn55_3 Xn55_10
def Xn55_0 : C := .seq Xn55_1 Xn55_2
theorem Xt55 : Text Try.prog 55 Xn55_0 8 1 [.t 2] := ⟨⟨Try.f55, [], Try.func55, by kernel_rfl, by kernel_rfl, by kernel_rfl, by kernel_rfl⟩⟩
def Xn56_1 : C := regL [0, 1, 4] none [⟨some 5, .mv (.tmp 0), none⟩, ⟨some 6, .len (.tmp 5), none⟩, ⟨some 4, .mv (.tmp 6), none⟩]
def Xn56_2 : C := regL [] none [⟨some 7, .mv (.tmp 0), none⟩, ⟨some 8, .mv (.tmp 4), none⟩, ⟨some 9, .mv (.tmp 4), none⟩, ⟨some 10, .cvt .u64 (.tmp 9), none⟩, ⟨some 11, .call 73 [.tmp 10], none⟩, ⟨some 12, .mv (.tmp 1), none⟩, ⟨some 13, .call 72 [.tmp 7, .const (.int .i64 0), .tmp 8, .tmp 11, .tmp 12], none⟩]
def Xn56_0 : C := .seq Xn56_1 Xn56_2
theorem Xt56 : Text Try.prog 56 Xn56_0 14 2 [] := ⟨⟨Try.f56, [], Try.func56, by kernel_rfl, by kernel_rfl, by kernel_rfl, by kernel_rfl⟩⟩
def Xn57_1 : C := regL [2, 3] none [⟨some 2, .box true 59 (.tmp 0), none⟩, ⟨some 3, .box true 59 (.tmp 1), none⟩, ⟨some 4, .mv (.const (.int .i64 0)), none⟩]
def Xn57_4 : C := regL [2, 3, 9] none [⟨some 5, .fa 0 (.tmp 2), none⟩, ⟨some 6, .ld 2 1 false (.tmp 5), none⟩, ⟨some 7, .fa 0 (.tmp 3), none⟩, ⟨some 8, .ld 2 1 false (.tmp 7), none⟩, ⟨some 9, .bin 2 .neq (.tmp 6) (.tmp 8), none⟩]
def Xn57_7 : C := regL [4] none [⟨some 10, .fa 0 (.tmp 2), none⟩, ⟨some 11, .ld 2 1 false (.tmp 10), none⟩, ⟨some 12, .fa 0 (.tmp 3), none⟩, ⟨some 13, .ld 2 1 false (.tmp 12), none⟩, ⟨some 14, .call 74 [.tmp 11, .tmp 13], none⟩, ⟨some 4, .mv (.tmp 14), none⟩]
def Xn57_6 : C := .seq Xn57_7 .ret
def Xn57_5 : C := .cond (.tmp 9) Xn57_6 .skip
def Xn57_3 : C := .seq Xn57_4 Xn57_5
def Xn57_11 : C := regL [4] none [⟨some 15, .fa 1 (.tmp 2), none⟩, ⟨some 16, .ld 2 1 false (.tmp 15), none⟩, ⟨some 17, .fa 1 (.tmp 3), none⟩, ⟨some 18, .ld 2 1 false (.tmp 17), none⟩, ⟨some 19, .call 74 [.tmp 16, .tmp 18], none⟩, ⟨some 4, .mv (.tmp 19), none⟩]
def Xn57_10 : C := .seq Xn57_11 .ret
def Xn57_2 : C := seqL [2, 3] Xn57_3 Xn57_10
def Xn57_0 : C := .seq Xn57_1 Xn57_2
theorem Xt57 : Text Try.prog 57 Xn57_0 20 2 [.t 4] := ⟨⟨Try.f57, [2, 3], Try.func57, by kernel_rfl, by kernel_rfl, by kernel_rfl, by kernel_rfl⟩⟩
def Xn58_1 : C := regL [0] none [⟨some 2, .mv (.const (.slice none 0 0)), none⟩]
def Xn58_4 : C := regL [0, 8] none [⟨some 6, .mv (.tmp 0), none⟩, ⟨some 7, .len (.tmp 6), none⟩, ⟨some 8, .bin 3 .lss (.tmp 7) (.const (.int .i64 2)), none⟩]
def Xn58_7 : C := regL [2] none [⟨some 9, .mv (.tmp 0), none⟩, ⟨some 2, .mv (.tmp 9), none⟩]
def Xn58_6 : C := .seq Xn58_7 .ret
def Xn58_5 : C := .cond (.tmp 8) Xn58_6 .skip
def Xn58_3 : C := .seq Xn58_4 Xn58_5
def Xn58_12 : C := regL [0, 3] none [⟨some 3, .mv (.const (.int .i64 1)), none⟩]
def Xn58_17 : C := regL [0, 3, 13] none [⟨some 10, .mv (.tmp 3), none⟩, ⟨some 11, .mv (.tmp 0), none⟩, ⟨some 12, .len (.tmp 11), none⟩, ⟨some 13, .bin 3 .lss (.tmp 10) (.tmp 12), none⟩]
def Xn58_18 : C := .cond (.tmp 13) .skip (.exit 0)
def Xn58_16 : C := .seq Xn58_17 Xn58_18
def Xn58_24 : C := regL [0, 3, 25] (some [0, 0, 3, 7, 0, 0, 32, 112, 240, 511]) [⟨some 16, .mv (.tmp 0), none⟩, ⟨some 17, .mv (.tmp 3), none⟩, ⟨some 18, .ia 2 (.tmp 16) (.tmp 17), none⟩, ⟨some 19, .ld 59 2 true (.tmp 18), none⟩, ⟨some 20, .mv (.tmp 0), none⟩, ⟨some 21, .mv (.tmp 3), none⟩, ⟨some 22, .bin 3 .sub (.tmp 21) (.const (.int .i64 1)), none⟩, ⟨some 23, .ia 2 (.tmp 20) (.tmp 22), none⟩, ⟨some 24, .ld 59 2 true (.tmp 23), none⟩, ⟨some 25, .eqb 5 false (.tmp 19) (.tmp 24), none⟩]
def Xn58_27 : C := regL [0, 3, 4] none [⟨some 26, .mv (.tmp 0), none⟩, ⟨some 27, .mv (.tmp 3), none⟩, ⟨some 28, .slc 60 2 (.tmp 26) (some (.tmp 27)) none, none⟩, ⟨some 4, .mv (.tmp 28), none⟩]
def Xn58_30 : C := regL [0, 3, 4, 5] none [⟨some 5, .mv (.const (.int .i64 1)), none⟩]
def Xn58_35 : C := regL [0, 3, 4, 5, 32] none [⟨some 29, .mv (.tmp 5), none⟩, ⟨some 30, .mv (.tmp 4), none⟩, ⟨some 31, .len (.tmp 30), none⟩, ⟨some 32, .bin 3 .lss (.tmp 29) (.tmp 31), none⟩]
def Xn58_36 : C := .cond (.tmp 32) .skip (.exit 2)
def Xn58_34 : C := .seq Xn58_35 Xn58_36
def Xn58_42 : C := regL [0, 3, 4, 5, 44] (some [0, 0, 3, 7, 0, 0, 32, 112, 240, 511]) [⟨some 35, .mv (.tmp 4), none⟩, ⟨some 36, .mv (.tmp 5), none⟩, ⟨some 37, .ia 2 (.tmp 35) (.tmp 36), none⟩, ⟨some 38, .ld 59 2 true (.tmp 37), none⟩, ⟨some 39, .mv (.tmp 4), none⟩, ⟨some 40, .mv (.tmp 5), none⟩, ⟨some 41, .bin 3 .sub (.tmp 40) (.const (.int .i64 1)), none⟩, ⟨some 42, .ia 2 (.tmp 39) (.tmp 41), none⟩, ⟨some 43, .ld 59 2 true (.tmp 42), none⟩, ⟨some 44, .eqb 5 true (.tmp 38) (.tmp 43), none⟩]
def Xn58_45 : C := regL [0, 3, 4, 5] none [⟨some 45, .mv (.tmp 0), none⟩, ⟨some 46, .mv (.tmp 3), none⟩, ⟨some 47, .mv (.tmp 4), none⟩, ⟨some 48, .mv (.tmp 5), none⟩, ⟨some 49, .ia 2 (.tmp 47) (.tmp 48), none⟩, ⟨some 50, .ld 59 2 true (.tmp 49), none⟩, ⟨some 51, .ia 2 (.tmp 45) (.tmp 46), none⟩, ⟨none, .st 59 2 (.tmp 51) (.tmp 50), none⟩]
def Xn58_46 : C := regL [0, 3, 4, 5] none [⟨some 52, .mv (.tmp 3), none⟩, ⟨some 53, .bin 3 .add (.tmp 52) (.const (.int .i64 1)), none⟩, ⟨some 3, .mv (.tmp 53), none⟩]
def Xn58_44 : C := .seq Xn58_45 Xn58_46
def Xn58_43 : C := .cond (.tmp 44) Xn58_44 .skip
def Xn58_41 : C := .seq Xn58_42 Xn58_43
def Xn58_40 : C := .block 3 Xn58_41
def Xn58_48 : C := regL [0, 3, 4, 5] none [⟨some 33, .mv (.tmp 5), none⟩, ⟨some 34, .bin 3 .add (.tmp 33) (.const (.int .i64 1)), none⟩, ⟨some 5, .mv (.tmp 34), none⟩]
def Xn58_39 : C := seqL [0, 3, 4, 5] Xn58_40 Xn58_48
def Xn58_33 : C := seqL [0, 3, 4, 5] Xn58_34 Xn58_39
def Xn58_32 : C := loopL [0, 3, 4, 5] Xn58_33
def Xn58_31 : C := .block 2 Xn58_32
def Xn58_29 : C := .seq Xn58_30 Xn58_31
def Xn58_50 : C := regL [0, 3] none [⟨some 54, .mv (.tmp 0), none⟩, ⟨some 55, .mv (.tmp 3), none⟩, ⟨some 56, .slc 60 2 (.tmp 54) (some (.tmp 55)) none, none⟩, ⟨none, .dead, none⟩]
def Xn58_52 : C := regL [2] none [⟨some 57, .mv (.tmp 0), none⟩, ⟨some 58, .mv (.tmp 3), none⟩, ⟨some 59, .slc 60 2 (.tmp 57) none (some (.tmp 58)), none⟩, ⟨some 2, .mv (.tmp 59), none⟩]
def Xn58_51 : C := .seq Xn58_52 .ret
def Xn58_49 : C := .seq Xn58_50 Xn58_51
def Xn58_28 : C := seqL [0, 3] Xn58_29 Xn58_49
def Xn58_26 : C := .seq Xn58_27 Xn58_28
def Xn58_25 : C := .cond (.tmp 25) Xn58_26 .skip
def Xn58_23 : C := .seq Xn58_24 Xn58_25
def Xn58_22 : C := .block 1 Xn58_23
def Xn58_55 : C := regL [0, 3] none [⟨some 14, .mv (.tmp 3), none⟩, ⟨some 15, .bin 3 .add (.tmp 14) (.const (.int .i64 1)), none⟩, ⟨some 3, .mv (.tmp 15), none⟩]
def Xn58_21 : C := seqL [0, 3] Xn58_22 Xn58_55
def Xn58_15 : C := seqL [0, 3] Xn58_16 Xn58_21
def Xn58_14 : C := loopL [0, 3] Xn58_15
def Xn58_13 : C := .block 0 Xn58_14
def Xn58_11 : C := .seq Xn58_12 Xn58_13
def Xn58_57 : C := regL [2] none [⟨some 60, .mv (.tmp 0), none⟩, ⟨some 2, .mv (.tmp 60), none⟩]
def Xn58_56 : C := .seq Xn58_57 .ret
def Xn58_10 : C := seqL [0] Xn58_11 Xn58_56
def Xn58_2 : C := seqL [0] Xn58_3 Xn58_10
def Xn58_0 : C := .seq Xn58_1 Xn58_2
theorem Xt58 : Text Try.prog 58 Xn58_0 61 1 [.t 2] := ⟨⟨Try.f58, [], Try.func58, by kernel_rfl, by kernel_rfl, by kernel_rfl, by kernel_rfl⟩⟩
def Xn59_1 : C := regL [3, 4, 5] none [⟨some 3, .box true 59 (.tmp 0), none⟩, ⟨some 4, .box true 59 (.tmp 1), none⟩, ⟨some 5, .box true 59 (.tmp 2), none⟩, ⟨some 6, .mv (.const (.bool false)), none⟩]
def Xn59_3 : C := regL [6] none [⟨some 7, .ld 59 2 true (.tmp 3), none⟩, ⟨some 8, .ld 59 2 true (.tmp 4), none⟩, ⟨some 9, .ld 59 2 true (.tmp 5), none⟩, ⟨some 10, .call 60 [.tmp 7, .tmp 8, .tmp 9], none⟩, ⟨some 11, .bin 2 .leq (.tmp 10) (.const (.int .i64 0)), none⟩, ⟨some 6, .mv (.tmp 11), none⟩]
def Xn59_2 : C := .seq Xn59_3 .ret
def Xn59_0 : C := .seq Xn59_1 Xn59_2
theorem Xt59 : Text Try.prog 59 Xn59_0 12 3 [.t 6] := ⟨⟨Try.f59, [3, 4, 5], Try.func59, by kernel_rfl, by kernel_rfl, by kernel_rfl, by kernel_rfl⟩⟩
def Xn60_1 : C := regL [3, 4, 5] none [⟨some 3, .box true 59 (.tmp 0), none⟩, ⟨some 4, .box true 59 (.tmp 1), none⟩, ⟨some 5, .box true 59 (.tmp 2), none⟩, ⟨some 6, .mv (.const (.int .i64 0)), none⟩]
def Xn60_3 : C := regL [6] none [⟨some 7, .fa 0 (.tmp 4), none⟩, ⟨some 8, .ld 2 1 false (.tmp 7), none⟩, ⟨some 9, .fa 0 (.tmp 3), none⟩, ⟨some 10, .ld 2 1 false (.tmp 9), none⟩, ⟨some 11, .bin 2 .sub (.tmp 8) (.tmp 10), none⟩, ⟨some 12, .fa 1 (.tmp 5), none⟩, ⟨some 13, .ld 2 1 false (.tmp 12), none⟩, ⟨some 14, .fa 1 (.tmp 3), none⟩, ⟨some 15, .ld 2 1 false (.tmp 14), none⟩, ⟨some 16, .bin 2 .sub (.tmp 13) (.tmp 15), none⟩, ⟨some 17, .bin 2 .mul (.tmp 11) (.tmp 16), none⟩, ⟨some 18, .fa 1 (.tmp 4), none⟩, ⟨some 19, .ld 2 1 false (.tmp 18), none⟩, ⟨some 20, .fa 1 (.tmp 3), none⟩, ⟨some 21, .ld 2 1 false (.tmp 20), none⟩, ⟨some 22, .bin 2 .sub (.tmp 19) (.tmp 21), none⟩, ⟨some 23, .fa 0 (.tmp 5), none⟩, ⟨some 24, .ld 2 1 false (.tmp 23), none⟩, ⟨some 25, .fa 0 (.tmp 3), none⟩, ⟨some 26, .ld 2 1 false (.tmp 25), none⟩, ⟨some 27, .bin 2 .sub (.tmp 24) (.tmp 26), none⟩, ⟨some 28, .bin 2 .mul (.tmp 22) (.tmp 27), none⟩, ⟨some 29, .bin 2 .sub (.tmp 17) (.tmp 28), none⟩, ⟨some 6, .mv (.tmp 29), none⟩]
def Xn60_2 : C := .seq Xn60_3 .ret
def Xn60_0 : C := .seq Xn60_1 Xn60_2
theorem Xt60 : Text Try.prog 60 Xn60_0 30 3 [.t 6] := ⟨⟨Try.f60, [3, 4, 5], Try.func60, by kernel_rfl, by kernel_rfl, by kernel_rfl, by kernel_rfl⟩⟩
def Xn61_1 : C := regL [0, 3] none [⟨some 3, .box true 113 (.tmp 1), none⟩, ⟨some 4, .mv (.const (.slice none 0 0)), none⟩]
def Xn61_3 : C := regL [0, 3, 5] none [⟨some 5, .alc 60 (.slice none 0 0), none⟩]
def Xn61_6 : C := regL [3, 5, 7] none [⟨some 7, .mv (.tmp 0), none⟩]
def Xn61_9 : C := regL [3, 5, 6] none [⟨some 6, .alc 59 (.agg #[.int .i64 0, .int .i64 0]), none⟩, ⟨none, .st 59 2 (.tmp 6) (.tmp 8), none⟩]
def Xn61_16 : C := regL [3, 5, 6, 28] (some [0, 1, 3, 7, 15, 15, 15, 79, 207, 495, 1007, 15, 15, 4111, 12303, 30735, 63503, 15, 262143, 524287]) [⟨some 9, .ld 60 1 false (.tmp 5), none⟩, ⟨some 10, .len (.tmp 9), none⟩, ⟨some 11, .bin 3 .geq (.tmp 10) (.const (.int .i64 2)), none⟩, ⟨some 12, .mv (.tmp 11), none⟩, ⟨some 13, .ld 113 1 false (.tmp 3), some (12, true)⟩, ⟨some 14, .ld 60 1 false (.tmp 5), some (12, true)⟩, ⟨some 15, .ld 60 1 false (.tmp 5), some (12, true)⟩, ⟨some 16, .len (.tmp 15), some (12, true)⟩, ⟨some 17, .bin 3 .sub (.tmp 16) (.const (.int .i64 2)), some (12, true)⟩, ⟨some 18, .ia 2 (.tmp 14) (.tmp 17), some (12, true)⟩, ⟨some 19, .ld 59 2 true (.tmp 18), some (12, true)⟩, ⟨some 20, .ld 60 1 false (.tmp 5), some (12, true)⟩, ⟨some 21, .ld 60 1 false (.tmp 5), some (12, true)⟩, ⟨some 22, .len (.tmp 21), some (12, true)⟩, ⟨some 23, .bin 3 .sub (.tmp 22) (.const (.int .i64 1)), some (12, true)⟩, ⟨some 24, .ia 2 (.tmp 20) (.tmp 23), some (12, true)⟩, ⟨some 25, .ld 59 2 true (.tmp 24), some (12, true)⟩, ⟨some 26, .ld 59 2 true (.tmp 6), some (12, true)⟩, ⟨some 27, .callv (.tmp 13) [.tmp 19, .tmp 25, .tmp 26], some (12, true)⟩, ⟨some 28, .pick 12 (.tmp 27) (.const (.bool false)), none⟩]
def Xn61_17 : C := .cond (.tmp 28) .skip (.exit 2)
def Xn61_15 : C := .seq Xn61_16 Xn61_17
def Xn61_21 : C := regL [3, 5, 6] none [⟨some 29, .ld 60 1 false (.tmp 5), none⟩, ⟨some 30, .ld 60 1 false (.tmp 5), none⟩, ⟨some 31, .len (.tmp 30), none⟩, ⟨some 32, .bin 3 .sub (.tmp 31) (.const (.int .i64 1)), none⟩, ⟨some 33, .slc 60 2 (.tmp 29) none (some (.tmp 32)), none⟩, ⟨none, .st 60 1 (.tmp 5) (.tmp 33), none⟩]
def Xn61_20 : C := .block 3 Xn61_21
def Xn61_14 : C := seqL [3, 5, 6] Xn61_15 Xn61_20
def Xn61_13 : C := loopL [3, 5, 6] Xn61_14
def Xn61_12 : C := .block 2 Xn61_13
def Xn61_22 : C := regL [] none [⟨some 34, .ld 60 1 false (.tmp 5), none⟩, ⟨some 35, .ld 59 2 true (.tmp 6), none⟩, ⟨some 36, .bls 59 2 1 (.agg #[.int .i64 0, .int .i64 0]) [(0, 2, .tmp 35)], none⟩, ⟨some 37, .app 59 2 16 (.tmp 34) (.tmp 36), none⟩, ⟨none, .st 60 1 (.tmp 5) (.tmp 37), none⟩]
def Xn61_11 : C := seqL [5, 6] Xn61_12 Xn61_22
def Xn61_10 : C := .block 1 Xn61_11
def Xn61_8 : C := .rfn (.tmp 7) [8] Xn61_9 Xn61_10
def Xn61_7 : C := .block 0 Xn61_8
def Xn61_5 : C := .seq Xn61_6 Xn61_7
def Xn61_24 : C := regL [4] none [⟨some 38, .ld 60 1 false (.tmp 5), none⟩, ⟨some 4, .mv (.tmp 38), none⟩]
def Xn61_23 : C := .seq Xn61_24 .ret
def Xn61_4 : C := seqL [5] Xn61_5 Xn61_23
def Xn61_2 : C := .seq Xn61_3 Xn61_4
def Xn61_0 : C := .seq Xn61_1 Xn61_2
theorem Xt61 : Text Try.prog 61 Xn61_0 39 2 [.t 4] := ⟨⟨Try.f61, [3], Try.func61, by kernel_rfl, by kernel_rfl, by kernel_rfl, by kernel_rfl⟩⟩
def Xn62_1 : C := regL [1] none [⟨some 1, .box true 60 (.tmp 0), none⟩, ⟨some 2, .mv (.const (.nilFunc)), none⟩]
def Xn62_3 : C := regL [2] none [⟨some 3, .mkf 75 [] [.tmp 1], none⟩, ⟨some 2, .mv (.tmp 3), none⟩]
def Xn62_2 : C := .seq Xn62_3 .ret
def Xn62_0 : C := .seq Xn62_1 Xn62_2
theorem Xt62 : Text Try.prog 62 Xn62_0 4 1 [.t 2] := ⟨⟨Try.f62, [1], Try.func62, by kernel_rfl, by kernel_rfl, by kernel_rfl, by kernel_rfl⟩⟩
def Xn63_1 : C := regL [0, 2, 3] none [⟨some 4, .mv (.tmp 0), none⟩, ⟨some 5, .len (.tmp 4), none⟩, ⟨some 6, .bin 3 .sub (.tmp 5) (.const (.int .i64 1)), none⟩, ⟨some 2, .mv (.const (.int .i64 0)), none⟩, ⟨some 3, .mv (.tmp 6), none⟩]
def Xn63_6 : C := regL [0, 2, 3, 9] none [⟨some 7, .mv (.tmp 2), none⟩, ⟨some 8, .mv (.tmp 3), none⟩, ⟨some 9, .bin 3 .lss (.tmp 7) (.tmp 8), none⟩]
def Xn63_7 : C := .cond (.tmp 9) .skip (.exit 0)
def Xn63_5 : C := .seq Xn63_6 Xn63_7
def Xn63_12 : C := regL [0, 2, 3] (some [0, 0, 0, 0, 0, 0, 48, 112, 0, 0, 768, 1792, 4083, 8179, 16383, 32767]) [⟨some 14, .mv (.tmp 0), none⟩, ⟨some 15, .mv (.tmp 2), none⟩, ⟨some 16, .mv (.tmp 0), none⟩, ⟨some 17, .mv (.tmp 3), none⟩, ⟨some 18, .mv (.tmp 0), none⟩, ⟨some 19, .mv (.tmp 3), none⟩, ⟨some 20, .ia 2 (.tmp 18) (.tmp 19), none⟩, ⟨some 21, .ld 59 2 true (.tmp 20), none⟩, ⟨some 22, .mv (.tmp 0), none⟩, ⟨some 23, .mv (.tmp 2), none⟩, ⟨some 24, .ia 2 (.tmp 22) (.tmp 23), none⟩, ⟨some 25, .ld 59 2 true (.tmp 24), none⟩, ⟨some 26, .ia 2 (.tmp 14) (.tmp 15), none⟩, ⟨none, .st 59 2 (.tmp 26) (.tmp 21), none⟩, ⟨some 27, .ia 2 (.tmp 16) (.tmp 17), none⟩, ⟨none, .st 59 2 (.tmp 27) (.tmp 25), none⟩]
def Xn63_11 : C := .block 1 Xn63_12
def Xn63_13 : C := regL [0, 2, 3] none [⟨some 10, .mv (.tmp 2), none⟩, ⟨some 11, .bin 3 .add (.tmp 10) (.const (.int .i64 1)), none⟩, ⟨some 12, .mv (.tmp 3), none⟩, ⟨some 13, .bin 3 .sub (.tmp 12) (.const (.int .i64 1)), none⟩, ⟨some 2, .mv (.tmp 11), none⟩, ⟨some 3, .mv (.tmp 13), none⟩]
def Xn63_10 : C := seqL [0, 2, 3] Xn63_11 Xn63_13
def Xn63_4 : C := seqL [0, 2, 3] Xn63_5 Xn63_10
def Xn63_3 : C := loopL [0, 2, 3] Xn63_4
def Xn63_2 : C := .block 0 Xn63_3
def Xn63_0 : C := .seq Xn63_1 Xn63_2
theorem Xt63 : Text Try.prog 63 Xn63_0 28 1 [] := ⟨⟨Try.f63, [], Try.func63, by kernel_rfl, by kernel_rfl, by kernel_rfl, by kernel_rfl⟩⟩
def Xn64_1 : C := regL [0, 1] none [⟨some 4, .mv (.const (.int .i64 0)), none⟩]
def Xn64_3 : C := regL [4] none [⟨some 5, .mv (.tmp 0), none⟩, ⟨some 6, .mv (.tmp 1), none⟩, ⟨some 7, .call 76 [.tmp 5, .tmp 6, .const (.bool true)], none⟩, ⟨some 4, .mv (.tmp 7), none⟩]
def Xn64_2 : C := .seq Xn64_3 .ret
def Xn64_0 : C := .seq Xn64_1 Xn64_2
theorem Xt64 : Text Try.prog 64 Xn64_0 8 2 [.t 4] := ⟨⟨Try.f64, [], Try.func64, by kernel_rfl, by kernel_rfl, by kernel_rfl, by kernel_rfl⟩⟩
def Xn65_1 : C := regL [0, 1] none [⟨some 4, .mv (.const (.int .i64 0)), none⟩]
def Xn65_4 : C := regL [0, 1, 7, 8] none [⟨some 6, .mv (.tmp 0), none⟩, ⟨some 7, .len (.tmp 6), none⟩, ⟨some 8, .mv (.const (.int .i64 0)), none⟩]
def Xn65_8 : C := regL [0, 1, 7, 8, 9] none [⟨some 9, .bin 3 .lss (.tmp 8) (.tmp 7), none⟩]
def Xn65_10 : C := .cond (.tmp 9) .skip (.exit 0)
def Xn65_16 : C := regL [0, 1, 5, 7, 8] none [⟨some 10, .mv (.tmp 8), none⟩, ⟨some 5, .mv (.tmp 10), none⟩]
def Xn65_18 : C := regL [0, 1, 5, 7, 8, 16] none [⟨some 11, .mv (.tmp 1), none⟩, ⟨some 12, .mv (.tmp 0), none⟩, ⟨some 13, .mv (.tmp 5), none⟩, ⟨some 14, .ia 1 (.tmp 12) (.tmp 13), none⟩, ⟨some 15, .ld 2 1 false (.tmp 14), none⟩, ⟨some 16, .callv (.tmp 11) [.tmp 15], none⟩]
def Xn65_21 : C := regL [4] none [⟨some 17, .mv (.tmp 5), none⟩, ⟨some 4, .mv (.tmp 17), none⟩]
def Xn65_20 : C := .seq Xn65_21 .ret
def Xn65_19 : C := .cond (.tmp 16) Xn65_20 .skip
def Xn65_17 : C := .seq Xn65_18 Xn65_19
def Xn65_15 : C := .seq Xn65_16 Xn65_17
def Xn65_14 : C := .block 1 Xn65_15
def Xn65_24 : C := regL [0, 1, 7, 8] none [⟨some 18, .bin 3 .add (.tmp 8) (.const (.int .i64 1)), none⟩, ⟨some 8, .mv (.tmp 18), none⟩]
def Xn65_13 : C := seqL [0, 1, 7, 8] Xn65_14 Xn65_24
def Xn65_9 : C := seqL [0, 1, 7, 8] Xn65_10 Xn65_13
def Xn65_7 : C := .seq Xn65_8 Xn65_9
def Xn65_6 : C := loopL [0, 1, 7, 8] Xn65_7
def Xn65_5 : C := .block 0 Xn65_6
def Xn65_3 : C := .seq Xn65_4 Xn65_5
def Xn65_26 : C := regL [4] none [⟨some 4, .mv (.const (.int .i64 (-1))), none⟩]
def Xn65_25 : C := .seq Xn65_26 .ret
def Xn65_2 : C := seqL [] Xn65_3 Xn65_25
def Xn65_0 : C := .seq Xn65_1 Xn65_2
theorem Xt65 : Text Try.prog 65 Xn65_0 19 2 [.t 4] := ⟨⟨Try.f65, [], Try.func65, by kernel_rfl, by kernel_rfl, by kernel_rfl, by kernel_rfl⟩⟩
def Xn66_1 : C := regL [0] none [⟨some 2, .mv (.const (.int .i64 0)), none⟩]
def Xn66_3 : C := regL [3, 4] none [⟨some 7, .mv (.tmp 0), none⟩, ⟨some 8, .cvt .u64 (.tmp 7), none⟩, ⟨some 3, .mv (.tmp 8), none⟩, ⟨some 4, .mv (.const (.int .u64 0)), none⟩]
def Xn66_6 : C := regL [3, 4, 9] none [⟨some 9, .mv (.const (.int .i64 0)), none⟩]
def Xn66_10 : C := regL [3, 4, 9, 10] none [⟨some 10, .bin 3 .lss (.tmp 9) (.const (.int .i64 32)), none⟩]
def Xn66_12 : C := .cond (.tmp 10) .skip (.exit 0)
def Xn66_18 : C := regL [3, 4, 5, 9] none [⟨some 11, .mv (.tmp 9), none⟩, ⟨some 5, .mv (.tmp 11), none⟩]
def Xn66_20 : C := regL [3, 4, 6, 9] none [⟨some 12, .mv (.tmp 5), none⟩, ⟨some 13, .bin 3 .mul (.const (.int .i64 2)) (.tmp 12), none⟩, ⟨some 14, .bin 3 .sub (.const (.int .i64 62)) (.tmp 13), none⟩, ⟨some 15, .bin 138 .shl (.const (.int .u64 1)) (.tmp 14), none⟩, ⟨some 6, .mv (.tmp 15), none⟩]
def Xn66_22 : C := regL [3, 4, 6, 9, 20] none [⟨some 16, .mv (.tmp 3), none⟩, ⟨some 17, .mv (.tmp 4), none⟩, ⟨some 18, .mv (.tmp 6), none⟩, ⟨some 19, .bin 138 .add (.tmp 17) (.tmp 18), none⟩, ⟨some 20, .bin 138 .geq (.tmp 16) (.tmp 19), none⟩]
def Xn66_25 : C := regL [3, 4, 6, 9] none [⟨some 21, .mv (.tmp 3), none⟩, ⟨some 22, .mv (.tmp 4), none⟩, ⟨some 23, .mv (.tmp 6), none⟩, ⟨some 24, .bin 138 .add (.tmp 22) (.tmp 23), none⟩, ⟨some 25, .bin 138 .sub (.tmp 21) (.tmp 24), none⟩, ⟨some 3, .mv (.tmp 25), none⟩]
def Xn66_26 : C := regL [3, 4, 9] none [⟨some 26, .mv (.tmp 4), none⟩, ⟨some 27, .bin 138 .shr (.tmp 26) (.const (.int .u64 1)), none⟩, ⟨some 28, .mv (.tmp 6), none⟩, ⟨some 29, .bin 138 .add (.tmp 27) (.tmp 28), none⟩, ⟨some 4, .mv (.tmp 29), none⟩]
def Xn66_24 : C := .seq Xn66_25 Xn66_26
def Xn66_27 : C := regL [3, 4, 9] none [⟨some 30, .mv (.tmp 4), none⟩, ⟨some 31, .bin 138 .shr (.tmp 30) (.const (.int .u64 1)), none⟩, ⟨some 4, .mv (.tmp 31), none⟩]
def Xn66_23 : C := .cond (.tmp 20) Xn66_24 Xn66_27
def Xn66_21 : C := .seq Xn66_22 Xn66_23
def Xn66_19 : C := .seq Xn66_20 Xn66_21
def Xn66_17 : C := .seq Xn66_18 Xn66_19
def Xn66_16 : C := .block 1 Xn66_17
def Xn66_28 : C := regL [3, 4, 9] none [⟨some 32, .bin 3 .add (.tmp 9) (.const (.int .i64 1)), none⟩, ⟨some 9, .mv (.tmp 32), none⟩]
def Xn66_15 : C := seqL [3, 4, 9] Xn66_16 Xn66_28
def Xn66_11 : C := seqL [3, 4, 9] Xn66_12 Xn66_15
def Xn66_9 : C := .seq Xn66_10 Xn66_11
def Xn66_8 : C := loopL [3, 4, 9] Xn66_9
def Xn66_7 : C := .block 0 Xn66_8
def Xn66_5 : C := .seq Xn66_6 Xn66_7
def Xn66_30 : C := regL [2] none [⟨some 33, .mv (.tmp 4), none⟩, ⟨some 34, .cvt .i64 (.tmp 33), none⟩, ⟨some 2, .mv (.tmp 34), none⟩]
def Xn66_29 : C := .seq Xn66_30 .ret
def Xn66_4 : C := seqL [4] Xn66_5 Xn66_29
def Xn66_2 : C := .seq Xn66_3 Xn66_4
def Xn66_0 : C := .seq Xn66_1 Xn66_2
theorem Xt66 : Text Try.prog 66 Xn66_0 35 1 [.t 2] := ⟨⟨Try.f66, [], Try.func66, by kernel_rfl, by kernel_rfl, by kernel_rfl, by kernel_rfl⟩⟩
def Xn67_1 : C := regL [1, 2] none [⟨some 1, .box true 59 (.tmp 0), none⟩, ⟨some 2, .alc 59 (.agg #[.int .i64 0, .int .i64 0]), none⟩, ⟨some 3, .mv (.const (.int .i64 0)), none⟩]
def Xn67_4 : C := regL [1, 2, 7] none [⟨some 4, .ld 59 2 true (.tmp 1), none⟩, ⟨some 5, .bls 59 2 1 (.agg #[.int .i64 0, .int .i64 0]) [(0, 2, .tmp 4)], none⟩, ⟨some 6, .call 49 [.tmp 5], none⟩, ⟨some 7, .un .not (.tmp 6), none⟩]
def Xn67_7 : C := regL [2, 3] none [⟨some 8, .bld (.agg #[.int .i64 0, .int .i64 0]) [], none⟩, ⟨none, .st 59 2 (.tmp 2) (.tmp 8), none⟩, ⟨some 3, .mv (.const (.int .i64 4)), none⟩]
def Xn67_6 : C := .seq Xn67_7 .ret
def Xn67_5 : C := .cond (.tmp 7) Xn67_6 .skip
def Xn67_3 : C := .seq Xn67_4 Xn67_5
def Xn67_11 : C := regL [2, 3] none [⟨some 9, .ld 59 2 true (.tmp 1), none⟩, ⟨none, .st 59 2 (.tmp 2) (.tmp 9), none⟩, ⟨some 3, .mv (.const (.int .i64 0)), none⟩]
def Xn67_10 : C := .seq Xn67_11 .ret
def Xn67_2 : C := seqL [1, 2] Xn67_3 Xn67_10
def Xn67_0 : C := .seq Xn67_1 Xn67_2
theorem Xt67 : Text Try.prog 67 Xn67_0 10 1 [.c 2 2 true, .t 3] := ⟨⟨Try.f67, [1], Try.func67, by kernel_rfl, by kernel_rfl, by kernel_rfl, by kernel_rfl⟩⟩
def Xn68_1 : C := regL [0, 1] none [⟨some 4, .mv (.const (.int .i64 0)), none⟩]
def Xn68_3 : C := regL [0, 1, 5] none [⟨some 6, .mv (.tmp 0), none⟩, ⟨some 7, .mv (.tmp 1), none⟩, ⟨some 8, .call 77 [.tmp 6, .tmp 7], none⟩, ⟨some 5, .mv (.tmp 8), none⟩]
def Xn68_6 : C := regL [5, 21] none [⟨some 9, .mv (.tmp 0), none⟩, ⟨some 10, .mv (.tmp 5), none⟩, ⟨some 11, .mv (.tmp 1), none⟩, ⟨some 12, .bin 2 .mul (.tmp 10) (.tmp 11), none⟩, ⟨some 13, .bin 2 .sub (.tmp 9) (.tmp 12), none⟩, ⟨some 14, .mv (.tmp 1), none⟩, ⟨some 15, .mv (.tmp 0), none⟩, ⟨some 16, .mv (.tmp 5), none⟩, ⟨some 17, .mv (.tmp 1), none⟩, ⟨some 18, .bin 2 .mul (.tmp 16) (.tmp 17), none⟩, ⟨some 19, .bin 2 .sub (.tmp 15) (.tmp 18), none⟩, ⟨some 20, .bin 2 .sub (.tmp 14) (.tmp 19), none⟩, ⟨some 21, .bin 2 .geq (.tmp 13) (.tmp 20), none⟩]
def Xn68_8 : C := regL [5] none [⟨some 22, .mv (.tmp 5), none⟩, ⟨some 23, .bin 2 .add (.tmp 22) (.const (.int .i64 1)), none⟩, ⟨some 5, .mv (.tmp 23), none⟩]
def Xn68_7 : C := .cond (.tmp 21) Xn68_8 .skip
def Xn68_5 : C := .seq Xn68_6 Xn68_7
def Xn68_11 : C := regL [4] none [⟨some 24, .mv (.tmp 5), none⟩, ⟨some 4, .mv (.tmp 24), none⟩]
def Xn68_10 : C := .seq Xn68_11 .ret
def Xn68_4 : C := seqL [5] Xn68_5 Xn68_10
def Xn68_2 : C := .seq Xn68_3 Xn68_4
def Xn68_0 : C := .seq Xn68_1 Xn68_2
theorem Xt68 : Text Try.prog 68 Xn68_0 25 2 [.t 4] := ⟨⟨Try.f68, [], Try.func68, by kernel_rfl, by kernel_rfl, by kernel_rfl, by kernel_rfl⟩⟩
def Xn69_1 : C := regL [0] none [⟨some 2, .mv (.const (.slice none 0 0)), none⟩]
def Xn69_3 : C := regL [2] none [⟨some 3, .mv (.tmp 0), none⟩, ⟨some 4, .call 78 [.const (.slice none 0 0), .tmp 3], none⟩, ⟨some 2, .mv (.tmp 4), none⟩]
def Xn69_2 : C := .seq Xn69_3 .ret
def Xn69_0 : C := .seq Xn69_1 Xn69_2
theorem Xt69 : Text Try.prog 69 Xn69_0 5 1 [.t 2] := ⟨⟨Try.f69, [], Try.func69, by kernel_rfl, by kernel_rfl, by kernel_rfl, by kernel_rfl⟩⟩
def Xn70_1 : C := regL [1] none [⟨some 1, .box true 128 (.tmp 0), none⟩, ⟨some 2, .mv (.const (.nilFunc)), none⟩]
def Xn70_3 : C := regL [2] none [⟨some 3, .mkf 79 [] [.tmp 1], none⟩, ⟨some 2, .mv (.tmp 3), none⟩]
def Xn70_2 : C := .seq Xn70_3 .ret
def Xn70_0 : C := .seq Xn70_1 Xn70_2
theorem Xt70 : Text Try.prog 70 Xn70_0 4 1 [.t 2] := ⟨⟨Try.f70, [1], Try.func70, by kernel_rfl, by kernel_rfl, by kernel_rfl, by kernel_rfl⟩⟩
def Xn71_1 : C := regL [1] none [⟨some 1, .box true 92 (.tmp 0), none⟩, ⟨some 2, .mv (.const (.int .i64 0)), none⟩, ⟨some 3, .mv (.const (.bool false)), none⟩, ⟨some 4, .mv (.const (.bool false)), none⟩]
def Xn71_3 : C := regL [1, 4] none [⟨some 9, .fa 0 (.tmp 1), none⟩, ⟨some 10, .ld 2 1 false (.tmp 9), none⟩, ⟨some 11, .bin 2 .lss (.tmp 10) (.const (.int .i64 0)), none⟩, ⟨some 12, .fa 1 (.tmp 1), none⟩, ⟨some 13, .ld 2 1 false (.tmp 12), none⟩, ⟨some 14, .bin 2 .lss (.tmp 13) (.const (.int .i64 0)), none⟩, ⟨some 15, .eqb 4 true (.tmp 11) (.tmp 14), none⟩, ⟨some 4, .mv (.tmp 15), none⟩]
def Xn71_5 : C := regL [1, 4, 5, 6] none [⟨some 17, .fa 0 (.tmp 1), none⟩, ⟨some 18, .ld 2 1 false (.tmp 17), none⟩, ⟨some 19, .fa 0 (.tmp 1), none⟩, ⟨some 20, .ld 2 1 false (.tmp 19), none⟩, ⟨some 21, .un .neg (.tmp 20), none⟩, ⟨some 22, .mx [.tmp 18, .tmp 21], none⟩, ⟨some 23, .cvt .u64 (.tmp 22), none⟩, ⟨some 24, .fa 1 (.tmp 1), none⟩, ⟨some 25, .ld 2 1 false (.tmp 24), none⟩, ⟨some 26, .fa 1 (.tmp 1), none⟩, ⟨some 27, .ld 2 1 false (.tmp 26), none⟩, ⟨some 28, .un .neg (.tmp 27), none⟩, ⟨some 29, .mx [.tmp 25, .tmp 28], none⟩, ⟨some 30, .cvt .u64 (.tmp 29), none⟩, ⟨some 31, .call 80 [.tmp 23, .tmp 30], none⟩, ⟨some 16, .mv (.tmp 31), none⟩, ⟨some 32, .ext 0 (.tmp 16), none⟩, ⟨some 33, .ext 1 (.tmp 16), none⟩, ⟨some 5, .mv (.tmp 32), none⟩, ⟨some 6, .mv (.tmp 33), none⟩]
def Xn71_7 : C := regL [4, 7, 8] none [⟨some 35, .mv (.tmp 5), none⟩, ⟨some 36, .mv (.tmp 6), none⟩, ⟨some 37, .fa 2 (.tmp 1), none⟩, ⟨some 38, .ld 2 1 false (.tmp 37), none⟩, ⟨some 39, .cvt .u64 (.tmp 38), none⟩, ⟨some 40, .call 81 [.tmp 35, .tmp 36, .tmp 39], none⟩, ⟨some 34, .mv (.tmp 40), none⟩, ⟨some 41, .ext 0 (.tmp 34), none⟩, ⟨some 42, .ext 1 (.tmp 34), none⟩, ⟨some 7, .mv (.tmp 41), none⟩, ⟨some 8, .mv (.tmp 42), none⟩]
def Xn71_9 : C := regL [2, 3, 4] none [⟨some 43, .mv (.tmp 7), none⟩, ⟨some 44, .cvt .i64 (.tmp 43), none⟩, ⟨some 45, .mv (.tmp 8), none⟩, ⟨some 46, .bin 138 .gtr (.tmp 45) (.const (.int .u64 0)), none⟩, ⟨some 47, .mv (.tmp 4), none⟩, ⟨some 2, .mv (.tmp 44), none⟩, ⟨some 3, .mv (.tmp 46), none⟩, ⟨some 4, .mv (.tmp 47), none⟩]
def Xn71_8 : C := .seq Xn71_9 .ret
def Xn71_6 : C := .seq Xn71_7 Xn71_8
def Xn71_4 : C := .seq Xn71_5 Xn71_6
def Xn71_2 : C := .seq Xn71_3 Xn71_4
def Xn71_0 : C := .seq Xn71_1 Xn71_2
theorem Xt71 : Text Try.prog 71 Xn71_0 48 1 [.t 2, .t 3, .t 4] := ⟨⟨Try.f71, [1], Try.func71, by kernel_rfl, by kernel_rfl, by kernel_rfl, by kernel_rfl⟩⟩
def Xn72_1 : C := regL [0, 1, 2, 3, 4, 10] none [⟨some 10, .mv (.const (.bool true)), none⟩]
def Xn72_3 : C := regL [0, 1, 2, 3, 4, 10, 11] none [⟨some 11, .mv (.const (.bool true)), none⟩]
def Xn72_8 : C := regL [0, 1, 2, 3, 4, 10, 11, 12] none [⟨some 21, .mv (.tmp 2), none⟩, ⟨some 22, .mv (.tmp 1), none⟩, ⟨some 23, .bin 3 .sub (.tmp 21) (.tmp 22), none⟩, ⟨some 12, .mv (.tmp 23), none⟩]
def Xn72_11 : C := regL [0, 1, 2, 3, 4, 10, 11, 12, 25] none [⟨some 24, .mv (.tmp 12), none⟩, ⟨some 25, .bin 3 .leq (.tmp 24) (.const (.int .i64 12)), none⟩]
def Xn72_14 : C := regL [] none [⟨some 26, .mv (.tmp 0), none⟩, ⟨some 27, .mv (.tmp 1), none⟩, ⟨some 28, .mv (.tmp 2), none⟩, ⟨some 29, .mv (.tmp 4), none⟩, ⟨some 30, .call 82 [.tmp 26, .tmp 27, .tmp 28, .tmp 29], none⟩]
def Xn72_13 : C := .seq Xn72_14 .ret
def Xn72_12 : C := .cond (.tmp 25) Xn72_13 .skip
def Xn72_10 : C := .seq Xn72_11 Xn72_12
def Xn72_19 : C := regL [0, 1, 2, 3, 4, 10, 11, 12, 32] none [⟨some 31, .mv (.tmp 3), none⟩, ⟨some 32, .bin 3 .eql (.tmp 31) (.const (.int .i64 0)), none⟩]
def Xn72_22 : C := regL [] none [⟨some 33, .mv (.tmp 0), none⟩, ⟨some 34, .mv (.tmp 1), none⟩, ⟨some 35, .mv (.tmp 2), none⟩, ⟨some 36, .mv (.tmp 4), none⟩, ⟨some 37, .call 83 [.tmp 33, .tmp 34, .tmp 35, .tmp 36], none⟩]
def Xn72_21 : C := .seq Xn72_22 .ret
def Xn72_20 : C := .cond (.tmp 32) Xn72_21 .skip
def Xn72_18 : C := .seq Xn72_19 Xn72_20
def Xn72_27 : C := regL [0, 1, 2, 3, 4, 10, 11, 12, 39] none [⟨some 38, .mv (.tmp 10), none⟩, ⟨some 39, .un .not (.tmp 38), none⟩]
def Xn72_30 : C := regL [0, 1, 2, 3, 4, 10, 11, 12] none [⟨some 40, .mv (.tmp 0), none⟩, ⟨some 41, .mv (.tmp 1), none⟩, ⟨some 42, .mv (.tmp 2), none⟩, ⟨some 43, .mv (.tmp 4), none⟩, ⟨some 44, .call 84 [.tmp 40, .tmp 41, .tmp 42, .tmp 43], none⟩]
def Xn72_31 : C := regL [0, 1, 2, 3, 4, 10, 11, 12] none [⟨some 45, .mv (.tmp 3), none⟩, ⟨some 46, .bin 3 .sub (.tmp 45) (.const (.int .i64 1)), none⟩, ⟨some 3, .mv (.tmp 46), none⟩]
def Xn72_29 : C := .seq Xn72_30 Xn72_31
def Xn72_28 : C := .cond (.tmp 39) Xn72_29 .skip
def Xn72_26 : C := .seq Xn72_27 Xn72_28
def Xn72_34 : C := regL [0, 1, 2, 3, 4, 10, 11, 12, 13, 14] none [⟨some 48, .mv (.tmp 0), none⟩, ⟨some 49, .mv (.tmp 1), none⟩, ⟨some 50, .mv (.tmp 2), none⟩, ⟨some 51, .mv (.tmp 4), none⟩, ⟨some 52, .call 85 [.tmp 48, .tmp 49, .tmp 50, .tmp 51], none⟩, ⟨some 47, .mv (.tmp 52), none⟩, ⟨some 53, .ext 0 (.tmp 47), none⟩, ⟨some 54, .ext 1 (.tmp 47), none⟩, ⟨some 13, .mv (.tmp 53), none⟩, ⟨some 14, .mv (.tmp 54), none⟩]
def Xn72_37 : C := regL [0, 1, 2, 3, 4, 10, 11, 12, 13, 14, 56] none [⟨some 55, .mv (.tmp 14), none⟩, ⟨some 56, .bin 145 .eql (.tmp 55) (.const (.int .i64 2)), none⟩]
def Xn72_40 : C := regL [0, 1, 2, 3, 4, 10, 11, 12, 13] none [⟨some 57, .mv (.tmp 0), none⟩, ⟨some 58, .mv (.tmp 1), none⟩, ⟨some 59, .mv (.tmp 2), none⟩, ⟨some 60, .mv (.tmp 4), none⟩, ⟨some 61, .call 86 [.tmp 57, .tmp 58, .tmp 59, .tmp 60], none⟩]
def Xn72_42 : C := regL [0, 1, 2, 3, 4, 10, 11, 12, 13] none [⟨some 62, .mv (.tmp 2), none⟩, ⟨some 63, .bin 3 .sub (.tmp 62) (.const (.int .i64 1)), none⟩, ⟨some 64, .mv (.tmp 13), none⟩, ⟨some 65, .mv (.tmp 1), none⟩, ⟨some 66, .bin 3 .sub (.tmp 64) (.tmp 65), none⟩, ⟨some 67, .bin 3 .sub (.tmp 63) (.tmp 66), none⟩, ⟨some 13, .mv (.tmp 67), none⟩]
def Xn72_43 : C := regL [0, 1, 2, 3, 4, 10, 11, 12, 13, 14] none [⟨some 14, .mv (.const (.int .i64 1)), none⟩]
def Xn72_41 : C := .seq Xn72_42 Xn72_43
def Xn72_39 : C := .seq Xn72_40 Xn72_41
def Xn72_38 : C := .cond (.tmp 56) Xn72_39 .skip
def Xn72_36 : C := .seq Xn72_37 Xn72_38
def Xn72_47 : C := regL [0, 1, 2, 3, 4, 10, 11, 12, 13, 75] none [⟨some 68, .mv (.tmp 10), none⟩, ⟨some 69, .mv (.tmp 68), none⟩, ⟨some 70, .mv (.tmp 11), some (69, true)⟩, ⟨some 71, .pick 69 (.tmp 70) (.const (.bool false)), none⟩, ⟨some 72, .mv (.tmp 71), none⟩, ⟨some 73, .mv (.tmp 14), some (72, true)⟩, ⟨some 74, .bin 145 .eql (.tmp 73) (.const (.int .i64 1)), some (72, true)⟩, ⟨some 75, .pick 72 (.tmp 74) (.const (.bool false)), none⟩]
def Xn72_50 : C := regL [0, 1, 2, 3, 4, 10, 11, 12, 13, 80] none [⟨some 76, .mv (.tmp 0), none⟩, ⟨some 77, .mv (.tmp 1), none⟩, ⟨some 78, .mv (.tmp 2), none⟩, ⟨some 79, .mv (.tmp 4), none⟩, ⟨some 80, .call 87 [.tmp 76, .tmp 77, .tmp 78, .tmp 79], none⟩]
def Xn72_51 : C := .cond (.tmp 80) .ret .skip
def Xn72_49 : C := .seq Xn72_50 Xn72_51
def Xn72_48 : C := .cond (.tmp 75) Xn72_49 .skip
def Xn72_46 : C := .seq Xn72_47 Xn72_48
def Xn72_57 : C := regL [0, 1, 2, 3, 4, 10, 11, 12, 13, 97] (some [0, 1, 3, 7, 7, 7, 39, 119, 247, 7, 7, 1543, 3591, 8191, 16383, 32767, 65535]) [⟨some 81, .mv (.tmp 1), none⟩, ⟨some 82, .bin 3 .gtr (.tmp 81) (.const (.int .i64 0)), none⟩, ⟨some 83, .mv (.tmp 82), none⟩, ⟨some 84, .mv (.tmp 4), some (83, true)⟩, ⟨some 85, .mv (.tmp 0), some (83, true)⟩, ⟨some 86, .mv (.tmp 1), some (83, true)⟩, ⟨some 87, .bin 3 .sub (.tmp 86) (.const (.int .i64 1)), some (83, true)⟩, ⟨some 88, .ia 2 (.tmp 85) (.tmp 87), some (83, true)⟩, ⟨some 89, .ld 59 2 true (.tmp 88), some (83, true)⟩, ⟨some 90, .mv (.tmp 0), some (83, true)⟩, ⟨some 91, .mv (.tmp 13), some (83, true)⟩, ⟨some 92, .ia 2 (.tmp 90) (.tmp 91), some (83, true)⟩, ⟨some 93, .ld 59 2 true (.tmp 92), some (83, true)⟩, ⟨some 94, .callv (.tmp 84) [.tmp 89, .tmp 93], some (83, true)⟩, ⟨some 95, .bin 3 .lss (.tmp 94) (.const (.int .i64 0)), some (83, true)⟩, ⟨some 96, .un .not (.tmp 95), some (83, true)⟩, ⟨some 97, .pick 83 (.tmp 96) (.const (.bool false)), none⟩]
def Xn72_60 : C := regL [0, 2, 3, 4, 10, 11, 15] none [⟨some 98, .mv (.tmp 0), none⟩, ⟨some 99, .mv (.tmp 1), none⟩, ⟨some 100, .mv (.tmp 2), none⟩, ⟨some 101, .mv (.tmp 13), none⟩, ⟨some 102, .mv (.tmp 4), none⟩, ⟨some 103, .call 88 [.tmp 98, .tmp 99, .tmp 100, .tmp 101, .tmp 102], none⟩, ⟨some 15, .mv (.tmp 103), none⟩]
def Xn72_62 : C := regL [0, 1, 2, 3, 4, 10, 11] none [⟨some 104, .mv (.tmp 15), none⟩, ⟨some 1, .mv (.tmp 104), none⟩]
def Xn72_61 : C := .seq Xn72_62 (.exit 1)
def Xn72_59 : C := .seq Xn72_60 Xn72_61
def Xn72_58 : C := .cond (.tmp 97) Xn72_59 .skip
def Xn72_56 : C := .seq Xn72_57 Xn72_58
def Xn72_66 : C := regL [0, 1, 2, 3, 4, 12, 16, 17] none [⟨some 106, .mv (.tmp 0), none⟩, ⟨some 107, .mv (.tmp 1), none⟩, ⟨some 108, .mv (.tmp 2), none⟩, ⟨some 109, .mv (.tmp 13), none⟩, ⟨some 110, .mv (.tmp 4), none⟩, ⟨some 111, .call 89 [.tmp 106, .tmp 107, .tmp 108, .tmp 109, .tmp 110], none⟩, ⟨some 105, .mv (.tmp 111), none⟩, ⟨some 112, .ext 0 (.tmp 105), none⟩, ⟨some 113, .ext 1 (.tmp 105), none⟩, ⟨some 16, .mv (.tmp 112), none⟩, ⟨some 17, .mv (.tmp 113), none⟩]
def Xn72_68 : C := regL [0, 1, 2, 3, 4, 11, 12, 16] none [⟨some 114, .mv (.tmp 17), none⟩, ⟨some 11, .mv (.tmp 114), none⟩]
def Xn72_70 : C := regL [0, 1, 2, 3, 4, 11, 12, 16, 18, 19] none [⟨some 115, .mv (.tmp 16), none⟩, ⟨some 116, .mv (.tmp 1), none⟩, ⟨some 117, .bin 3 .sub (.tmp 115) (.tmp 116), none⟩, ⟨some 118, .mv (.tmp 2), none⟩, ⟨some 119, .mv (.tmp 16), none⟩, ⟨some 120, .bin 3 .sub (.tmp 118) (.tmp 119), none⟩, ⟨some 18, .mv (.tmp 117), none⟩, ⟨some 19, .mv (.tmp 120), none⟩]
def Xn72_72 : C := regL [0, 1, 2, 3, 4, 11, 16, 18, 19, 20] none [⟨some 121, .mv (.tmp 12), none⟩, ⟨some 122, .bin 3 .quo (.tmp 121) (.const (.int .i64 8)), none⟩, ⟨some 20, .mv (.tmp 122), none⟩]
def Xn72_74 : C := regL [0, 1, 2, 3, 4, 11, 16, 18, 19, 20, 125] none [⟨some 123, .mv (.tmp 18), none⟩, ⟨some 124, .mv (.tmp 19), none⟩, ⟨some 125, .bin 3 .lss (.tmp 123) (.tmp 124), none⟩]
def Xn72_77 : C := regL [0, 1, 2, 3, 4, 10, 11, 16] none [⟨some 126, .mv (.tmp 18), none⟩, ⟨some 127, .mv (.tmp 20), none⟩, ⟨some 128, .bin 3 .geq (.tmp 126) (.tmp 127), none⟩, ⟨some 10, .mv (.tmp 128), none⟩]
def Xn72_79 : C := regL [0, 2, 3, 4, 10, 11, 16] none [⟨some 129, .mv (.tmp 0), none⟩, ⟨some 130, .mv (.tmp 1), none⟩, ⟨some 131, .mv (.tmp 16), none⟩, ⟨some 132, .mv (.tmp 3), none⟩, ⟨some 133, .mv (.tmp 4), none⟩, ⟨some 134, .call 72 [.tmp 129, .tmp 130, .tmp 131, .tmp 132, .tmp 133], none⟩]
def Xn72_80 : C := regL [0, 1, 2, 3, 4, 10, 11] none [⟨some 135, .mv (.tmp 16), none⟩, ⟨some 136, .bin 3 .add (.tmp 135) (.const (.int .i64 1)), none⟩, ⟨some 1, .mv (.tmp 136), none⟩]
def Xn72_78 : C := .seq Xn72_79 Xn72_80
def Xn72_76 : C := .seq Xn72_77 Xn72_78
def Xn72_82 : C := regL [0, 1, 2, 3, 4, 10, 11, 16] none [⟨some 137, .mv (.tmp 19), none⟩, ⟨some 138, .mv (.tmp 20), none⟩, ⟨some 139, .bin 3 .geq (.tmp 137) (.tmp 138), none⟩, ⟨some 10, .mv (.tmp 139), none⟩]
def Xn72_84 : C := regL [0, 1, 3, 4, 10, 11, 16] none [⟨some 140, .mv (.tmp 0), none⟩, ⟨some 141, .mv (.tmp 16), none⟩, ⟨some 142, .bin 3 .add (.tmp 141) (.const (.int .i64 1)), none⟩, ⟨some 143, .mv (.tmp 2), none⟩, ⟨some 144, .mv (.tmp 3), none⟩, ⟨some 145, .mv (.tmp 4), none⟩, ⟨some 146, .call 72 [.tmp 140, .tmp 142, .tmp 143, .tmp 144, .tmp 145], none⟩]
def Xn72_85 : C := regL [0, 1, 2, 3, 4, 10, 11] none [⟨some 147, .mv (.tmp 16), none⟩, ⟨some 2, .mv (.tmp 147), none⟩]
def Xn72_83 : C := .seq Xn72_84 Xn72_85
def Xn72_81 : C := .seq Xn72_82 Xn72_83
def Xn72_75 : C := .cond (.tmp 125) Xn72_76 Xn72_81
def Xn72_73 : C := .seq Xn72_74 Xn72_75
def Xn72_71 : C := .seq Xn72_72 Xn72_73
def Xn72_69 : C := .seq Xn72_70 Xn72_71
def Xn72_67 : C := .seq Xn72_68 Xn72_69
def Xn72_65 : C := .seq Xn72_66 Xn72_67
def Xn72_55 : C := seqL [0, 1, 2, 3, 4, 12, 13] Xn72_56 Xn72_65
def Xn72_45 : C := seqL [0, 1, 2, 3, 4, 10, 11, 12, 13] Xn72_46 Xn72_55
def Xn72_35 : C := seqL [0, 1, 2, 3, 4, 10, 11, 12, 13, 14] Xn72_36 Xn72_45
def Xn72_33 : C := .seq Xn72_34 Xn72_35
def Xn72_25 : C := seqL [0, 1, 2, 3, 4, 10, 11, 12] Xn72_26 Xn72_33
def Xn72_17 : C := seqL [0, 1, 2, 3, 4, 10, 11, 12] Xn72_18 Xn72_25
def Xn72_9 : C := seqL [0, 1, 2, 3, 4, 10, 11, 12] Xn72_10 Xn72_17
def Xn72_7 : C := .seq Xn72_8 Xn72_9
def Xn72_6 : C := .block 1 Xn72_7
def Xn72_5 : C := loopL [0, 1, 2, 3, 4, 10, 11] Xn72_6
def Xn72_4 : C := .block 0 Xn72_5
def Xn72_2 : C := .seq Xn72_3 Xn72_4
def Xn72_0 : C := .seq Xn72_1 Xn72_2
theorem Xt72 : Text Try.prog 72 Xn72_0 148 5 [] := ⟨⟨Try.f72, [], Try.func72, by kernel_rfl, by kernel_rfl, by kernel_rfl, by kernel_rfl⟩⟩
def Xn73_1 : C := regL [0] none [⟨some 2, .mv (.const (.int .i64 0)), none⟩]
def Xn73_5 : C := regL [2] none [⟨some 3, .mv (.tmp 0), none⟩, ⟨some 4, .cvt .u32 (.tmp 3), none⟩, ⟨some 5, .call 90 [.tmp 4], none⟩, ⟨some 2, .mv (.tmp 5), none⟩]
def Xn73_4 : C := .seq Xn73_5 .ret
def Xn73_3 : C := .cond (.const (.bool false)) Xn73_4 .skip
def Xn73_9 : C := regL [2] none [⟨some 6, .mv (.tmp 0), none⟩, ⟨some 7, .call 91 [.tmp 6], none⟩, ⟨some 2, .mv (.tmp 7), none⟩]
def Xn73_8 : C := .seq Xn73_9 .ret
def Xn73_2 : C := seqL [0] Xn73_3 Xn73_8
def Xn73_0 : C := .seq Xn73_1 Xn73_2
theorem Xt73 : Text Try.prog 73 Xn73_0 8 1 [.t 2] := ⟨⟨Try.f73, [], Try.func73, by kernel_rfl, by kernel_rfl, by kernel_rfl, by kernel_rfl⟩⟩
def Xn74_1 : C := regL [0, 1] none [⟨some 4, .mv (.const (.int .i64 0)), none⟩]
def Xn74_3 : C := regL [0, 1, 5] none [⟨some 7, .mv (.tmp 0), none⟩, ⟨some 8, .call 92 [.tmp 7], none⟩, ⟨some 5, .mv (.tmp 8), none⟩]
def Xn74_5 : C := regL [0, 1, 5, 6] none [⟨some 9, .mv (.tmp 1), none⟩, ⟨some 10, .call 92 [.tmp 9], none⟩, ⟨some 6, .mv (.tmp 10), none⟩]
def Xn74_8 : C := regL [0, 1, 6, 11] none [⟨some 11, .mv (.tmp 5), none⟩]
def Xn74_12 : C := regL [12] none [⟨some 12, .mv (.tmp 6), none⟩]
def Xn74_15 : C := regL [4] none [⟨some 4, .mv (.const (.int .i64 0)), none⟩]
def Xn74_14 : C := .seq Xn74_15 .ret
def Xn74_13 : C := .cond (.tmp 12) Xn74_14 .skip
def Xn74_11 : C := .seq Xn74_12 Xn74_13
def Xn74_19 : C := regL [4] none [⟨some 4, .mv (.const (.int .i64 (-1))), none⟩]
def Xn74_18 : C := .seq Xn74_19 .ret
def Xn74_10 : C := seqL [] Xn74_11 Xn74_18
def Xn74_9 : C := .cond (.tmp 11) Xn74_10 .skip
def Xn74_7 : C := .seq Xn74_8 Xn74_9
def Xn74_24 : C := regL [0, 1, 13] none [⟨some 13, .mv (.tmp 6), none⟩]
def Xn74_27 : C := regL [4] none [⟨some 4, .mv (.const (.int .i64 1)), none⟩]
def Xn74_26 : C := .seq Xn74_27 .ret
def Xn74_25 : C := .cond (.tmp 13) Xn74_26 .skip
def Xn74_23 : C := .seq Xn74_24 Xn74_25
def Xn74_32 : C := regL [0, 1, 16] none [⟨some 14, .mv (.tmp 0), none⟩, ⟨some 15, .mv (.tmp 1), none⟩, ⟨some 16, .bin 2 .lss (.tmp 14) (.tmp 15), none⟩]
def Xn74_35 : C := regL [4] none [⟨some 4, .mv (.const (.int .i64 (-1))), none⟩]
def Xn74_34 : C := .seq Xn74_35 .ret
def Xn74_33 : C := .cond (.tmp 16) Xn74_34 .skip
def Xn74_31 : C := .seq Xn74_32 Xn74_33
def Xn74_40 : C := regL [19] none [⟨some 17, .mv (.tmp 0), none⟩, ⟨some 18, .mv (.tmp 1), none⟩, ⟨some 19, .bin 2 .gtr (.tmp 17) (.tmp 18), none⟩]
def Xn74_43 : C := regL [4] none [⟨some 4, .mv (.const (.int .i64 1)), none⟩]
def Xn74_42 : C := .seq Xn74_43 .ret
def Xn74_41 : C := .cond (.tmp 19) Xn74_42 .skip
def Xn74_39 : C := .seq Xn74_40 Xn74_41
def Xn74_47 : C := regL [4] none [⟨some 4, .mv (.const (.int .i64 0)), none⟩]
def Xn74_46 : C := .seq Xn74_47 .ret
def Xn74_38 : C := seqL [] Xn74_39 Xn74_46
def Xn74_30 : C := seqL [0, 1] Xn74_31 Xn74_38
def Xn74_22 : C := seqL [0, 1] Xn74_23 Xn74_30
def Xn74_6 : C := seqL [0, 1, 6] Xn74_7 Xn74_22
def Xn74_4 : C := .seq Xn74_5 Xn74_6
def Xn74_2 : C := .seq Xn74_3 Xn74_4
def Xn74_0 : C := .seq Xn74_1 Xn74_2
theorem Xt74 : Text Try.prog 74 Xn74_0 20 2 [.t 4] := ⟨⟨Try.f74, [], Try.func74, by kernel_rfl, by kernel_rfl, by kernel_rfl, by kernel_rfl⟩⟩
def Xn75_1 : C := regL [0, 5, 6, 7] none [⟨some 5, .ld 60 1 false (.tmp 1), none⟩, ⟨some 6, .len (.tmp 5), none⟩, ⟨some 7, .mv (.const (.int .i64 0)), none⟩]
def Xn75_5 : C := regL [0, 5, 6, 7, 8] none [⟨some 8, .bin 3 .lss (.tmp 7) (.tmp 6), none⟩]
def Xn75_7 : C := .cond (.tmp 8) .skip (.exit 0)
def Xn75_13 : C := regL [0, 4, 5, 6, 7] none [⟨some 9, .ia 2 (.tmp 5) (.tmp 7), none⟩, ⟨some 10, .ld 59 2 true (.tmp 9), none⟩, ⟨some 4, .alc 59 (.agg #[.int .i64 0, .int .i64 0]), none⟩, ⟨none, .st 59 2 (.tmp 4) (.tmp 10), none⟩]
def Xn75_15 : C := regL [0, 5, 6, 7, 14] none [⟨some 11, .mv (.tmp 0), none⟩, ⟨some 12, .ld 59 2 true (.tmp 4), none⟩, ⟨some 13, .callv (.tmp 11) [.tmp 12], none⟩, ⟨some 14, .un .not (.tmp 13), none⟩]
def Xn75_16 : C := .cond (.tmp 14) .ret .skip
def Xn75_14 : C := .seq Xn75_15 Xn75_16
def Xn75_12 : C := .seq Xn75_13 Xn75_14
def Xn75_11 : C := .block 1 Xn75_12
def Xn75_19 : C := regL [0, 5, 6, 7] none [⟨some 15, .bin 3 .add (.tmp 7) (.const (.int .i64 1)), none⟩, ⟨some 7, .mv (.tmp 15), none⟩]
def Xn75_10 : C := seqL [0, 5, 6, 7] Xn75_11 Xn75_19
def Xn75_6 : C := seqL [0, 5, 6, 7] Xn75_7 Xn75_10
def Xn75_4 : C := .seq Xn75_5 Xn75_6
def Xn75_3 : C := loopL [0, 5, 6, 7] Xn75_4
def Xn75_2 : C := .block 0 Xn75_3
def Xn75_0 : C := .seq Xn75_1 Xn75_2
theorem Xt75 : Text Try.prog 75 Xn75_0 16 2 [] := ⟨⟨Try.f75, [], Try.func75, by kernel_rfl, by kernel_rfl, by kernel_rfl, by kernel_rfl⟩⟩
def Xn77_1 : C := regL [0, 1] none [⟨some 4, .mv (.const (.int .i64 0)), none⟩]
def Xn77_3 : C := regL [0, 1, 5] none [⟨some 6, .mv (.tmp 0), none⟩, ⟨some 7, .mv (.tmp 1), none⟩, ⟨some 8, .bin 2 .quo (.tmp 6) (.tmp 7), none⟩, ⟨some 5, .mv (.tmp 8), none⟩]
def Xn77_6 : C := regL [5, 12] none [⟨some 9, .mv (.tmp 0), none⟩, ⟨some 10, .mv (.tmp 1), none⟩, ⟨some 11, .bin 2 .rem (.tmp 9) (.tmp 10), none⟩, ⟨some 12, .bin 2 .lss (.tmp 11) (.const (.int .i64 0)), none⟩]
def Xn77_8 : C := regL [5] none [⟨some 13, .mv (.tmp 5), none⟩, ⟨some 14, .bin 2 .sub (.tmp 13) (.const (.int .i64 1)), none⟩, ⟨some 5, .mv (.tmp 14), none⟩]
def Xn77_7 : C := .cond (.tmp 12) Xn77_8 .skip
def Xn77_5 : C := .seq Xn77_6 Xn77_7
def Xn77_11 : C := regL [4] none [⟨some 15, .mv (.tmp 5), none⟩, ⟨some 4, .mv (.tmp 15), none⟩]
def Xn77_10 : C := .seq Xn77_11 .ret
def Xn77_4 : C := seqL [5] Xn77_5 Xn77_10
def Xn77_2 : C := .seq Xn77_3 Xn77_4
def Xn77_0 : C := .seq Xn77_1 Xn77_2
theorem Xt77 : Text Try.prog 77 Xn77_0 16 2 [.t 4] := ⟨⟨Try.f77, [], Try.func77, by kernel_rfl, by kernel_rfl, by kernel_rfl, by kernel_rfl⟩⟩
def Xn78_1 : C := regL [1, 2] none [⟨some 2, .box false 106 (.tmp 0), none⟩, ⟨some 4, .mv (.const (.slice none 0 0)), none⟩]
def Xn78_4 : C := regL [2, 6] none [⟨some 6, .mv (.tmp 1), none⟩]
def Xn78_7 : C := regL [2, 5] none [⟨some 5, .alc 88 (.agg #[.int .i64 0, .int .i64 0, .int .i64 0, .int .i64 0, .int .i64 0, .int .i64 0, .int .i64 0, .int .i64 0, .int .i64 0, .int .i64 0, .slice none 0 0, .int .i64 0, .int .i64 0, .int .i64 0, .int .i64 0]), none⟩, ⟨none, .st 88 15 (.tmp 5) (.tmp 7), none⟩]
def Xn78_9 : C := regL [] none [⟨some 8, .ld 106 1 false (.tmp 2), none⟩, ⟨some 9, .ld 88 15 true (.tmp 5), none⟩, ⟨some 10, .bls 88 15 1 (.agg #[.int .i64 0, .int .i64 0, .int .i64 0, .int .i64 0, .int .i64 0, .int .i64 0, .int .i64 0, .int .i64 0, .int .i64 0, .int .i64 0, .slice none 0 0, .int .i64 0, .int .i64 0, .int .i64 0, .int .i64 0]) [(0, 15, .tmp 9)], none⟩, ⟨some 11, .app 88 15 136 (.tmp 8) (.tmp 10), none⟩, ⟨none, .st 106 1 (.tmp 2) (.tmp 11), none⟩]
def Xn78_8 : C := .block 1 Xn78_9
def Xn78_6 : C := .rfn (.tmp 6) [7] Xn78_7 Xn78_8
def Xn78_5 : C := .block 0 Xn78_6
def Xn78_3 : C := .seq Xn78_4 Xn78_5
def Xn78_11 : C := regL [4] none [⟨some 12, .ld 106 1 false (.tmp 2), none⟩, ⟨some 4, .mv (.tmp 12), none⟩]
def Xn78_10 : C := .seq Xn78_11 .ret
def Xn78_2 : C := seqL [2] Xn78_3 Xn78_10
def Xn78_0 : C := .seq Xn78_1 Xn78_2
theorem Xt78 : Text Try.prog 78 Xn78_0 13 2 [.t 4] := ⟨⟨Try.f78, [], Try.func78, by kernel_rfl, by kernel_rfl, by kernel_rfl, by kernel_rfl⟩⟩
def Xn79_1 : C := regL [0, 1, 3] none [⟨some 9, .fa 4 (.tmp 1), none⟩, ⟨some 10, .fa 0 (.tmp 9), none⟩, ⟨some 11, .ld 59 2 true (.tmp 10), none⟩, ⟨some 3, .alc 59 (.agg #[.int .i64 0, .int .i64 0]), none⟩, ⟨none, .st 59 2 (.tmp 3) (.tmp 11), none⟩]
def Xn79_3 : C := regL [0, 1, 3, 14, 15, 16] none [⟨some 12, .fa 0 (.tmp 1), none⟩, ⟨some 13, .fa 1 (.tmp 12), none⟩, ⟨some 14, .ld 24 1 false (.tmp 13), none⟩, ⟨some 15, .len (.tmp 14), none⟩, ⟨some 16, .mv (.const (.int .i64 0)), none⟩]
def Xn79_7 : C := regL [0, 1, 3, 14, 15, 16, 17] none [⟨some 17, .bin 3 .lss (.tmp 16) (.tmp 15), none⟩]
def Xn79_9 : C := .cond (.tmp 17) .skip (.exit 0)
def Xn79_15 : C := regL [0, 1, 3, 4, 5, 14, 15, 16] none [⟨some 18, .mv (.tmp 16), none⟩, ⟨some 19, .ia 11 (.tmp 14) (.tmp 16), none⟩, ⟨some 20, .ld 44 11 true (.tmp 19), none⟩, ⟨some 5, .alc 44 (.agg #[.int .i64 0, .int .i64 0, .int .i64 0, .int .i64 0, .int .i64 0, .int .i64 0, .int .i64 0, .int .i64 0, .int .i64 0, .int .i64 0, .slice none 0 0]), none⟩, ⟨some 4, .mv (.tmp 18), none⟩, ⟨none, .st 44 11 (.tmp 5) (.tmp 20), none⟩]
def Xn79_17 : C := regL [0, 1, 3, 6, 14, 15, 16] (some [0, 1, 0, 0, 8, 24, 0, 120, 248, 511, 0, 2047]) [⟨some 21, .ld 44 11 true (.tmp 5), none⟩, ⟨some 22, .bld (.agg #[.int .i64 0, .int .i64 0, .int .i64 0, .int .i64 0, .int .i64 0, .int .i64 0, .int .i64 0, .int .i64 0, .int .i64 0, .int .i64 0, .slice none 0 0]) [(0, 11, .tmp 21)], none⟩, ⟨some 23, .ld 59 2 true (.tmp 3), none⟩, ⟨some 24, .fa 4 (.tmp 1), none⟩, ⟨some 25, .fa 2 (.tmp 24), none⟩, ⟨some 26, .ld 60 1 false (.tmp 25), none⟩, ⟨some 27, .mv (.tmp 4), none⟩, ⟨some 28, .ia 2 (.tmp 26) (.tmp 27), none⟩, ⟨some 29, .ld 59 2 true (.tmp 28), none⟩, ⟨some 30, .bld (.agg #[.int .i64 0, .int .i64 0, .int .i64 0, .int .i64 0, .int .i64 0, .int .i64 0, .int .i64 0, .int .i64 0, .int .i64 0, .int .i64 0, .slice none 0 0, .int .i64 0, .int .i64 0, .int .i64 0, .int .i64 0]) [(0, 11, .tmp 22), (11, 2, .tmp 23), (13, 2, .tmp 29)], none⟩, ⟨some 6, .alc 88 (.agg #[.int .i64 0, .int .i64 0, .int .i64 0, .int .i64 0, .int .i64 0, .int .i64 0, .int .i64 0, .int .i64 0, .int .i64 0, .int .i64 0, .slice none 0 0, .int .i64 0, .int .i64 0, .int .i64 0, .int .i64 0]), none⟩, ⟨none, .st 88 15 (.tmp 6) (.tmp 30), none⟩]
def Xn79_20 : C := regL [0, 1, 3, 6, 14, 15, 16, 46] none [⟨some 31, .fa 13 (.tmp 6), none⟩, ⟨some 32, .ld 59 2 true (.tmp 31), none⟩, ⟨some 33, .call 31 [.tmp 32], none⟩, ⟨some 34, .bin 28 .neq (.tmp 33) (.const (.int .i64 0)), none⟩, ⟨some 35, .mv (.tmp 34), none⟩, ⟨some 36, .fa 13 (.tmp 6), some (35, false)⟩, ⟨some 37, .ld 59 2 true (.tmp 36), some (35, false)⟩, ⟨some 38, .ld 59 2 true (.tmp 3), some (35, false)⟩, ⟨some 39, .eqb 5 false (.tmp 37) (.tmp 38), some (35, false)⟩, ⟨some 40, .pick 35 (.const (.bool true)) (.tmp 39), none⟩, ⟨some 41, .mv (.tmp 40), none⟩, ⟨some 42, .mv (.tmp 0), some (41, false)⟩, ⟨some 43, .ld 88 15 true (.tmp 6), some (41, false)⟩, ⟨some 44, .callv (.tmp 42) [.tmp 43], some (41, false)⟩, ⟨some 45, .un .not (.tmp 44), some (41, false)⟩, ⟨some 46, .pick 41 (.const (.bool true)) (.tmp 45), none⟩]
def Xn79_21 : C := .cond (.tmp 46) .ret .skip
def Xn79_19 : C := .seq Xn79_20 Xn79_21
def Xn79_25 : C := regL [0, 1, 3, 7, 8, 14, 15, 16] (some [0, 0, 2, 6, 15, 31, 63, 63, 0, 383, 1023]) [⟨some 48, .ld 88 15 true (.tmp 6), none⟩, ⟨some 49, .fa 0 (.tmp 6), none⟩, ⟨some 50, .ld 83 11 true (.tmp 49), none⟩, ⟨some 51, .call 35 [.tmp 50], none⟩, ⟨some 52, .call 34 [.tmp 48, .tmp 51, .const (.int .i64 0)], none⟩, ⟨some 47, .mv (.tmp 52), none⟩, ⟨some 53, .ext 0 (.tmp 47), none⟩, ⟨some 54, .ext 1 (.tmp 47), none⟩, ⟨some 7, .alc 59 (.agg #[.int .i64 0, .int .i64 0]), none⟩, ⟨none, .st 59 2 (.tmp 7) (.tmp 53), none⟩, ⟨some 8, .mv (.tmp 54), none⟩]
def Xn79_28 : C := regL [0, 1, 3, 7, 14, 15, 16, 56] none [⟨some 55, .mv (.tmp 8), none⟩, ⟨some 56, .bin 28 .neq (.tmp 55) (.const (.int .i64 0)), none⟩]
def Xn79_29 : C := .cond (.tmp 56) .ret .skip
def Xn79_27 : C := .seq Xn79_28 Xn79_29
def Xn79_32 : C := regL [0, 1, 3, 14, 15, 16] none [⟨some 57, .ld 59 2 true (.tmp 7), none⟩, ⟨none, .st 59 2 (.tmp 3) (.tmp 57), none⟩]
def Xn79_26 : C := seqL [0, 1, 3, 7, 14, 15, 16] Xn79_27 Xn79_32
def Xn79_24 : C := .seq Xn79_25 Xn79_26
def Xn79_18 : C := seqL [0, 1, 3, 6, 14, 15, 16] Xn79_19 Xn79_24
def Xn79_16 : C := .seq Xn79_17 Xn79_18
def Xn79_14 : C := .seq Xn79_15 Xn79_16
def Xn79_13 : C := .block 1 Xn79_14
def Xn79_33 : C := regL [0, 1, 3, 14, 15, 16] none [⟨some 58, .bin 3 .add (.tmp 16) (.const (.int .i64 1)), none⟩, ⟨some 16, .mv (.tmp 58), none⟩]
def Xn79_12 : C := seqL [0, 1, 3, 14, 15, 16] Xn79_13 Xn79_33
def Xn79_8 : C := seqL [0, 1, 3, 14, 15, 16] Xn79_9 Xn79_12
def Xn79_6 : C := .seq Xn79_7 Xn79_8
def Xn79_5 : C := loopL [0, 1, 3, 14, 15, 16] Xn79_6
def Xn79_4 : C := .block 0 Xn79_5
def Xn79_2 : C := .seq Xn79_3 Xn79_4
def Xn79_0 : C := .seq Xn79_1 Xn79_2
theorem Xt79 : Text Try.prog 79 Xn79_0 59 2 [] := ⟨⟨Try.f79, [], Try.func79, by kernel_rfl, by kernel_rfl, by kernel_rfl, by kernel_rfl⟩⟩
def Xn80_1 : C := regL [0, 1] none [⟨some 4, .mv (.const (.int .u64 0)), none⟩, ⟨some 5, .mv (.const (.int .u64 0)), none⟩]
def Xn80_3 : C := regL [0, 1, 6] none [⟨some 14, .mv (.tmp 0), none⟩, ⟨some 15, .bin 138 .and (.tmp 14) (.const (.int .u64 4294967295)), none⟩, ⟨some 6, .mv (.tmp 15), none⟩]
def Xn80_5 : C := regL [0, 1, 6, 7] none [⟨some 16, .mv (.tmp 0), none⟩, ⟨some 17, .bin 138 .shr (.tmp 16) (.const (.int .u64 32)), none⟩, ⟨some 7, .mv (.tmp 17), none⟩]
def Xn80_7 : C := regL [0, 1, 6, 7, 8] none [⟨some 18, .mv (.tmp 1), none⟩, ⟨some 19, .bin 138 .and (.tmp 18) (.const (.int .u64 4294967295)), none⟩, ⟨some 8, .mv (.tmp 19), none⟩]
def Xn80_9 : C := regL [0, 1, 6, 7, 8, 9] none [⟨some 20, .mv (.tmp 1), none⟩, ⟨some 21, .bin 138 .shr (.tmp 20) (.const (.int .u64 32)), none⟩, ⟨some 9, .mv (.tmp 21), none⟩]
def Xn80_11 : C := regL [0, 1, 6, 7, 8, 9, 10] none [⟨some 22, .mv (.tmp 6), none⟩, ⟨some 23, .mv (.tmp 8), none⟩, ⟨some 24, .bin 138 .mul (.tmp 22) (.tmp 23), none⟩, ⟨some 10, .mv (.tmp 24), none⟩]
def Xn80_13 : C := regL [0, 1, 6, 7, 9, 11] none [⟨some 25, .mv (.tmp 7), none⟩, ⟨some 26, .mv (.tmp 8), none⟩, ⟨some 27, .bin 138 .mul (.tmp 25) (.tmp 26), none⟩, ⟨some 28, .mv (.tmp 10), none⟩, ⟨some 29, .bin 138 .shr (.tmp 28) (.const (.int .u64 32)), none⟩, ⟨some 30, .bin 138 .add (.tmp 27) (.tmp 29), none⟩, ⟨some 11, .mv (.tmp 30), none⟩]
def Xn80_15 : C := regL [0, 1, 6, 7, 9, 11, 12] none [⟨some 31, .mv (.tmp 11), none⟩, ⟨some 32, .bin 138 .and (.tmp 31) (.const (.int .u64 4294967295)), none⟩, ⟨some 12, .mv (.tmp 32), none⟩]
def Xn80_17 : C := regL [0, 1, 6, 7, 9, 12, 13] none [⟨some 33, .mv (.tmp 11), none⟩, ⟨some 34, .bin 138 .shr (.tmp 33) (.const (.int .u64 32)), none⟩, ⟨some 13, .mv (.tmp 34), none⟩]
def Xn80_19 : C := regL [0, 1, 7, 9, 12, 13] none [⟨some 35, .mv (.tmp 12), none⟩, ⟨some 36, .mv (.tmp 6), none⟩, ⟨some 37, .mv (.tmp 9), none⟩, ⟨some 38, .bin 138 .mul (.tmp 36) (.tmp 37), none⟩, ⟨some 39, .bin 138 .add (.tmp 35) (.tmp 38), none⟩, ⟨some 12, .mv (.tmp 39), none⟩]
def Xn80_21 : C := regL [0, 1, 4] none [⟨some 40, .mv (.tmp 7), none⟩, ⟨some 41, .mv (.tmp 9), none⟩, ⟨some 42, .bin 138 .mul (.tmp 40) (.tmp 41), none⟩, ⟨some 43, .mv (.tmp 13), none⟩, ⟨some 44, .bin 138 .add (.tmp 42) (.tmp 43), none⟩, ⟨some 45, .mv (.tmp 12), none⟩, ⟨some 46, .bin 138 .shr (.tmp 45) (.const (.int .u64 32)), none⟩, ⟨some 47, .bin 138 .add (.tmp 44) (.tmp 46), none⟩, ⟨some 4, .mv (.tmp 47), none⟩]
def Xn80_23 : C := regL [4, 5] none [⟨some 48, .mv (.tmp 0), none⟩, ⟨some 49, .mv (.tmp 1), none⟩, ⟨some 50, .bin 138 .mul (.tmp 48) (.tmp 49), none⟩, ⟨some 5, .mv (.tmp 50), none⟩]
def Xn80_22 : C := .seq Xn80_23 .ret
def Xn80_20 : C := .seq Xn80_21 Xn80_22
def Xn80_18 : C := .seq Xn80_19 Xn80_20
def Xn80_16 : C := .seq Xn80_17 Xn80_18
def Xn80_14 : C := .seq Xn80_15 Xn80_16
def Xn80_12 : C := .seq Xn80_13 Xn80_14
def Xn80_10 : C := .seq Xn80_11 Xn80_12
def Xn80_8 : C := .seq Xn80_9 Xn80_10
def Xn80_6 : C := .seq Xn80_7 Xn80_8
def Xn80_4 : C := .seq Xn80_5 Xn80_6
def Xn80_2 : C := .seq Xn80_3 Xn80_4
def Xn80_0 : C := .seq Xn80_1 Xn80_2
theorem Xt80 : Text Try.prog 80 Xn80_0 51 2 [.t 4, .t 5] := ⟨⟨Try.f80, [], Try.func80, by kernel_rfl, by kernel_rfl, by kernel_rfl, by kernel_rfl⟩⟩
def Xn81_1 : C := regL [0, 1, 2] none [⟨some 6, .mv (.const (.int .u64 0)), none⟩, ⟨some 7, .mv (.const (.int .u64 0)), none⟩]
def Xn81_4 : C := regL [0, 1, 2, 20] none [⟨some 19, .mv (.tmp 2), none⟩, ⟨some 20, .bin 138 .eql (.tmp 19) (.const (.int .u64 0)), none⟩]
def Xn81_6 : C := regL [0, 1, 2] none [⟨some 21, .ld 156 1 false (.global 0), none⟩, ⟨none, .dead, none⟩]
def Xn81_5 : C := .cond (.tmp 20) Xn81_6 .skip
def Xn81_3 : C := .seq Xn81_4 Xn81_5
def Xn81_10 : C := regL [0, 1, 2, 24] none [⟨some 22, .mv (.tmp 2), none⟩, ⟨some 23, .mv (.tmp 0), none⟩, ⟨some 24, .bin 138 .leq (.tmp 22) (.tmp 23), none⟩]
def Xn81_12 : C := regL [0, 1, 2] none [⟨some 25, .ld 156 1 false (.global 1), none⟩, ⟨none, .dead, none⟩]
def Xn81_11 : C := .cond (.tmp 24) Xn81_12 .skip
def Xn81_9 : C := .seq Xn81_10 Xn81_11
def Xn81_16 : C := regL [0, 1, 2, 27] none [⟨some 26, .mv (.tmp 0), none⟩, ⟨some 27, .bin 138 .eql (.tmp 26) (.const (.int .u64 0)), none⟩]
def Xn81_19 : C := regL [6, 7] (some [0, 0, 3, 0, 0, 24, 7, 127]) [⟨some 28, .mv (.tmp 1), none⟩, ⟨some 29, .mv (.tmp 2), none⟩, ⟨some 30, .bin 138 .quo (.tmp 28) (.tmp 29), none⟩, ⟨some 31, .mv (.tmp 1), none⟩, ⟨some 32, .mv (.tmp 2), none⟩, ⟨some 33, .bin 138 .rem (.tmp 31) (.tmp 32), none⟩, ⟨some 6, .mv (.tmp 30), none⟩, ⟨some 7, .mv (.tmp 33), none⟩]
def Xn81_18 : C := .seq Xn81_19 .ret
def Xn81_17 : C := .cond (.tmp 27) Xn81_18 .skip
def Xn81_15 : C := .seq Xn81_16 Xn81_17
def Xn81_23 : C := regL [0, 1, 2, 8] none [⟨some 34, .mv (.tmp 2), none⟩, ⟨some 35, .call 93 [.tmp 34], none⟩, ⟨some 36, .cvt .u64 (.tmp 35), none⟩, ⟨some 8, .mv (.tmp 36), none⟩]
def Xn81_25 : C := regL [0, 1, 2, 8] none [⟨some 37, .mv (.tmp 2), none⟩, ⟨some 38, .mv (.tmp 8), none⟩, ⟨some 39, .bin 138 .shl (.tmp 37) (.tmp 38), none⟩, ⟨some 2, .mv (.tmp 39), none⟩]
def Xn81_27 : C := regL [0, 1, 2, 8, 9] none [⟨some 40, .mv (.tmp 2), none⟩, ⟨some 41, .bin 138 .shr (.tmp 40) (.const (.int .u64 32)), none⟩, ⟨some 9, .mv (.tmp 41), none⟩]
def Xn81_29 : C := regL [0, 1, 2, 8, 9, 10] none [⟨some 42, .mv (.tmp 2), none⟩, ⟨some 43, .bin 138 .and (.tmp 42) (.const (.int .u64 4294967295)), none⟩, ⟨some 10, .mv (.tmp 43), none⟩]
def Xn81_31 : C := regL [1, 2, 8, 9, 10, 11] none [⟨some 44, .mv (.tmp 0), none⟩, ⟨some 45, .mv (.tmp 8), none⟩, ⟨some 46, .bin 138 .shl (.tmp 44) (.tmp 45), none⟩, ⟨some 47, .mv (.tmp 1), none⟩, ⟨some 48, .mv (.tmp 8), none⟩, ⟨some 49, .bin 134 .sub (.const (.int .u64 64)) (.tmp 48), none⟩, ⟨some 50, .bin 138 .shr (.tmp 47) (.tmp 49), none⟩, ⟨some 51, .bin 138 .or (.tmp 46) (.tmp 50), none⟩, ⟨some 11, .mv (.tmp 51), none⟩]
def Xn81_33 : C := regL [2, 8, 9, 10, 11, 12] none [⟨some 52, .mv (.tmp 1), none⟩, ⟨some 53, .mv (.tmp 8), none⟩, ⟨some 54, .bin 138 .shl (.tmp 52) (.tmp 53), none⟩, ⟨some 12, .mv (.tmp 54), none⟩]
def Xn81_35 : C := regL [2, 8, 9, 10, 11, 12, 13] none [⟨some 55, .mv (.tmp 12), none⟩, ⟨some 56, .bin 138 .shr (.tmp 55) (.const (.int .u64 32)), none⟩, ⟨some 13, .mv (.tmp 56), none⟩]
def Xn81_37 : C := regL [2, 8, 9, 10, 11, 13, 14] none [⟨some 57, .mv (.tmp 12), none⟩, ⟨some 58, .bin 138 .and (.tmp 57) (.const (.int .u64 4294967295)), none⟩, ⟨some 14, .mv (.tmp 58), none⟩]
def Xn81_39 : C := regL [2, 8, 9, 10, 11, 13, 14, 15] none [⟨some 59, .mv (.tmp 11), none⟩, ⟨some 60, .mv (.tmp 9), none⟩, ⟨some 61, .bin 138 .quo (.tmp 59) (.tmp 60), none⟩, ⟨some 15, .mv (.tmp 61), none⟩]
def Xn81_41 : C := regL [2, 8, 9, 10, 11, 13, 14, 15, 16] none [⟨some 62, .mv (.tmp 11), none⟩, ⟨some 63, .mv (.tmp 15), none⟩, ⟨some 64, .mv (.tmp 9), none⟩, ⟨some 65, .bin 138 .mul (.tmp 63) (.tmp 64), none⟩, ⟨some 66, .bin 138 .sub (.tmp 62) (.tmp 65), none⟩, ⟨some 16, .mv (.tmp 66), none⟩]
def Xn81_47 : C := regL [2, 8, 9, 10, 11, 13, 14, 15, 16, 78] none [⟨some 67, .mv (.tmp 15), none⟩, ⟨some 68, .bin 138 .geq (.tmp 67) (.const (.int .u64 4294967296)), none⟩, ⟨some 69, .mv (.tmp 68), none⟩, ⟨some 70, .mv (.tmp 15), some (69, false)⟩, ⟨some 71, .mv (.tmp 10), some (69, false)⟩, ⟨some 72, .bin 138 .mul (.tmp 70) (.tmp 71), some (69, false)⟩, ⟨some 73, .mv (.tmp 16), some (69, false)⟩, ⟨some 74, .bin 138 .mul (.const (.int .u64 4294967296)) (.tmp 73), some (69, false)⟩, ⟨some 75, .mv (.tmp 13), some (69, false)⟩, ⟨some 76, .bin 138 .add (.tmp 74) (.tmp 75), some (69, false)⟩, ⟨some 77, .bin 138 .gtr (.tmp 72) (.tmp 76), some (69, false)⟩, ⟨some 78, .pick 69 (.const (.bool true)) (.tmp 77), none⟩]
def Xn81_48 : C := .cond (.tmp 78) .skip (.exit 0)
def Xn81_46 : C := .seq Xn81_47 Xn81_48
def Xn81_53 : C := regL [2, 8, 9, 10, 11, 13, 14, 15, 16] none [⟨some 79, .mv (.tmp 15), none⟩, ⟨some 80, .bin 138 .sub (.tmp 79) (.const (.int .u64 1)), none⟩, ⟨some 15, .mv (.tmp 80), none⟩]
def Xn81_55 : C := regL [2, 8, 9, 10, 11, 13, 14, 15, 16] none [⟨some 81, .mv (.tmp 16), none⟩, ⟨some 82, .mv (.tmp 9), none⟩, ⟨some 83, .bin 138 .add (.tmp 81) (.tmp 82), none⟩, ⟨some 16, .mv (.tmp 83), none⟩]
def Xn81_57 : C := regL [2, 8, 9, 10, 11, 13, 14, 15, 16, 85] none [⟨some 84, .mv (.tmp 16), none⟩, ⟨some 85, .bin 138 .geq (.tmp 84) (.const (.int .u64 4294967296)), none⟩]
def Xn81_58 : C := .cond (.tmp 85) (.exit 0) .skip
def Xn81_56 : C := .seq Xn81_57 Xn81_58
def Xn81_54 : C := .seq Xn81_55 Xn81_56
def Xn81_52 : C := .seq Xn81_53 Xn81_54
def Xn81_51 : C := .block 1 Xn81_52
def Xn81_45 : C := seqL [2, 8, 9, 10, 11, 13, 14, 15, 16] Xn81_46 Xn81_51
def Xn81_44 : C := loopL [2, 8, 9, 10, 11, 13, 14, 15, 16] Xn81_45
def Xn81_43 : C := .block 0 Xn81_44
def Xn81_62 : C := regL [2, 8, 9, 10, 14, 15, 17] none [⟨some 86, .mv (.tmp 11), none⟩, ⟨some 87, .bin 138 .mul (.tmp 86) (.const (.int .u64 4294967296)), none⟩, ⟨some 88, .mv (.tmp 13), none⟩, ⟨some 89, .bin 138 .add (.tmp 87) (.tmp 88), none⟩, ⟨some 90, .mv (.tmp 15), none⟩, ⟨some 91, .mv (.tmp 2), none⟩, ⟨some 92, .bin 138 .mul (.tmp 90) (.tmp 91), none⟩, ⟨some 93, .bin 138 .sub (.tmp 89) (.tmp 92), none⟩, ⟨some 17, .mv (.tmp 93), none⟩]
def Xn81_64 : C := regL [2, 8, 9, 10, 14, 15, 17, 18] none [⟨some 94, .mv (.tmp 17), none⟩, ⟨some 95, .mv (.tmp 9), none⟩, ⟨some 96, .bin 138 .quo (.tmp 94) (.tmp 95), none⟩, ⟨some 18, .mv (.tmp 96), none⟩]
def Xn81_66 : C := regL [2, 8, 9, 10, 14, 15, 16, 17, 18] none [⟨some 97, .mv (.tmp 17), none⟩, ⟨some 98, .mv (.tmp 18), none⟩, ⟨some 99, .mv (.tmp 9), none⟩, ⟨some 100, .bin 138 .mul (.tmp 98) (.tmp 99), none⟩, ⟨some 101, .bin 138 .sub (.tmp 97) (.tmp 100), none⟩, ⟨some 16, .mv (.tmp 101), none⟩]
def Xn81_72 : C := regL [2, 8, 9, 10, 14, 15, 16, 17, 18, 113] none [⟨some 102, .mv (.tmp 18), none⟩, ⟨some 103, .bin 138 .geq (.tmp 102) (.const (.int .u64 4294967296)), none⟩, ⟨some 104, .mv (.tmp 103), none⟩, ⟨some 105, .mv (.tmp 18), some (104, false)⟩, ⟨some 106, .mv (.tmp 10), some (104, false)⟩, ⟨some 107, .bin 138 .mul (.tmp 105) (.tmp 106), some (104, false)⟩, ⟨some 108, .mv (.tmp 16), some (104, false)⟩, ⟨some 109, .bin 138 .mul (.const (.int .u64 4294967296)) (.tmp 108), some (104, false)⟩, ⟨some 110, .mv (.tmp 14), some (104, false)⟩, ⟨some 111, .bin 138 .add (.tmp 109) (.tmp 110), some (104, false)⟩, ⟨some 112, .bin 138 .gtr (.tmp 107) (.tmp 111), some (104, false)⟩, ⟨some 113, .pick 104 (.const (.bool true)) (.tmp 112), none⟩]
def Xn81_73 : C := .cond (.tmp 113) .skip (.exit 2)
def Xn81_71 : C := .seq Xn81_72 Xn81_73
def Xn81_78 : C := regL [2, 8, 9, 10, 14, 15, 16, 17, 18] none [⟨some 114, .mv (.tmp 18), none⟩, ⟨some 115, .bin 138 .sub (.tmp 114) (.const (.int .u64 1)), none⟩, ⟨some 18, .mv (.tmp 115), none⟩]
def Xn81_80 : C := regL [2, 8, 9, 10, 14, 15, 16, 17, 18] none [⟨some 116, .mv (.tmp 16), none⟩, ⟨some 117, .mv (.tmp 9), none⟩, ⟨some 118, .bin 138 .add (.tmp 116) (.tmp 117), none⟩, ⟨some 16, .mv (.tmp 118), none⟩]
def Xn81_82 : C := regL [2, 8, 9, 10, 14, 15, 16, 17, 18, 120] none [⟨some 119, .mv (.tmp 16), none⟩, ⟨some 120, .bin 138 .geq (.tmp 119) (.const (.int .u64 4294967296)), none⟩]
def Xn81_83 : C := .cond (.tmp 120) (.exit 2) .skip
def Xn81_81 : C := .seq Xn81_82 Xn81_83
def Xn81_79 : C := .seq Xn81_80 Xn81_81
def Xn81_77 : C := .seq Xn81_78 Xn81_79
def Xn81_76 : C := .block 3 Xn81_77
def Xn81_70 : C := seqL [2, 8, 9, 10, 14, 15, 16, 17, 18] Xn81_71 Xn81_76
def Xn81_69 : C := loopL [2, 8, 9, 10, 14, 15, 16, 17, 18] Xn81_70
def Xn81_68 : C := .block 2 Xn81_69
def Xn81_87 : C := regL [6, 7] none [⟨some 121, .mv (.tmp 15), none⟩, ⟨some 122, .bin 138 .mul (.tmp 121) (.const (.int .u64 4294967296)), none⟩, ⟨some 123, .mv (.tmp 18), none⟩, ⟨some 124, .bin 138 .add (.tmp 122) (.tmp 123), none⟩, ⟨some 125, .mv (.tmp 17), none⟩, ⟨some 126, .bin 138 .mul (.tmp 125) (.const (.int .u64 4294967296)), none⟩, ⟨some 127, .mv (.tmp 14), none⟩, ⟨some 128, .bin 138 .add (.tmp 126) (.tmp 127), none⟩, ⟨some 129, .mv (.tmp 18), none⟩, ⟨some 130, .mv (.tmp 2), none⟩, ⟨some 131, .bin 138 .mul (.tmp 129) (.tmp 130), none⟩, ⟨some 132, .bin 138 .sub (.tmp 128) (.tmp 131), none⟩, ⟨some 133, .mv (.tmp 8), none⟩, ⟨some 134, .bin 138 .shr (.tmp 132) (.tmp 133), none⟩, ⟨some 6, .mv (.tmp 124), none⟩, ⟨some 7, .mv (.tmp 134), none⟩]
def Xn81_86 : C := .seq Xn81_87 .ret
def Xn81_67 : C := seqL [2, 8, 14, 15, 17, 18] Xn81_68 Xn81_86
def Xn81_65 : C := .seq Xn81_66 Xn81_67
def Xn81_63 : C := .seq Xn81_64 Xn81_65
def Xn81_61 : C := .seq Xn81_62 Xn81_63
def Xn81_42 : C := seqL [2, 8, 9, 10, 11, 13, 14, 15] Xn81_43 Xn81_61
def Xn81_40 : C := .seq Xn81_41 Xn81_42
def Xn81_38 : C := .seq Xn81_39 Xn81_40
def Xn81_36 : C := .seq Xn81_37 Xn81_38
def Xn81_34 : C := .seq Xn81_35 Xn81_36
def Xn81_32 : C := .seq Xn81_33 Xn81_34
def Xn81_30 : C := .seq Xn81_31 Xn81_32
def Xn81_28 : C := .seq Xn81_29 Xn81_30
def Xn81_26 : C := .seq Xn81_27 Xn81_28
def Xn81_24 : C := .seq Xn81_25 Xn81_26
def Xn81_22 : C := .seq Xn81_23 Xn81_24
def Xn81_14 : C := seqL [0, 1, 2] Xn81_15 Xn81_22
def Xn81_8 : C := seqL [0, 1, 2] Xn81_9 Xn81_14
def Xn81_2 : C := seqL [0, 1, 2] Xn81_3 Xn81_8
def Xn81_0 : C := .seq Xn81_1 Xn81_2
theorem Xt81 : Text Try.prog 81 Xn81_0 135 3 [.t 6, .t 7] := ⟨⟨Try.f81, [], Try.func81, by kernel_rfl, by kernel_rfl, by kernel_rfl, by kernel_rfl⟩⟩
def Xn82_1 : C := regL [0, 1, 2, 3, 8] none [⟨some 10, .mv (.tmp 1), none⟩, ⟨some 11, .bin 3 .add (.tmp 10) (.const (.int .i64 1)), none⟩, ⟨some 8, .mv (.tmp 11), none⟩]
def Xn82_6 : C := regL [0, 1, 2, 3, 8, 14] none [⟨some 12, .mv (.tmp 8), none⟩, ⟨some 13, .mv (.tmp 2), none⟩, ⟨some 14, .bin 3 .lss (.tmp 12) (.tmp 13), none⟩]
def Xn82_7 : C := .cond (.tmp 14) .skip (.exit 0)
def Xn82_5 : C := .seq Xn82_6 Xn82_7
def Xn82_13 : C := regL [0, 1, 2, 3, 8, 9] none [⟨some 17, .mv (.tmp 8), none⟩, ⟨some 9, .mv (.tmp 17), none⟩]
def Xn82_18 : C := regL [0, 1, 2, 3, 8, 9, 34] (some [0, 0, 3, 7, 15, 15, 15, 111, 239, 15, 15, 1039, 3599, 7695, 16383, 32767, 65535]) [⟨some 18, .mv (.tmp 9), none⟩, ⟨some 19, .mv (.tmp 1), none⟩, ⟨some 20, .bin 3 .gtr (.tmp 18) (.tmp 19), none⟩, ⟨some 21, .mv (.tmp 20), none⟩, ⟨some 22, .mv (.tmp 3), some (21, true)⟩, ⟨some 23, .mv (.tmp 0), some (21, true)⟩, ⟨some 24, .mv (.tmp 9), some (21, true)⟩, ⟨some 25, .ia 2 (.tmp 23) (.tmp 24), some (21, true)⟩, ⟨some 26, .ld 59 2 true (.tmp 25), some (21, true)⟩, ⟨some 27, .mv (.tmp 0), some (21, true)⟩, ⟨some 28, .mv (.tmp 9), some (21, true)⟩, ⟨some 29, .bin 3 .sub (.tmp 28) (.const (.int .i64 1)), some (21, true)⟩, ⟨some 30, .ia 2 (.tmp 27) (.tmp 29), some (21, true)⟩, ⟨some 31, .ld 59 2 true (.tmp 30), some (21, true)⟩, ⟨some 32, .callv (.tmp 22) [.tmp 26, .tmp 31], some (21, true)⟩, ⟨some 33, .bin 3 .lss (.tmp 32) (.const (.int .i64 0)), some (21, true)⟩, ⟨some 34, .pick 21 (.tmp 33) (.const (.bool false)), none⟩]
def Xn82_19 : C := .cond (.tmp 34) .skip (.exit 2)
def Xn82_17 : C := .seq Xn82_18 Xn82_19
def Xn82_24 : C := regL [0, 1, 2, 3, 8, 9] (some [0, 0, 0, 0, 8, 0, 0, 64, 224, 480, 0, 0, 3072, 7168, 16355, 32739, 65535, 131071]) [⟨some 37, .mv (.tmp 0), none⟩, ⟨some 38, .mv (.tmp 9), none⟩, ⟨some 39, .mv (.tmp 0), none⟩, ⟨some 40, .mv (.tmp 9), none⟩, ⟨some 41, .bin 3 .sub (.tmp 40) (.const (.int .i64 1)), none⟩, ⟨some 42, .mv (.tmp 0), none⟩, ⟨some 43, .mv (.tmp 9), none⟩, ⟨some 44, .bin 3 .sub (.tmp 43) (.const (.int .i64 1)), none⟩, ⟨some 45, .ia 2 (.tmp 42) (.tmp 44), none⟩, ⟨some 46, .ld 59 2 true (.tmp 45), none⟩, ⟨some 47, .mv (.tmp 0), none⟩, ⟨some 48, .mv (.tmp 9), none⟩, ⟨some 49, .ia 2 (.tmp 47) (.tmp 48), none⟩, ⟨some 50, .ld 59 2 true (.tmp 49), none⟩, ⟨some 51, .ia 2 (.tmp 37) (.tmp 38), none⟩, ⟨none, .st 59 2 (.tmp 51) (.tmp 46), none⟩, ⟨some 52, .ia 2 (.tmp 39) (.tmp 41), none⟩, ⟨none, .st 59 2 (.tmp 52) (.tmp 50), none⟩]
def Xn82_23 : C := .block 3 Xn82_24
def Xn82_25 : C := regL [0, 1, 2, 3, 8, 9] none [⟨some 35, .mv (.tmp 9), none⟩, ⟨some 36, .bin 3 .sub (.tmp 35) (.const (.int .i64 1)), none⟩, ⟨some 9, .mv (.tmp 36), none⟩]
def Xn82_22 : C := seqL [0, 1, 2, 3, 8, 9] Xn82_23 Xn82_25
def Xn82_16 : C := seqL [0, 1, 2, 3, 8, 9] Xn82_17 Xn82_22
def Xn82_15 : C := loopL [0, 1, 2, 3, 8, 9] Xn82_16
def Xn82_14 : C := .block 2 Xn82_15
def Xn82_12 : C := .seq Xn82_13 Xn82_14
def Xn82_11 : C := .block 1 Xn82_12
def Xn82_26 : C := regL [0, 1, 2, 3, 8] none [⟨some 15, .mv (.tmp 8), none⟩, ⟨some 16, .bin 3 .add (.tmp 15) (.const (.int .i64 1)), none⟩, ⟨some 8, .mv (.tmp 16), none⟩]
def Xn82_10 : C := seqL [0, 1, 2, 3, 8] Xn82_11 Xn82_26
def Xn82_4 : C := seqL [0, 1, 2, 3, 8] Xn82_5 Xn82_10
def Xn82_3 : C := loopL [0, 1, 2, 3, 8] Xn82_4
def Xn82_2 : C := .block 0 Xn82_3
def Xn82_0 : C := .seq Xn82_1 Xn82_2
theorem Xt82 : Text Try.prog 82 Xn82_0 53 4 [] := ⟨⟨Try.f82, [], Try.func82, by kernel_rfl, by kernel_rfl, by kernel_rfl, by kernel_rfl⟩⟩
end Go.Proofs.Ytlegpipcmnnaoaa

namespace Go.Proofs.Ytlegpipcmnnaoaa
open Go Sy
set_option maxRecDepth 100000
def Xn91_1 : C := regL [0, 2] none [⟨some 2, .mv (.const (.int .i64 0)), none⟩]
def Xn91_4 : C := regL [0, 2, 4] none [⟨some 3, .mv (.tmp 0), none⟩, ⟨some 4, .bin 138 .geq (.tmp 3) (.const (.int .u64 4294967296)), none⟩]
def Xn91_7 : C := regL [0] none [⟨some 5, .mv (.tmp 0), none⟩, ⟨some 6, .bin 138 .shr (.tmp 5) (.const (.int .u64 32)), none⟩, ⟨some 0, .mv (.tmp 6), none⟩]
def Xn91_8 : C := regL [0, 2] none [⟨some 2, .mv (.const (.int .i64 32)), none⟩]
def Xn91_6 : C := .seq Xn91_7 Xn91_8
def Xn91_5 : C := .cond (.tmp 4) Xn91_6 .skip
def Xn91_3 : C := .seq Xn91_4 Xn91_5
def Xn91_12 : C := regL [0, 2, 8] none [⟨some 7, .mv (.tmp 0), none⟩, ⟨some 8, .bin 138 .geq (.tmp 7) (.const (.int .u64 65536)), none⟩]
def Xn91_15 : C := regL [0, 2] none [⟨some 9, .mv (.tmp 0), none⟩, ⟨some 10, .bin 138 .shr (.tmp 9) (.const (.int .u64 16)), none⟩, ⟨some 0, .mv (.tmp 10), none⟩]
def Xn91_16 : C := regL [0, 2] none [⟨some 11, .mv (.tmp 2), none⟩, ⟨some 12, .bin 3 .add (.tmp 11) (.const (.int .i64 16)), none⟩, ⟨some 2, .mv (.tmp 12), none⟩]
def Xn91_14 : C := .seq Xn91_15 Xn91_16
def Xn91_13 : C := .cond (.tmp 8) Xn91_14 .skip
def Xn91_11 : C := .seq Xn91_12 Xn91_13
def Xn91_20 : C := regL [0, 2, 14] none [⟨some 13, .mv (.tmp 0), none⟩, ⟨some 14, .bin 138 .geq (.tmp 13) (.const (.int .u64 256)), none⟩]
def Xn91_23 : C := regL [0, 2] none [⟨some 15, .mv (.tmp 0), none⟩, ⟨some 16, .bin 138 .shr (.tmp 15) (.const (.int .u64 8)), none⟩, ⟨some 0, .mv (.tmp 16), none⟩]
def Xn91_24 : C := regL [0, 2] none [⟨some 17, .mv (.tmp 2), none⟩, ⟨some 18, .bin 3 .add (.tmp 17) (.const (.int .i64 8)), none⟩, ⟨some 2, .mv (.tmp 18), none⟩]
def Xn91_22 : C := .seq Xn91_23 Xn91_24
def Xn91_21 : C := .cond (.tmp 14) Xn91_22 .skip
def Xn91_19 : C := .seq Xn91_20 Xn91_21
def Xn91_27 : C := regL [2] none [⟨some 19, .mv (.tmp 2), none⟩, ⟨some 20, .mv (.tmp 0), none⟩, ⟨some 21, .cvt .u8 (.tmp 20), none⟩, ⟨some 22, .sidx (.const (.string ⟨#[0, 1, 2, 2, 3, 3, 3, 3, 4, 4, 4, 4, 4, 4, 4, 4, 5, 5, 5, 5, 5, 5, 5, 5, 5, 5, 5, 5, 5, 5, 5, 5, 6, 6, 6, 6, 6, 6, 6, 6, 6, 6, 6, 6, 6, 6, 6, 6, 6, 6, 6, 6, 6, 6, 6, 6, 6, 6, 6, 6, 6, 6, 6, 6, 7, 7, 7, 7, 7, 7, 7, 7, 7, 7, 7, 7, 7, 7, 7, 7, 7, 7, 7, 7, 7, 7, 7, 7, 7, 7, 7, 7, 7, 7, 7, 7, 7, 7, 7, 7, 7, 7, 7, 7, 7, 7, 7, 7, 7, 7, 7, 7, 7, 7, 7, 7, 7, 7, 7, 7, 7, 7, 7, 7, 7, 7, 7, 7, 8, 8, 8, 8, 8, 8, 8, 8, 8, 8, 8, 8, 8, 8, 8, 8, 8, 8, 8, 8, 8, 8, 8, 8, 8, 8, 8, 8, 8, 8, 8, 8, 8, 8, 8, 8, 8, 8, 8, 8, 8, 8, 8, 8, 8, 8, 8, 8, 8, 8, 8, 8, 8, 8, 8, 8, 8, 8, 8, 8, 8, 8, 8, 8, 8, 8, 8, 8, 8, 8, 8, 8, 8, 8, 8, 8, 8, 8, 8, 8, 8, 8, 8, 8, 8, 8, 8, 8, 8, 8, 8, 8, 8, 8, 8, 8, 8, 8, 8, 8, 8, 8, 8, 8, 8, 8, 8, 8, 8, 8, 8, 8, 8, 8, 8, 8, 8, 8, 8, 8, 8, 8, 8, 8, 8, 8, 8, 8]⟩)) (.tmp 21), none⟩, ⟨some 23, .cvt .i64 (.tmp 22), none⟩, ⟨some 24, .bin 3 .add (.tmp 19) (.tmp 23), none⟩, ⟨some 2, .mv (.tmp 24), none⟩]
def Xn91_26 : C := .seq Xn91_27 .ret
def Xn91_18 : C := seqL [0, 2] Xn91_19 Xn91_26
def Xn91_10 : C := seqL [0, 2] Xn91_11 Xn91_18
def Xn91_2 : C := seqL [0, 2] Xn91_3 Xn91_10
def Xn91_0 : C := .seq Xn91_1 Xn91_2
theorem Xt91 : Text Try.prog 91 Xn91_0 25 1 [.t 2] := ⟨⟨Try.f91, [], Try.func91, by kernel_rfl, by kernel_rfl, by kernel_rfl, by kernel_rfl⟩⟩
def Xn92_1 : C := regL [0] none [⟨some 2, .mv (.const (.bool false)), none⟩]
def Xn92_3 : C := regL [2] none [⟨some 3, .mv (.tmp 0), none⟩, ⟨some 4, .mv (.tmp 0), none⟩, ⟨some 5, .bin 2 .neq (.tmp 3) (.tmp 4), none⟩, ⟨some 2, .mv (.tmp 5), none⟩]
def Xn92_2 : C := .seq Xn92_3 .ret
def Xn92_0 : C := .seq Xn92_1 Xn92_2
theorem Xt92 : Text Try.prog 92 Xn92_0 6 1 [.t 2] := ⟨⟨Try.f92, [], Try.func92, by kernel_rfl, by kernel_rfl, by kernel_rfl, by kernel_rfl⟩⟩
def Xn93_1 : C := regL [0] none [⟨some 2, .mv (.const (.int .i64 0)), none⟩]
def Xn93_3 : C := regL [2] none [⟨some 3, .mv (.tmp 0), none⟩, ⟨some 4, .call 91 [.tmp 3], none⟩, ⟨some 5, .bin 3 .sub (.const (.int .i64 64)) (.tmp 4), none⟩, ⟨some 2, .mv (.tmp 5), none⟩]
def Xn93_2 : C := .seq Xn93_3 .ret
def Xn93_0 : C := .seq Xn93_1 Xn93_2
theorem Xt93 : Text Try.prog 93 Xn93_0 6 1 [.t 2] := ⟨⟨Try.f93, [], Try.func93, by kernel_rfl, by kernel_rfl, by kernel_rfl, by kernel_rfl⟩⟩
end Go.Proofs.Ytlegpipcmnnaoaa

namespace Go.Proofs.Ytlegpipcmnnaoaa
open Go Sy
set_option maxRecDepth 100000
set_option maxHeartbeats 4000000
set_option linter.unusedVariables false
set_option linter.unusedSimpArgs false
theorem mixed : Try.prog.follows .mixedOrders = true := by kernel_rfl
abbrev iv (n : Int) : AV := .v (.int .i64 n)
abbrev bv (b : Bool) : AV := .v (.bool b)
abbrev uv (n : Nat) : AV := .v (.int .u64 n)
theorem maskN (a : Nat) (ha : a < 18446744073709551616) : bits .and .u64 (a : Int) 4294967295 = ((a % 4294967296 : Nat) : Int) := by
  have h := bits_and_u64_nat a 4294967295 ha (by omega)
  have e : a &&& 4294967295 = a % 4294967296 := Nat.and_two_pow_sub_one_eq_mod a 32
  rw [e] at h
  exact h
theorem shrC (a : Int) (s : Nat) (b : Int) (h : (2 : Int) ^ min s IntKind.u64.bits = b) (hb : 0 ≤ b) : a.fdiv (2 ^ min s IntKind.u64.bits) = a / b := by
  rw [h, Int.fdiv_eq_ediv_of_nonneg _ hb]
theorem shr32 (a : Int) : a.fdiv (2 ^ min 32 IntKind.u64.bits) = a / 4294967296 := shrC a 32 _ (by decide) (by decide)
theorem shr16 (a : Int) : a.fdiv (2 ^ min 16 IntKind.u64.bits) = a / 65536 := shrC a 16 _ (by decide) (by decide)
theorem shr8 (a : Int) : a.fdiv (2 ^ min 8 IntKind.u64.bits) = a / 256 := shrC a 8 _ (by decide) (by decide)
theorem divN (a : Nat) : (a : Int) / 4294967296 = ((a / 4294967296 : Nat) : Int) := by omega
theorem mulN (a b : Nat) : (a : Int) * (b : Int) = ((a * b : Nat) : Int) := (Int.natCast_mul a b).symm
theorem addN (a b : Nat) : (a : Int) + (b : Int) = ((a + b : Nat) : Int) := (Int.natCast_add a b).symm
theorem wrapN (a : Nat) (ha : a < 18446744073709551616) : IntKind.u64.wrap (a : Int) = (a : Int) := by rw [IntKind.wrap_u64]; omega
theorem wrapM (a : Nat) : IntKind.u64.wrap (a : Int) = ((a % 18446744073709551616 : Nat) : Int) := by rw [IntKind.wrap_u64]; omega
theorem fn80 (x y : Nat) (hx : x < 18446744073709551616) (hy : y < 18446744073709551616) : Sy.Fn Try.prog 80 [uv x, uv y] (.tup [uv (x * y / 18446744073709551616), uv (x * y % 18446744073709551616)]) := by
  refine Fn_of_W mixed Xt80 rfl ?_
  obtain ⟨bd, bt, bw, hhi⟩ := Lib.mul64_hi x y hx hy
  have ba := Lib.half_mul_le (a := x / 4294967296) (b := y / 4294967296) (by omega) (by omega)
  have bb := Lib.half_mul_le (a := x / 4294967296) (b := y % 4294967296) (by omega) (by omega)
  have bc := Lib.half_mul_le (a := x % 4294967296) (b := y / 4294967296) (by omega) (by omega)
  have ba' : x / 4294967296 * (y / 4294967296) < 18446744073709551616 := by omega
  have bb' : x / 4294967296 * (y % 4294967296) < 18446744073709551616 := by omega
  have bc' : x % 4294967296 * (y / 4294967296) < 18446744073709551616 := by omega
  have bh1 : x / 4294967296 * (y / 4294967296) + (x / 4294967296 * (y % 4294967296) + x % 4294967296 * (y % 4294967296) / 4294967296) / 4294967296 < 18446744073709551616 := by omega
  have bh : x / 4294967296 * (y / 4294967296) + (x / 4294967296 * (y % 4294967296) + x % 4294967296 * (y % 4294967296) / 4294967296) / 4294967296 + ((x / 4294967296 * (y % 4294967296) + x % 4294967296 * (y % 4294967296) / 4294967296) % 4294967296 + x % 4294967296 * (y / 4294967296)) / 4294967296 < 18446744073709551616 := by omega
  repeat' (first | refine w1g ?_ | refine w1l ?_ | refine w1q ?_ | refine w1b ?_ | refine w1p ?_ | ((first | refine w1r ?_ | refine w1k ?_ | refine w1e ?_); (refine sy1 ?_; try exact True.intro)) | refine an2 ?_ | fail)
  simp only [maskN x hx, maskN y hy, shr32, divN, mulN, addN, wrapN _ bd, wrapN _ bb', wrapN _ bt, maskN _ bt, wrapN _ bc', wrapN _ bw, wrapN _ ba', wrapN _ bh1, wrapN _ bh, wrapM (x * y)]
  rw [hhi]
  exact W_ret ⟨[_, _], ⟨rfl, rfl, rfl⟩, rfl⟩
end Go.Proofs.Ytlegpipcmnnaoaa

namespace Go.Proofs.Ytlegpipcmnnaoaa
open Go Sy
set_option maxRecDepth 100000
set_option maxHeartbeats 4000000
set_option linter.unusedVariables false
set_option linter.unusedSimpArgs false
abbrev uw (n : Int) : AV := .v (.int .u64 n)
def Bits (x : Int) (n : Nat) : Prop := 2 ^ n ≤ 2 * x ∧ x < 2 ^ n
theorem Bits.up {x : Int} {n : Nat} (k : Nat) (h : Bits (x / 2 ^ k) n) : Bits x (n + k) := by
  obtain ⟨h1, h2⟩ := h
  have hk : (0 : Int) < 2 ^ k := Int.pow_pos (by omega)
  have hm := Int.mul_ediv_add_emod x (2 ^ k)
  have hr := Int.emod_lt_of_pos x hk
  have hr0 := Int.emod_nonneg x (Int.ne_of_gt hk)
  have e : (2 : Int) ^ (n + k) = 2 ^ n * 2 ^ k := Int.pow_add ..
  have m1 := Int.mul_le_mul_of_nonneg_right h1 (Int.le_of_lt hk)
  have m2 := Int.mul_le_mul_of_nonneg_right (show x / 2 ^ k + 1 ≤ 2 ^ n by omega) (Int.le_of_lt hk)
  unfold Bits
  rw [e]
  rw [Int.add_mul] at m2
  rw [Int.mul_assoc, Int.mul_comm (x / 2 ^ k)] at m1
  rw [Int.mul_comm (x / 2 ^ k)] at m2
  constructor <;> omega
def lo (b x : Int) : Int := if b ≤ x then x / b else x
def nb (b : Int) (k : Nat) (x : Int) : Nat := if b ≤ x then k else 0
theorem Bits.lo {b x : Int} {n : Nat} (k : Nat) (hb : (2 : Int) ^ k = b) (h : Bits (lo b x) n) : Bits x (n + nb b k x) := by
  unfold Go.Proofs.Ytlegpipcmnnaoaa.lo at h
  unfold nb
  subst hb
  split
  · rename_i h1; rw [if_pos h1] at h; exact h.up k
  · rename_i h1; rw [if_neg h1] at h; exact h
def tab : ByteArray := ⟨#[0, 1, 2, 2, 3, 3, 3, 3, 4, 4, 4, 4, 4, 4, 4, 4, 5, 5, 5, 5, 5, 5, 5, 5, 5, 5, 5, 5, 5, 5, 5, 5, 6, 6, 6, 6, 6, 6, 6, 6, 6, 6, 6, 6, 6, 6, 6, 6, 6, 6, 6, 6, 6, 6, 6, 6, 6, 6, 6, 6, 6, 6, 6, 6, 7, 7, 7, 7, 7, 7, 7, 7, 7, 7, 7, 7, 7, 7, 7, 7, 7, 7, 7, 7, 7, 7, 7, 7, 7, 7, 7, 7, 7, 7, 7, 7, 7, 7, 7, 7, 7, 7, 7, 7, 7, 7, 7, 7, 7, 7, 7, 7, 7, 7, 7, 7, 7, 7, 7, 7, 7, 7, 7, 7, 7, 7, 7, 7, 8, 8, 8, 8, 8, 8, 8, 8, 8, 8, 8, 8, 8, 8, 8, 8, 8, 8, 8, 8, 8, 8, 8, 8, 8, 8, 8, 8, 8, 8, 8, 8, 8, 8, 8, 8, 8, 8, 8, 8, 8, 8, 8, 8, 8, 8, 8, 8, 8, 8, 8, 8, 8, 8, 8, 8, 8, 8, 8, 8, 8, 8, 8, 8, 8, 8, 8, 8, 8, 8, 8, 8, 8, 8, 8, 8, 8, 8, 8, 8, 8, 8, 8, 8, 8, 8, 8, 8, 8, 8, 8, 8, 8, 8, 8, 8, 8, 8, 8, 8, 8, 8, 8, 8, 8, 8, 8, 8, 8, 8, 8, 8, 8, 8, 8, 8, 8, 8, 8, 8, 8, 8, 8, 8, 8, 8, 8, 8]⟩
def tabOK (i : Nat) : Bool := decide (byteAt tab i ≤ 8) && (decide (i = 0) || (decide (2 ^ byteAt tab i ≤ 2 * i) && decide (i < 2 ^ byteAt tab i)))
theorem tab_all : (List.range 256).all tabOK = true := by decide +kernel
theorem tab_size : tab.size = 256 := by decide +kernel
theorem tab_bits {u : Int} (h0 : 0 ≤ u) (h : u < 256) : byteAt tab u.toNat ≤ 8 ∧ (0 < u → Bits u (byteAt tab u.toNat)) := by
  have h1 := List.all_eq_true.1 tab_all u.toNat (by simp; omega)
  unfold tabOK at h1
  simp only [Bool.and_eq_true, Bool.or_eq_true, decide_eq_true_eq] at h1
  refine ⟨h1.1, fun h2 => ?_⟩
  have h3 := h1.2.resolve_left (by omega)
  unfold Bits
  have e : ((u.toNat : Nat) : Int) = u := by omega
  generalize byteAt tab u.toNat = n at *
  have e2 : ((2 ^ n : Nat) : Int) = (2 : Int) ^ n := Int.natCast_pow 2 n
  omega
theorem fn91 (x : Int) (h0 : 0 ≤ x) (hx : x < 18446744073709551616) : ∃ n : Nat, n ≤ 64 ∧ (0 < x → Bits x n) ∧ Sy.Fn Try.prog 91 [uw x] (iv n) := by
  generalize hy : lo 4294967296 x = y
  have hyb : 0 ≤ y ∧ y < 4294967296 := by subst hy; unfold lo; split <;> omega
  generalize hm : nb 4294967296 32 x = m
  have hmb : m ≤ 32 := by subst hm; unfold nb; split <;> omega
  generalize hz : lo 65536 y = z
  have hzb : 0 ≤ z ∧ z < 65536 := by subst hz; unfold lo; split <;> omega
  generalize hk : m + nb 65536 16 y = k
  have hkb : k ≤ 48 := by subst hk; unfold nb; split <;> omega
  generalize hu : lo 256 z = u
  have hub : 0 ≤ u ∧ u < 256 := by subst hu; unfold lo; split <;> omega
  generalize hj : k + nb 256 8 z = j
  have hjb : j ≤ 56 := by subst hj; unfold nb; split <;> omega
  have ht := tab_bits hub.1 hub.2
  have hpos : 0 < x → 0 < u := fun h => by
    have h1 : 0 < y := by subst hy; unfold lo; split <;> omega
    have h2 : 0 < z := by subst hz; unfold lo; split <;> omega
    subst hu; unfold lo; split <;> omega
  refine ⟨j + byteAt tab u.toNat, by omega, fun h => ?_, ?_⟩
  · have h1 := ht.2 (hpos h)
    rw [← hu] at h1
    have h2 := h1.lo 8 (by decide)
    rw [hu, ← hz] at h2
    have h3 := h2.lo 16 (by decide)
    rw [hz, ← hy] at h3
    have h4 := h3.lo 32 (by decide)
    rw [hy] at h4
    rw [← hj, ← hk, ← hm]
    rw [show nb 4294967296 32 x + nb 65536 16 y + nb 256 8 z + byteAt tab u.toNat = byteAt tab u.toNat + nb 256 8 z + nb 65536 16 y + nb 4294967296 32 x by omega]
    exact h4
  refine Fn_of_W mixed Xt91 rfl ?_
  repeat' (first | refine w1g ?_ | refine w1l ?_ | refine w1q ?_ | refine w1b ?_ | refine w1p ?_ | ((first | refine w1r ?_ | refine w1k ?_ | refine w1e ?_); (refine sy1 ?_; try exact True.intro)) | refine an2 ?_ | fail)
  refine W_meet [(0, uw y), (2, iv m)] [] ?_ ?_
  · subst hy hm
    unfold lo nb
    refine W_condD (by rfl) (fun h => ?_) (fun h => ?_)
    · rw [if_pos h, if_pos h]
      repeat' (first | refine w1g ?_ | refine w1l ?_ | refine w1q ?_ | refine w1b ?_ | refine w1p ?_ | ((first | refine w1r ?_ | refine w1k ?_ | refine w1e ?_); simp (maxSteps := 400000) (disch := omega) only [push_cast, ↓reduceIte, reduceCtorEq, Nat.reduceAdd, Nat.reduceSub, Nat.reduceEqDiff, Nat.reduceLeDiff, Nat.reduceLT, Nat.reduceBEq, Nat.reduceDiv, Nat.reduceMod, Nat.reducePow, Nat.reduceMul, Int.reduceToNat, Int.reduceLT, Int.reduceLE, shr32]) | refine an2 ?_ | fail)
      refine ⟨by rfl, ?_⟩
      (refine syE ?_; try exact True.intro)
      all_goals omega
    · rw [if_neg h, if_neg h]
      repeat' (first | refine w1g ?_ | refine w1l ?_ | refine w1q ?_ | refine w1b ?_ | refine w1p ?_ | ((first | refine w1r ?_ | refine w1k ?_ | refine w1e ?_); (refine sy1 ?_; try exact True.intro)) | refine an2 ?_ | fail)
      rfl
  (refine sy1 ?_; try exact True.intro)
  repeat' (first | refine w1g ?_ | refine w1l ?_ | refine w1q ?_ | refine w1b ?_ | refine w1p ?_ | ((first | refine w1r ?_ | refine w1k ?_ | refine w1e ?_); (refine sy1 ?_; try exact True.intro)) | refine an2 ?_ | fail)
  refine W_meet [(0, uw z), (2, iv k)] [] ?_ ?_
  · subst hz hk
    unfold lo nb
    refine W_condD (by rfl) (fun h => ?_) (fun h => ?_)
    · rw [if_pos h, if_pos h]
      repeat' (first | refine w1g ?_ | refine w1l ?_ | refine w1q ?_ | refine w1b ?_ | refine w1p ?_ | ((first | refine w1r ?_ | refine w1k ?_ | refine w1e ?_); simp (maxSteps := 400000) (disch := omega) only [push_cast, ↓reduceIte, reduceCtorEq, Nat.reduceAdd, Nat.reduceSub, Nat.reduceEqDiff, Nat.reduceLeDiff, Nat.reduceLT, Nat.reduceBEq, Nat.reduceDiv, Nat.reduceMod, Nat.reducePow, Nat.reduceMul, Int.reduceToNat, Int.reduceLT, Int.reduceLE, shr16]) | refine an2 ?_ | fail)
      refine ⟨by rfl, ?_⟩
      (refine syE ?_; try exact True.intro)
      all_goals omega
    · rw [if_neg h, if_neg h]
      repeat' (first | refine w1g ?_ | refine w1l ?_ | refine w1q ?_ | refine w1b ?_ | refine w1p ?_ | ((first | refine w1r ?_ | refine w1k ?_ | refine w1e ?_); (refine sy1 ?_; try exact True.intro)) | refine an2 ?_ | fail)
      rfl
  (refine sy1 ?_; try exact True.intro)
  repeat' (first | refine w1g ?_ | refine w1l ?_ | refine w1q ?_ | refine w1b ?_ | refine w1p ?_ | ((first | refine w1r ?_ | refine w1k ?_ | refine w1e ?_); (refine sy1 ?_; try exact True.intro)) | refine an2 ?_ | fail)
  refine W_meet [(0, uw u), (2, iv j)] [] ?_ ?_
  · subst hu hj
    unfold lo nb
    refine W_condD (by rfl) (fun h => ?_) (fun h => ?_)
    · rw [if_pos h, if_pos h]
      repeat' (first | refine w1g ?_ | refine w1l ?_ | refine w1q ?_ | refine w1b ?_ | refine w1p ?_ | ((first | refine w1r ?_ | refine w1k ?_ | refine w1e ?_); simp (maxSteps := 400000) (disch := omega) only [push_cast, ↓reduceIte, reduceCtorEq, Nat.reduceAdd, Nat.reduceSub, Nat.reduceEqDiff, Nat.reduceLeDiff, Nat.reduceLT, Nat.reduceBEq, Nat.reduceDiv, Nat.reduceMod, Nat.reducePow, Nat.reduceMul, Int.reduceToNat, Int.reduceLT, Int.reduceLE, shr8]) | refine an2 ?_ | fail)
      refine ⟨by rfl, ?_⟩
      (refine syE ?_; try exact True.intro)
      all_goals omega
    · rw [if_neg h, if_neg h]
      repeat' (first | refine w1g ?_ | refine w1l ?_ | refine w1q ?_ | refine w1b ?_ | refine w1p ?_ | ((first | refine w1r ?_ | refine w1k ?_ | refine w1e ?_); (refine sy1 ?_; try exact True.intro)) | refine an2 ?_ | fail)
      rfl
  (refine sy1 ?_; try exact True.intro)
  have hw : IntKind.u8.wrap u = u := by rw [IntKind.wrap_u8]; omega
  refine W_seq (W_regL ?_)
  rw [show ({ data := _ } : ByteArray) = tab from rfl]
  simp (maxSteps := 400000) (disch := omega) only [push_cast, ↓reduceIte, reduceCtorEq, Nat.reduceAdd, Nat.reduceSub, Nat.reduceEqDiff, Nat.reduceLeDiff, Nat.reduceLT, Nat.reduceBEq, Nat.reduceDiv, Nat.reduceMod, Nat.reducePow, Nat.reduceMul, Int.reduceToNat, Int.reduceLT, Int.reduceLE, hw, tab_size]
  refine ⟨⟨hub.1, hub.2⟩, ?_⟩
  exact W_ret ⟨[_], ⟨rfl, rfl⟩, rfl⟩
theorem fn93 (x : Int) (h0 : 0 < x) (hx : x < 18446744073709551616) : ∃ n : Nat, n ≤ 64 ∧ Bits x n ∧ Sy.Fn Try.prog 93 [uw x] (iv (64 - n)) := by
  obtain ⟨n, hn, hb, c⟩ := fn91 x (by omega) hx
  refine ⟨n, hn, hb h0, ?_⟩
  refine Fn_of_W mixed Xt93 rfl ?_
  repeat' (first | refine w1g ?_ | refine w1l ?_ | refine w1q ?_ | refine w1b ?_ | refine w1p ?_ | ((first | refine w1r ?_ | refine w1k ?_ | refine w1e ?_ | refine CallC.now (c) ?_); (refine sy1 ?_; try exact True.intro)) | refine an2 ?_ | fail)
  exact W_ret ⟨[_], ⟨rfl, rfl⟩, rfl⟩
end Go.Proofs.Ytlegpipcmnnaoaa

namespace Go.Proofs.Ytlegpipcmnnaoaa
open Go Sy
set_option maxRecDepth 100000
set_option linter.unusedVariables false
structure Half (Y u d : Int) : Prop where
  y : 9223372036854775808 ≤ Y ∧ Y < 18446744073709551616
  u : 0 ≤ u ∧ u < Y
  d : 0 ≤ d ∧ d < 4294967296
def Half.q (Y u d : Int) : Int := (u * 4294967296 + d) / Y
theorem split_Y (Y q : Int) : q * Y = (q * (Y / 4294967296)) * 4294967296 + q * (Y % 4294967296) := by
  have h : Y = Y / 4294967296 * 4294967296 + Y % 4294967296 := by omega
  rw [Int.mul_assoc, ← Int.mul_add, ← h]
theorem Half.no {Y u d q r : Int} (h : Half Y u d) (e : q * (Y / 4294967296) + r = u) (hc : q * (Y % 4294967296) ≤ 4294967296 * r + d) : q ≤ Half.q Y u d := by
  unfold Half.q
  have := h.y
  rw [Int.le_ediv_iff_mul_le (by omega), split_Y Y q]
  omega
theorem Half.yes {Y u d q r : Int} (h : Half Y u d) (e : q * (Y / 4294967296) + r = u) (hc : 4294967296 * r + d < q * (Y % 4294967296)) : Half.q Y u d < q := by
  unfold Half.q
  have := h.y
  rw [Int.ediv_lt_iff_lt_mul (by omega), split_Y Y q]
  omega
theorem Half.lt {Y u d : Int} (h : Half Y u d) : 0 ≤ Half.q Y u d ∧ Half.q Y u d < 4294967296 := by
  have h1 := h.y; have h2 := h.u; have h3 := h.d
  unfold Half.q
  constructor
  · exact Int.ediv_nonneg (by omega) (by omega)
  · rw [Int.ediv_lt_iff_lt_mul (by omega)]
    omega
theorem Half.start {Y u d : Int} (h : Half Y u d) : u / (Y / 4294967296) * (Y / 4294967296) + u % (Y / 4294967296) = u ∧ Half.q Y u d ≤ u / (Y / 4294967296) ∧ u / (Y / 4294967296) ≤ 4294967297 ∧ 0 ≤ u % (Y / 4294967296) ∧ u % (Y / 4294967296) < 4294967296 := by
  have h1 := h.y; have h2 := h.u; have h3 := h.d
  have hlt := h.lt
  have hp : 0 < Y / 4294967296 := by omega
  have e := Int.ediv_mul_add_emod u (Y / 4294967296)
  have e1 := Int.emod_nonneg u (Int.ne_of_gt hp)
  have e2 := Int.emod_lt_of_pos u hp
  refine ⟨e, ?_, ?_, e1, by omega⟩
  · rw [Int.le_ediv_iff_mul_le hp]
    have h4 : Half.q Y u d * Y ≤ u * 4294967296 + d := Int.ediv_mul_le _ (by omega)
    rw [split_Y Y (Half.q Y u d)] at h4
    have h5 : 0 ≤ Half.q Y u d * (Y % 4294967296) := Int.mul_nonneg hlt.1 (by omega)
    omega
  · have h4 : u / (Y / 4294967296) < 4294967298 := by
      rw [Int.ediv_lt_iff_lt_mul hp]
      omega
    omega
theorem Half.step {Y u d q r : Int} (h : Half Y u d) (e : q * (Y / 4294967296) + r = u) (hq : Half.q Y u d ≤ q) (hc : 4294967296 ≤ q ∨ 4294967296 * r + d < q * (Y % 4294967296)) : (q - 1) * (Y / 4294967296) + (r + Y / 4294967296) = u ∧ Half.q Y u d ≤ q - 1 := by
  have hlt := h.lt
  refine ⟨by rw [Int.sub_mul, Int.one_mul]; omega, ?_⟩
  rcases hc with hc | hc
  · omega
  · have := h.yes e hc; omega
theorem Half.break {Y u d q r : Int} (h : Half Y u d) (e : q * (Y / 4294967296) + r = u) (hq : Half.q Y u d ≤ q) (hb : q ≤ 4294967296) (hr : 4294967296 ≤ r) : q = Half.q Y u d := by
  have h1 := h.y; have h2 := h.u; have h3 := h.d
  have hlt := h.lt
  have m : q * (Y % 4294967296) ≤ 4294967296 * 4294967295 := Int.mul_le_mul hb (by omega) (by omega) (by omega)
  have := h.no e (by omega)
  omega
theorem Half.stop {Y u d q r : Int} (h : Half Y u d) (e : q * (Y / 4294967296) + r = u) (hq : Half.q Y u d ≤ q) (hc : q * (Y % 4294967296) ≤ 4294967296 * r + d) : q = Half.q Y u d := by
  have := h.no e hc
  omega
def Half.r (Y u d : Int) : Int := u * 4294967296 + d - Half.q Y u d * Y
theorem Half.r_lt {Y u d : Int} (h : Half Y u d) : 0 ≤ Half.r Y u d ∧ Half.r Y u d < Y := by
  have h1 := h.y
  have e := Int.ediv_mul_add_emod (u * 4294967296 + d) Y
  have e1 := Int.emod_nonneg (u * 4294967296 + d) (show Y ≠ 0 by omega)
  have e2 := Int.emod_lt_of_pos (u * 4294967296 + d) (show 0 < Y by omega)
  unfold Half.r Half.q
  omega
theorem long_div {y P N u d1 d0 : Int} (hy : 0 < y) (hP : 0 < P) (e : N * P = u * 18446744073709551616 + d1 * 4294967296 + d0) (h : Half (y * P) u d1) (h0 : Half (y * P) (Half.r (y * P) u d1) d0) :
    Half.q (y * P) u d1 * 4294967296 + Half.q (y * P) (Half.r (y * P) u d1) d0 = N / y ∧ Half.r (y * P) (Half.r (y * P) u d1) d0 / P = N % y := by
  have hr := h0.r_lt
  have e1 : Half.r (y * P) u d1 = u * 4294967296 + d1 - Half.q (y * P) u d1 * (y * P) := rfl
  have e2 : Half.r (y * P) (Half.r (y * P) u d1) d0 = Half.r (y * P) u d1 * 4294967296 + d0 - Half.q (y * P) (Half.r (y * P) u d1) d0 * (y * P) := rfl
  generalize hR0 : Half.r (y * P) (Half.r (y * P) u d1) d0 = R0 at *
  generalize hR1 : Half.r (y * P) u d1 = R1 at *
  generalize hq1 : Half.q (y * P) u d1 = q1 at *
  generalize hq0 : Half.q (y * P) R1 d0 = q0 at *
  have e3 : (q1 * 4294967296 + q0) * (y * P) = q1 * (y * P) * 4294967296 + q0 * (y * P) := by
    rw [Int.add_mul, Int.mul_assoc, Int.mul_comm 4294967296, ← Int.mul_assoc]
  have e4 : R0 = (N - (q1 * 4294967296 + q0) * y) * P := by
    rw [Int.sub_mul, Int.mul_assoc, e3]
    omega
  have e5 : R0 / P = N - (q1 * 4294967296 + q0) * y := by
    rw [e4, Int.mul_ediv_cancel _ (Int.ne_of_gt hP)]
  have e6 : 0 ≤ N - (q1 * 4294967296 + q0) * y := by
    rw [e4] at hr
    exact Int.nonneg_of_mul_nonneg_left hr.1 hP
  have e7 : N - (q1 * 4294967296 + q0) * y < y := by
    rw [e4] at hr
    exact Int.lt_of_mul_lt_mul_right hr.2 (Int.le_of_lt hP)
  have e8 : N / y = q1 * 4294967296 + q0 := by
    have h1 : q1 * 4294967296 + q0 ≤ N / y := by rw [Int.le_ediv_iff_mul_le hy]; omega
    have h2 : N / y < q1 * 4294967296 + q0 + 1 := by rw [Int.ediv_lt_iff_lt_mul hy, Int.add_mul]; omega
    omega
  refine ⟨e8.symm, ?_⟩
  rw [e5, Int.emod_def, e8, Int.mul_comm]
theorem shift_up {y : Int} {n : Nat} (h : Bits y n) (hn : n ≤ 64) : 9223372036854775808 ≤ y * 2 ^ (64 - n) ∧ y * 2 ^ (64 - n) < 18446744073709551616 := by
  obtain ⟨h1, h2⟩ := h
  have hk : (0 : Int) < 2 ^ (64 - n) := Int.pow_pos (by omega)
  have e : (2 : Int) ^ n * 2 ^ (64 - n) = 18446744073709551616 := by
    rw [← Int.pow_add, show n + (64 - n) = 64 by omega]; rfl
  have m1 := Int.mul_le_mul_of_nonneg_right h1 (Int.le_of_lt hk)
  have m2 := Int.mul_lt_mul_of_pos_right h2 hk
  rw [Int.mul_assoc] at m1
  omega
theorem shift_parts {hi lo y : Int} {n : Nat} (hn : n ≤ 64) (h : 0 ≤ hi ∧ hi < y) (hl : 0 ≤ lo ∧ lo < 18446744073709551616) :
    (hi * 18446744073709551616 + lo) * 2 ^ (64 - n) = (hi * 2 ^ (64 - n) + lo / 2 ^ n) * 18446744073709551616 + lo * 2 ^ (64 - n) % 18446744073709551616 ∧
    0 ≤ hi * 2 ^ (64 - n) + lo / 2 ^ n ∧ hi * 2 ^ (64 - n) + lo / 2 ^ n < y * 2 ^ (64 - n) ∧ 0 ≤ lo / 2 ^ n ∧ lo / 2 ^ n < 2 ^ (64 - n) := by
  have hk : (0 : Int) < 2 ^ (64 - n) := Int.pow_pos (by omega)
  have hk2 : (0 : Int) < 2 ^ n := Int.pow_pos (by omega)
  have e : (2 : Int) ^ n * 2 ^ (64 - n) = 18446744073709551616 := by
    rw [← Int.pow_add, show n + (64 - n) = 64 by omega]; rfl
  have e2 : lo * 2 ^ (64 - n) / 18446744073709551616 = lo / 2 ^ n := by
    rw [← e]; exact Int.mul_ediv_mul_of_pos_left _ _ hk
  have h1 : 0 ≤ lo / 2 ^ n := Int.ediv_nonneg hl.1 (Int.le_of_lt hk2)
  have h2 : lo / 2 ^ n < 2 ^ (64 - n) := by
    rw [Int.ediv_lt_iff_lt_mul hk2, Int.mul_comm, e]; exact hl.2
  have h3 : 0 ≤ hi * 2 ^ (64 - n) := Int.mul_nonneg h.1 (Int.le_of_lt hk)
  have h4 := Int.mul_le_mul_of_nonneg_right (show hi + 1 ≤ y by omega) (Int.le_of_lt hk)
  rw [Int.add_mul, Int.one_mul] at h4
  refine ⟨?_, by omega, by omega, h1, h2⟩
  rw [Int.add_mul, Int.mul_assoc, Int.mul_comm 18446744073709551616, ← Int.mul_assoc]
  omega
theorem or_add {a b : Int} {k : Nat} (ha : 0 ≤ a) (hb : 0 ≤ b) (hlt : b < 2 ^ k) (h : a * 2 ^ k + b < 18446744073709551616) : bits .or .u64 (a * 2 ^ k) b = a * 2 ^ k + b := by
  obtain ⟨x, rfl⟩ : ∃ x : Nat, a = x := ⟨a.toNat, by omega⟩
  obtain ⟨y, rfl⟩ : ∃ y : Nat, b = y := ⟨b.toNat, by omega⟩
  have e : (x : Int) * 2 ^ k = ((x * 2 ^ k : Nat) : Int) := by rw [Int.natCast_mul, Int.natCast_pow]; rfl
  have hl : y < 2 ^ k := by
    have : ((2 ^ k : Nat) : Int) = (2 : Int) ^ k := Int.natCast_pow 2 k
    omega
  rw [e] at h ⊢
  rw [bits_or_u64_nat _ _ (by omega) (by omega), ← Nat.shiftLeft_eq, ← Nat.shiftLeft_add_eq_or_of_lt hl]
  omega
end Go.Proofs.Ytlegpipcmnnaoaa

namespace Go.Proofs.Ytlegpipcmnnaoaa
open Go Sy
set_option maxRecDepth 100000
set_option maxHeartbeats 4000000
set_option linter.unusedVariables false
set_option linter.unusedSimpArgs false
theorem wrapU {x : Int} (h : 0 ≤ x ∧ x < 18446744073709551616) : IntKind.u64.wrap x = x := by rw [IntKind.wrap_u64]; omega
theorem maskI {a : Int} (h : 0 ≤ a ∧ a < 18446744073709551616) : bits .and .u64 a 4294967295 = a % 4294967296 := by
  obtain ⟨n, rfl⟩ : ∃ n : Nat, a = n := ⟨a.toNat, by omega⟩
  rw [maskN n (by omega)]; omega
theorem wrap_rem {a b c r : Int} (h : a + b - c = r) (hr : 0 ≤ r ∧ r < 18446744073709551616) : IntKind.u64.wrap (IntKind.u64.wrap (IntKind.u64.wrap a + b) - IntKind.u64.wrap c) = r := by
  simp only [IntKind.wrap_u64]; omega
theorem fn81 (hi lo y : Int) (h : 0 ≤ hi ∧ hi < y) (hl : 0 ≤ lo ∧ lo < 18446744073709551616) (hy : y < 18446744073709551616) : Sy.Fn Try.prog 81 [uw hi, uw lo, uw y] (.tup [uw ((hi * 18446744073709551616 + lo) / y), uw ((hi * 18446744073709551616 + lo) % y)]) := by
  refine Fn_of_W mixed Xt81 rfl ?_
  obtain ⟨n, hn, hb, c⟩ := fn93 y (by omega) hy
  have hsu := shift_up hb hn
  obtain ⟨hp1, hp2, hp3, hp4, hp5⟩ := shift_parts hn h hl
  repeat' (first | refine w1g ?_ | refine w1l ?_ | refine w1q ?_ | refine w1b ?_ | refine w1p ?_ | ((first | refine w1r ?_ | refine w1k ?_ | refine w1e ?_); (refine sy1 ?_; try exact True.intro)) | refine an2 ?_ | fail)
  refine W_cond (by rfl) (fun h1 => by rw [beq_iff_eq] at h1; omega) (fun _ => ?_)
  repeat' (first | refine w1g ?_ | refine w1l ?_ | refine w1q ?_ | refine w1b ?_ | refine w1p ?_ | ((first | refine w1r ?_ | refine w1k ?_ | refine w1e ?_); (refine sy1 ?_; try exact True.intro)) | refine an2 ?_ | fail)
  refine W_condD (by rfl) (fun h1 => by omega) (fun _ => ?_)
  repeat' (first | refine w1g ?_ | refine w1l ?_ | refine w1q ?_ | refine w1b ?_ | refine w1p ?_ | ((first | refine w1r ?_ | refine w1k ?_ | refine w1e ?_); (refine sy1 ?_; try exact True.intro)) | refine an2 ?_ | fail)
  refine W_cond (by rfl) (fun h1 => ?_) (fun h1 => ?_)
  · rw [beq_iff_eq] at h1
    subst h1
    have e1 := Int.ediv_nonneg hl.1 (show 0 ≤ y by omega)
    have e2 : lo / y ≤ lo := Int.ediv_le_self _ hl.1
    repeat' (first | refine w1g ?_ | refine w1l ?_ | refine w1q ?_ | refine w1b ?_ | refine w1p ?_ | ((first | refine w1r ?_ | refine w1k ?_ | refine w1e ?_); simp (maxSteps := 400000) (disch := omega) only [push_cast, ↓reduceIte, reduceCtorEq, Nat.reduceAdd, Nat.reduceSub, Nat.reduceEqDiff, Nat.reduceLeDiff, Nat.reduceLT, Nat.reduceBEq, Nat.reduceDiv, Nat.reduceMod, Nat.reducePow, Nat.reduceMul, Int.reduceToNat, Int.reduceLT, Int.reduceLE, Int.tdiv_eq_ediv_of_nonneg, Int.tmod_eq_emod_of_nonneg, wrapU]) | refine an2 ?_ | fail)
    exact W_ret ⟨[_, _], ⟨rfl, rfl, rfl⟩, by simp; rfl⟩
  have w1 : IntKind.u64.wrap (64 - (n : Int)) = 64 - n := wrapU ⟨by omega, by omega⟩
  have w2 : min (64 - (n : Int)).toNat IntKind.u64.bits = 64 - n := by show min _ 64 = _; omega
  have w3 : min n IntKind.u64.bits = n := by show min _ 64 = _; omega
  have w4 : IntKind.u64.wrap (n : Int) = n := wrapU ⟨by omega, by omega⟩
  have hk : (0 : Int) < 2 ^ (64 - n) := Int.pow_pos (by omega)
  have hh : 0 ≤ hi * 2 ^ (64 - n) := Int.mul_nonneg h.1 (Int.le_of_lt hk)
  have w5 : IntKind.u64.wrap (64 - (64 - (n : Int))) = n := by rw [show 64 - (64 - (n : Int)) = n by omega]; exact w4
  have w6 : IntKind.u64.wrap (y * 2 ^ (64 - n)) = y * 2 ^ (64 - n) := wrapU (by omega)
  have w7 : IntKind.u64.wrap (hi * 2 ^ (64 - n)) = hi * 2 ^ (64 - n) := wrapU (by omega)
  have w8 : lo.fdiv (2 ^ n) = lo / 2 ^ n := Int.fdiv_eq_ediv_of_nonneg _ (Int.le_of_lt (Int.pow_pos (by omega)))
  have w9 := or_add (a := hi) (b := lo / 2 ^ n) (k := 64 - n) h.1 hp4 hp5 (by omega)
  have w10 : IntKind.u64.wrap (lo * 2 ^ (64 - n)) = lo * 2 ^ (64 - n) % 18446744073709551616 := IntKind.wrap_u64 _
  have wm := maskI (a := y * 2 ^ (64 - n)) (by omega)
  have wm2 := maskI (a := lo * 2 ^ (64 - n) % 18446744073709551616) (by omega)
  have hld := fun d1 d0 => long_div (y := y) (P := 2 ^ (64 - n)) (N := hi * 18446744073709551616 + lo) (u := hi * 2 ^ (64 - n) + lo / 2 ^ n) (d1 := d1) (d0 := d0) (by omega) hk
  repeat' (first | refine w1g ?_ | refine w1l ?_ | refine w1q ?_ | refine w1b ?_ | refine w1p ?_ | ((first | refine w1r ?_ | refine w1k ?_ | refine w1e ?_ | refine CallC.now (c) ?_); simp (maxSteps := 400000) (disch := omega) only [push_cast, ↓reduceIte, reduceCtorEq, Nat.reduceAdd, Nat.reduceSub, Nat.reduceEqDiff, Nat.reduceLeDiff, Nat.reduceLT, Nat.reduceBEq, Nat.reduceDiv, Nat.reduceMod, Nat.reducePow, Nat.reduceMul, Int.reduceToNat, Int.reduceLT, Int.reduceLE, w1, w2, w3, w4, w5, w6, w7, w8, w9, w10, wm, wm2, shr32]) | refine an2 ?_ | fail)
  generalize hD : y * 2 ^ (64 - n) = Y at *
  generalize hU : hi * 2 ^ (64 - n) + lo / 2 ^ n = u at *
  generalize hE : lo * 2 ^ (64 - n) % 18446744073709551616 = e at *
  have heb : 0 ≤ e ∧ e < 18446744073709551616 := by subst hE; omega
  have H1 : Half Y u (e / 4294967296) := ⟨hsu, ⟨hp2, hp3⟩, by omega⟩
  obtain ⟨s1, s2, s3, s4, s5⟩ := H1.start
  have v1 : u.tdiv (Y / 4294967296) = u / (Y / 4294967296) := Int.tdiv_eq_ediv_of_nonneg hp2
  have s0 : 0 ≤ u / (Y / 4294967296) := Int.ediv_nonneg hp2 (by omega)
  have v2 : IntKind.u64.wrap (u / (Y / 4294967296)) = u / (Y / 4294967296) := wrapU (by omega)
  have s00 : 0 ≤ u / (Y / 4294967296) * (Y / 4294967296) := Int.mul_nonneg s0 (by omega)
  have v3 : IntKind.u64.wrap (u / (Y / 4294967296) * (Y / 4294967296)) = u / (Y / 4294967296) * (Y / 4294967296) := wrapU (by omega)
  have v4 : IntKind.u64.wrap (u - u / (Y / 4294967296) * (Y / 4294967296)) = u % (Y / 4294967296) := by
    rw [show u - u / (Y / 4294967296) * (Y / 4294967296) = u % (Y / 4294967296) by omega]; exact wrapU (by omega)
  rw [v1, v2, v3, v4]
  generalize hq0 : u / (Y / 4294967296) = q0 at *
  generalize hr0 : u % (Y / 4294967296) = r0 at *
  generalize hQ : Half.q Y u (e / 4294967296) = Q1 at *
  have wd : 0 ≤ e / 4294967296 ∧ e / 4294967296 < 4294967296 := by omega
  have we : 0 ≤ e % 4294967296 ∧ e % 4294967296 < 4294967296 := by omega
  have hQb := H1.lt
  refine W_meetB [(15, uw Q1)] [] ?_ ?_
  · refine W_loopU (fun p : Int × Int => [(15, uw p.1), (16, uw p.2)]) (fun i => []) (fun p => p.1 * (Y / 4294967296) + p.2 = u ∧ Q1 ≤ p.1 ∧ p.1 ≤ 4294967297 ∧ 0 ≤ p.2 ∧ p.2 < 4294967296) (fun p => p.1.toNat) (q0, r0) ⟨s1, s2, s3, s4, s5⟩ (by rfl) (by rfl) (fun p hp => ?_)
    obtain ⟨q, r⟩ := p
    obtain ⟨i1, i2, i3, i4, i5⟩ := hp
    simp only at i1 i2 i3 i4 i5
    have m0 : 0 ≤ q * (Y % 4294967296) := Int.mul_nonneg (by omega) (by omega)
    have v5 : IntKind.u64.wrap (4294967296 * r) = 4294967296 * r := wrapU (by omega)
    have v6 : IntKind.u64.wrap (4294967296 * r + e / 4294967296) = 4294967296 * r + e / 4294967296 := wrapU (by omega)
    have m1 : q < 4294967296 → q * (Y % 4294967296) ≤ 4294967295 * 4294967295 := fun hq => Int.mul_le_mul (by omega) (by omega) (by omega) (by omega)
    have v7 : q < 4294967296 → IntKind.u64.wrap (q * (Y % 4294967296)) = q * (Y % 4294967296) := fun hq => wrapU ⟨m0, by have := m1 hq; omega⟩
    (refine sy1 ?_; try exact True.intro)
    repeat' (first | refine w1g ?_ | refine w1l ?_ | refine w1q ?_ | refine w1b ?_ | refine w1p ?_ | ((first | refine w1r ?_ | refine w1k ?_ | refine w1e ?_); simp (maxSteps := 400000) (disch := omega) only [push_cast, ↓reduceIte, reduceCtorEq, Nat.reduceAdd, Nat.reduceSub, Nat.reduceEqDiff, Nat.reduceLeDiff, Nat.reduceLT, Nat.reduceBEq, Nat.reduceDiv, Nat.reduceMod, Nat.reducePow, Nat.reduceMul, Int.reduceToNat, Int.reduceLT, Int.reduceLE, v5, v6]) | refine an2 ?_ | fail)
    refine W_cond (by rfl) (fun hb => ?_) (fun hb => ?_)
    · have hc : 4294967296 ≤ q ∨ 4294967296 * r + e / 4294967296 < q * (Y % 4294967296) := by
        rw [Bool.or_eq_true, decide_eq_true_eq, decide_eq_true_eq] at hb
        by_cases hq : 4294967296 ≤ q
        · exact .inl hq
        · rw [v7 (by omega)] at hb
          exact .inr (hb.resolve_left hq)
      obtain ⟨t1, t2⟩ := H1.step i1 (by rw [hQ]; exact i2) hc
      rw [hQ] at t2
      have v8 : IntKind.u64.wrap (q - 1) = q - 1 := wrapU (by omega)
      have v9 : IntKind.u64.wrap (r + Y / 4294967296) = r + Y / 4294967296 := wrapU (by omega)
      repeat' (first | refine w1g ?_ | refine w1l ?_ | refine w1q ?_ | refine w1b ?_ | refine w1p ?_ | ((first | refine w1r ?_ | refine w1k ?_ | refine w1e ?_); simp (maxSteps := 400000) (disch := omega) only [push_cast, ↓reduceIte, reduceCtorEq, Nat.reduceAdd, Nat.reduceSub, Nat.reduceEqDiff, Nat.reduceLeDiff, Nat.reduceLT, Nat.reduceBEq, Nat.reduceDiv, Nat.reduceMod, Nat.reducePow, Nat.reduceMul, Int.reduceToNat, Int.reduceLT, Int.reduceLE, v8, v9]) | refine an2 ?_ | fail)
      refine W_condD (by rfl) (fun hr => ?_) (fun hr => ?_)
      · have hbr := H1.break t1 (by rw [hQ]; exact t2) (by omega) hr
        rw [hQ] at hbr
        repeat' (first | refine w1g ?_ | refine w1l ?_ | refine w1q ?_ | refine w1b ?_ | refine w1p ?_ | ((first | refine w1r ?_ | refine w1k ?_ | refine w1e ?_); (refine sy1 ?_; try exact True.intro)) | refine an2 ?_ | fail)
        refine ⟨by rfl, ?_⟩
        simp (maxSteps := 400000) (disch := omega) only [push_cast, ↓reduceIte, reduceCtorEq, Nat.reduceAdd, Nat.reduceSub, Nat.reduceEqDiff, Nat.reduceLeDiff, Nat.reduceLT, Nat.reduceBEq, Nat.reduceDiv, Nat.reduceMod, Nat.reducePow, Nat.reduceMul, Int.reduceToNat, Int.reduceLT, Int.reduceLE, S.mk.injEq, List.cons.injEq, Prod.mk.injEq, AV.v.injEq, Value.int.injEq, Value.bool.injEq, Blk.cells.injEq, hbr]
      · repeat' (first | refine w1g ?_ | refine w1l ?_ | refine w1q ?_ | refine w1b ?_ | refine w1p ?_ | ((first | refine w1r ?_ | refine w1k ?_ | refine w1e ?_); (refine sy1 ?_; try exact True.intro)) | refine an2 ?_ | fail)
        refine ⟨(q - 1, r + Y / 4294967296), ⟨t1, t2, by simp only []; omega, by simp only []; omega, by simp only []; omega⟩, by simp only []; omega, by rfl, ?_⟩
        (refine syE ?_; try exact True.intro)
    · rw [Bool.or_eq_false_iff, decide_eq_false_iff_not, decide_eq_false_iff_not] at hb
      have hst := H1.stop i1 (by rw [hQ]; exact i2) (by rw [v7 (by omega)] at hb; omega)
      rw [hQ] at hst
      repeat' (first | refine w1g ?_ | refine w1l ?_ | refine w1q ?_ | refine w1b ?_ | refine w1p ?_ | ((first | refine w1r ?_ | refine w1k ?_ | refine w1e ?_); (refine sy1 ?_; try exact True.intro)) | refine an2 ?_ | fail)
      refine ⟨by rfl, ?_⟩
      simp (maxSteps := 400000) (disch := omega) only [push_cast, ↓reduceIte, reduceCtorEq, Nat.reduceAdd, Nat.reduceSub, Nat.reduceEqDiff, Nat.reduceLeDiff, Nat.reduceLT, Nat.reduceBEq, Nat.reduceDiv, Nat.reduceMod, Nat.reducePow, Nat.reduceMul, Int.reduceToNat, Int.reduceLT, Int.reduceLE, S.mk.injEq, List.cons.injEq, Prod.mk.injEq, AV.v.injEq, Value.int.injEq, Value.bool.injEq, Blk.cells.injEq, hst]
  generalize hR : Half.r Y u (e / 4294967296) = R1 at *
  have hRb := H1.r_lt
  rw [hR] at hRb
  have H0 : Half Y R1 (e % 4294967296) := ⟨hsu, hRb, we⟩
  have hR' : u * 4294967296 + e / 4294967296 - Q1 * Y = R1 := by rw [← hR, ← hQ]; rfl
  have x1 : IntKind.u64.wrap (IntKind.u64.wrap (IntKind.u64.wrap (u * 4294967296) + e / 4294967296) - IntKind.u64.wrap (Q1 * Y)) = R1 := wrap_rem hR' (by omega)
  obtain ⟨s1', s2', s3', s4', s5'⟩ := H0.start
  have v1' : R1.tdiv (Y / 4294967296) = R1 / (Y / 4294967296) := Int.tdiv_eq_ediv_of_nonneg hRb.1
  have s0' : 0 ≤ R1 / (Y / 4294967296) := Int.ediv_nonneg hRb.1 (by omega)
  have v2' : IntKind.u64.wrap (R1 / (Y / 4294967296)) = R1 / (Y / 4294967296) := wrapU (by omega)
  have s00' : 0 ≤ R1 / (Y / 4294967296) * (Y / 4294967296) := Int.mul_nonneg s0' (by omega)
  have v3' : IntKind.u64.wrap (R1 / (Y / 4294967296) * (Y / 4294967296)) = R1 / (Y / 4294967296) * (Y / 4294967296) := wrapU (by omega)
  have v4' : IntKind.u64.wrap (R1 - R1 / (Y / 4294967296) * (Y / 4294967296)) = R1 % (Y / 4294967296) := by
    rw [show R1 - R1 / (Y / 4294967296) * (Y / 4294967296) = R1 % (Y / 4294967296) by omega]; exact wrapU (by omega)
  (refine sy1 ?_; try exact True.intro)
  repeat' (first | refine w1g ?_ | refine w1l ?_ | refine w1q ?_ | refine w1b ?_ | refine w1p ?_ | ((first | refine w1r ?_ | refine w1k ?_ | refine w1e ?_); simp (maxSteps := 400000) (disch := omega) only [push_cast, ↓reduceIte, reduceCtorEq, Nat.reduceAdd, Nat.reduceSub, Nat.reduceEqDiff, Nat.reduceLeDiff, Nat.reduceLT, Nat.reduceBEq, Nat.reduceDiv, Nat.reduceMod, Nat.reducePow, Nat.reduceMul, Int.reduceToNat, Int.reduceLT, Int.reduceLE, x1, v1', v2', v3', v4']) | refine an2 ?_ | fail)
  generalize hq0' : R1 / (Y / 4294967296) = q0' at *
  generalize hr0' : R1 % (Y / 4294967296) = r0' at *
  generalize hQ' : Half.q Y R1 (e % 4294967296) = Q0 at *
  have hQb' := H0.lt
  rw [hQ] at hQb
  rw [hQ'] at hQb'
  refine W_meetB [(18, uw Q0)] [] ?_ ?_
  · refine W_loopU (fun p : Int × Int => [(18, uw p.1), (16, uw p.2)]) (fun i => []) (fun p => p.1 * (Y / 4294967296) + p.2 = R1 ∧ Q0 ≤ p.1 ∧ p.1 ≤ 4294967297 ∧ 0 ≤ p.2 ∧ p.2 < 4294967296) (fun p => p.1.toNat) (q0', r0') ⟨s1', s2', s3', s4', s5'⟩ (by rfl) (by rfl) (fun p hp => ?_)
    obtain ⟨q, r⟩ := p
    obtain ⟨i1, i2, i3, i4, i5⟩ := hp
    simp only at i1 i2 i3 i4 i5
    have m0 : 0 ≤ q * (Y % 4294967296) := Int.mul_nonneg (by omega) (by omega)
    have v5 : IntKind.u64.wrap (4294967296 * r) = 4294967296 * r := wrapU (by omega)
    have v6 : IntKind.u64.wrap (4294967296 * r + e % 4294967296) = 4294967296 * r + e % 4294967296 := wrapU (by omega)
    have m1 : q < 4294967296 → q * (Y % 4294967296) ≤ 4294967295 * 4294967295 := fun hq => Int.mul_le_mul (by omega) (by omega) (by omega) (by omega)
    have v7 : q < 4294967296 → IntKind.u64.wrap (q * (Y % 4294967296)) = q * (Y % 4294967296) := fun hq => wrapU ⟨m0, by have := m1 hq; omega⟩
    (refine sy1 ?_; try exact True.intro)
    repeat' (first | refine w1g ?_ | refine w1l ?_ | refine w1q ?_ | refine w1b ?_ | refine w1p ?_ | ((first | refine w1r ?_ | refine w1k ?_ | refine w1e ?_); simp (maxSteps := 400000) (disch := omega) only [push_cast, ↓reduceIte, reduceCtorEq, Nat.reduceAdd, Nat.reduceSub, Nat.reduceEqDiff, Nat.reduceLeDiff, Nat.reduceLT, Nat.reduceBEq, Nat.reduceDiv, Nat.reduceMod, Nat.reducePow, Nat.reduceMul, Int.reduceToNat, Int.reduceLT, Int.reduceLE, v5, v6]) | refine an2 ?_ | fail)
    refine W_cond (by rfl) (fun hb => ?_) (fun hb => ?_)
    · have hc : 4294967296 ≤ q ∨ 4294967296 * r + e % 4294967296 < q * (Y % 4294967296) := by
        rw [Bool.or_eq_true, decide_eq_true_eq, decide_eq_true_eq] at hb
        by_cases hq : 4294967296 ≤ q
        · exact .inl hq
        · rw [v7 (by omega)] at hb
          exact .inr (hb.resolve_left hq)
      obtain ⟨t1, t2⟩ := H0.step i1 (by rw [hQ']; exact i2) hc
      rw [hQ'] at t2
      have v8 : IntKind.u64.wrap (q - 1) = q - 1 := wrapU (by omega)
      have v9 : IntKind.u64.wrap (r + Y / 4294967296) = r + Y / 4294967296 := wrapU (by omega)
      repeat' (first | refine w1g ?_ | refine w1l ?_ | refine w1q ?_ | refine w1b ?_ | refine w1p ?_ | ((first | refine w1r ?_ | refine w1k ?_ | refine w1e ?_); simp (maxSteps := 400000) (disch := omega) only [push_cast, ↓reduceIte, reduceCtorEq, Nat.reduceAdd, Nat.reduceSub, Nat.reduceEqDiff, Nat.reduceLeDiff, Nat.reduceLT, Nat.reduceBEq, Nat.reduceDiv, Nat.reduceMod, Nat.reducePow, Nat.reduceMul, Int.reduceToNat, Int.reduceLT, Int.reduceLE, v8, v9]) | refine an2 ?_ | fail)
      refine W_condD (by rfl) (fun hr => ?_) (fun hr => ?_)
      · have hbr := H0.break t1 (by rw [hQ']; exact t2) (by omega) hr
        rw [hQ'] at hbr
        repeat' (first | refine w1g ?_ | refine w1l ?_ | refine w1q ?_ | refine w1b ?_ | refine w1p ?_ | ((first | refine w1r ?_ | refine w1k ?_ | refine w1e ?_); (refine sy1 ?_; try exact True.intro)) | refine an2 ?_ | fail)
        refine ⟨by rfl, ?_⟩
        simp (maxSteps := 400000) (disch := omega) only [push_cast, ↓reduceIte, reduceCtorEq, Nat.reduceAdd, Nat.reduceSub, Nat.reduceEqDiff, Nat.reduceLeDiff, Nat.reduceLT, Nat.reduceBEq, Nat.reduceDiv, Nat.reduceMod, Nat.reducePow, Nat.reduceMul, Int.reduceToNat, Int.reduceLT, Int.reduceLE, S.mk.injEq, List.cons.injEq, Prod.mk.injEq, AV.v.injEq, Value.int.injEq, Value.bool.injEq, Blk.cells.injEq, hbr]
      · repeat' (first | refine w1g ?_ | refine w1l ?_ | refine w1q ?_ | refine w1b ?_ | refine w1p ?_ | ((first | refine w1r ?_ | refine w1k ?_ | refine w1e ?_); (refine sy1 ?_; try exact True.intro)) | refine an2 ?_ | fail)
        refine ⟨(q - 1, r + Y / 4294967296), ⟨t1, t2, by simp only []; omega, by simp only []; omega, by simp only []; omega⟩, by simp only []; omega, by rfl, ?_⟩
        (refine syE ?_; try exact True.intro)
    · rw [Bool.or_eq_false_iff, decide_eq_false_iff_not, decide_eq_false_iff_not] at hb
      have hst := H0.stop i1 (by rw [hQ']; exact i2) (by rw [v7 (by omega)] at hb; omega)
      rw [hQ'] at hst
      repeat' (first | refine w1g ?_ | refine w1l ?_ | refine w1q ?_ | refine w1b ?_ | refine w1p ?_ | ((first | refine w1r ?_ | refine w1k ?_ | refine w1e ?_); (refine sy1 ?_; try exact True.intro)) | refine an2 ?_ | fail)
      refine ⟨by rfl, ?_⟩
      simp (maxSteps := 400000) (disch := omega) only [push_cast, ↓reduceIte, reduceCtorEq, Nat.reduceAdd, Nat.reduceSub, Nat.reduceEqDiff, Nat.reduceLeDiff, Nat.reduceLT, Nat.reduceBEq, Nat.reduceDiv, Nat.reduceMod, Nat.reducePow, Nat.reduceMul, Int.reduceToNat, Int.reduceLT, Int.reduceLE, S.mk.injEq, List.cons.injEq, Prod.mk.injEq, AV.v.injEq, Value.int.injEq, Value.bool.injEq, Blk.cells.injEq, hst]
  have hQR := hld (e / 4294967296) (e % 4294967296) (by omega) H1 (by rw [hR]; exact H0)
  rw [hR, hQ, hQ'] at hQR
  have hR0 : R1 * 4294967296 + e % 4294967296 - Q0 * Y = Half.r Y R1 (e % 4294967296) := by rw [← hQ']; rfl
  have hRb0 := H0.r_lt
  have x2 := wrap_rem hR0 (by omega)
  have x3 : IntKind.u64.wrap (Q1 * 4294967296) = Q1 * 4294967296 := wrapU (by omega)
  have x4 : IntKind.u64.wrap (Q1 * 4294967296 + Q0) = Q1 * 4294967296 + Q0 := wrapU (by omega)
  have x5 : (Half.r Y R1 (e % 4294967296)).fdiv (2 ^ (64 - n)) = Half.r Y R1 (e % 4294967296) / 2 ^ (64 - n) := Int.fdiv_eq_ediv_of_nonneg _ (Int.le_of_lt hk)
  (refine sy1 ?_; try exact True.intro)
  repeat' (first | refine w1g ?_ | refine w1l ?_ | refine w1q ?_ | refine w1b ?_ | refine w1p ?_ | ((first | refine w1r ?_ | refine w1k ?_ | refine w1e ?_); simp (maxSteps := 400000) (disch := omega) only [push_cast, ↓reduceIte, reduceCtorEq, Nat.reduceAdd, Nat.reduceSub, Nat.reduceEqDiff, Nat.reduceLeDiff, Nat.reduceLT, Nat.reduceBEq, Nat.reduceDiv, Nat.reduceMod, Nat.reducePow, Nat.reduceMul, Int.reduceToNat, Int.reduceLT, Int.reduceLE, x2, x3, x4, w2, x5]) | refine an2 ?_ | fail)
  rw [hQR.1, hQR.2]
  exact W_ret ⟨[_, _], ⟨rfl, rfl, rfl⟩, rfl⟩
end Go.Proofs.Ytlegpipcmnnaoaa

namespace Go.Proofs.Ytlegpipcmnnaoaa
open Go Sy
set_option maxRecDepth 100000
set_option maxHeartbeats 4000000
set_option linter.unusedVariables false
set_option linter.unusedSimpArgs false
theorem c80 (x y : Int) (hx : 0 ≤ x ∧ x < 18446744073709551616) (hy : 0 ≤ y ∧ y < 18446744073709551616) : Sy.Fn Try.prog 80 [uw x, uw y] (.tup [uw (x * y / 18446744073709551616), uw (x * y % 18446744073709551616)]) := by
  obtain ⟨n, rfl⟩ : ∃ n : Nat, x = n := ⟨x.toNat, by omega⟩
  obtain ⟨m, rfl⟩ : ∃ m : Nat, y = m := ⟨y.toNat, by omega⟩
  have h := fn80 n m (by omega) (by omega)
  have e : (n : Int) * m = ((n * m : Nat) : Int) := (Int.natCast_mul n m).symm
  rw [e]
  exact h
def ab (a : Int) : Int := max a (0 - a)
theorem ab_mul (a b : Int) : ab a * ab b = if decide (a < 0) != decide (b < 0) then -(a * b) else a * b := by
  unfold ab
  by_cases ha : a < 0 <;> by_cases hb : b < 0
  · rw [show max a (0 - a) = -a by omega, show max b (0 - b) = -b by omega, Int.neg_mul_neg]; simp [ha, hb]
  · rw [show max a (0 - a) = -a by omega, show max b (0 - b) = b by omega, Int.neg_mul]; simp [ha, hb]
  · rw [show max a (0 - a) = a by omega, show max b (0 - b) = -b by omega, Int.mul_neg]; simp [ha, hb]
  · rw [show max a (0 - a) = a by omega, show max b (0 - b) = b by omega]; simp [ha, hb]
abbrev aFr (a b d : Int) : AV := .agg [iv a, iv b, iv d]
structure FrOK (a b d : Int) : Prop where
  ha : -9223372036854775807 ≤ a ∧ a ≤ 9223372036854775807
  hb : -9223372036854775807 ≤ b ∧ b ≤ 9223372036854775807
  hd : 0 < d ∧ d ≤ 9223372036854775807
  hq : ab a * ab b < d * 4611686018427387904
theorem fn71 (a b d : Int) (h : FrOK a b d) : Sy.Fn Try.prog 71 [aFr a b d] (.tup [iv (ab a * ab b / d), bv (decide (0 < ab a * ab b % d)), bv (decide (a < 0) != decide (b < 0))]) := by
  refine Fn_of_W mixed Xt71 rfl ?_
  have ha := h.ha; have hb := h.hb; have hd := h.hd; have hq := h.hq
  have hA : 0 ≤ ab a ∧ ab a ≤ 9223372036854775807 := by unfold ab; omega
  have hB : 0 ≤ ab b ∧ ab b ≤ 9223372036854775807 := by unfold ab; omega
  have ea : max a (0 - a) = ab a := rfl
  have eb : max b (0 - b) = ab b := rfl
  generalize ab a = A at *
  generalize ab b = B at *
  have hAB : 0 ≤ A * B := Int.mul_nonneg hA.1 hB.1
  have wa : IntKind.u64.wrap A = A := wrapU (by omega)
  have wb : IntKind.u64.wrap B = B := wrapU (by omega)
  have wd : IntKind.u64.wrap d = d := wrapU (by omega)
  have c1 := c80 A B (by omega) (by omega)
  generalize A * B = M at *
  have c2 := fn81 (M / 18446744073709551616) (M % 18446744073709551616) d ⟨by omega, by omega⟩ (by omega) (by omega)
  rw [show M / 18446744073709551616 * 18446744073709551616 + M % 18446744073709551616 = M by omega] at c2
  have q1 : M / d < 4611686018427387904 := by rw [Int.ediv_lt_iff_lt_mul hd.1, Int.mul_comm]; exact hq
  have q0 : 0 ≤ M / d := Int.ediv_nonneg hAB (by omega)
  have wq : IntKind.i64.wrap (M / d) = M / d := wrap64 ⟨by omega, by omega⟩
  repeat' (first | refine w1g ?_ | refine w1l ?_ | refine w1q ?_ | refine w1b ?_ | refine w1p ?_ | ((first | refine w1r ?_ | refine w1k ?_ | refine w1e ?_ | refine CallC.now (c1) ?_ | refine CallC.now (c2) ?_); simp (maxSteps := 400000) (disch := omega) only [push_cast, ↓reduceIte, reduceCtorEq, Nat.reduceAdd, Nat.reduceSub, Nat.reduceEqDiff, Nat.reduceLeDiff, Nat.reduceLT, Nat.reduceBEq, Nat.reduceDiv, Nat.reduceMod, Nat.reducePow, Nat.reduceMul, Int.reduceToNat, Int.reduceLT, Int.reduceLE, ea, eb, wa, wb, wd, wq]) | refine an2 ?_ | fail)
  exact W_ret ⟨[_, _, _], ⟨rfl, rfl, rfl, rfl⟩, rfl⟩
theorem fn54 (a b d : Int) (h : FrOK a b d) : Sy.Fn Try.prog 54 [aFr a b d] (iv (a * b / d)) := by
  refine Fn_of_W mixed Xt54 rfl ?_
  have hd := h.hd; have hq := h.hq
  have c1 := fn71 a b d h
  have hm := ab_mul a b
  have q1 : ab a * ab b / d < 4611686018427387904 := by rw [Int.ediv_lt_iff_lt_mul hd.1]; omega
  have q0 : 0 ≤ ab a * ab b / d := Int.ediv_nonneg (Int.mul_nonneg (by unfold ab; omega) (by unfold ab; omega)) (by omega)
  generalize ab a * ab b = M at *
  have e := Int.ediv_mul_add_emod M d
  have e1 := Int.emod_nonneg M (Int.ne_of_gt hd.1)
  have e2 := Int.emod_lt_of_pos M hd.1
  repeat' (first | refine w1g ?_ | refine w1l ?_ | refine w1q ?_ | refine w1b ?_ | refine w1p ?_ | ((first | refine w1r ?_ | refine w1k ?_ | refine w1e ?_ | refine CallC.now (c1) ?_); (refine sy1 ?_; try exact True.intro)) | refine an2 ?_ | fail)
  refine W_cond (by rfl) (fun h1 => ?_) (fun h1 => ?_)
  · rw [Bool.not_eq_true'] at h1
    rw [h1] at hm
    simp only [Bool.false_eq_true, if_false] at hm
    repeat' (first | refine w1g ?_ | refine w1l ?_ | refine w1q ?_ | refine w1b ?_ | refine w1p ?_ | ((first | refine w1r ?_ | refine w1k ?_ | refine w1e ?_); (refine sy1 ?_; try exact True.intro)) | refine an2 ?_ | fail)
    exact W_ret ⟨[_], ⟨rfl, rfl⟩, by rw [hm]; rfl⟩
  · rw [Bool.not_eq_false'] at h1
    rw [h1, if_pos rfl] at hm
    have hm' : a * b = -M := by omega
    rw [hm']
    repeat' (first | refine w1g ?_ | refine w1l ?_ | refine w1q ?_ | refine w1b ?_ | refine w1p ?_ | ((first | refine w1r ?_ | refine w1k ?_ | refine w1e ?_); (refine sy1 ?_; try exact True.intro)) | refine an2 ?_ | fail)
    refine W_condD (by rfl) (fun h2 => ?_) (fun h2 => ?_)
    · have e3 : -M / d = -(M / d + 1) := by
        have h1 : -(M / d + 1) ≤ -M / d := by rw [Int.le_ediv_iff_mul_le hd.1, Int.neg_mul, Int.add_mul]; omega
        have h3 : -M / d < -(M / d + 1) + 1 := by
          rw [Int.ediv_lt_iff_lt_mul hd.1, Int.add_mul, Int.neg_mul, Int.add_mul]; omega
        omega
      repeat' (first | refine w1g ?_ | refine w1l ?_ | refine w1q ?_ | refine w1b ?_ | refine w1p ?_ | ((first | refine w1r ?_ | refine w1k ?_ | refine w1e ?_); (refine sy1 ?_; try exact True.intro)) | refine an2 ?_ | fail)
      exact W_ret ⟨[_], ⟨rfl, rfl⟩, by rw [e3]; simp; rfl⟩
    · have e3 : -M / d = -(M / d) := by
        have h1 : -(M / d) ≤ -M / d := by rw [Int.le_ediv_iff_mul_le hd.1, Int.neg_mul]; omega
        have h3 : -M / d < -(M / d) + 1 := by
          rw [Int.ediv_lt_iff_lt_mul hd.1, Int.add_mul, Int.neg_mul]; omega
        omega
      repeat' (first | refine w1g ?_ | refine w1l ?_ | refine w1q ?_ | refine w1b ?_ | refine w1p ?_ | ((first | refine w1r ?_ | refine w1k ?_ | refine w1e ?_); (refine sy1 ?_; try exact True.intro)) | refine an2 ?_ | fail)
      exact W_ret ⟨[_], ⟨rfl, rfl⟩, by rw [e3]; simp; rfl⟩
def cdiv (n d : Int) : Int := -(-n / d)
theorem fn38 (a b d : Int) (h : FrOK a b d) : Sy.Fn Try.prog 38 [aFr a b d] (iv (cdiv (a * b) d)) := by
  refine Fn_of_W mixed Xt38 rfl ?_
  have ha := h.ha; have hd := h.hd
  have h' : FrOK (0 - a) b d := ⟨by omega, h.hb, h.hd, by rw [show ab (0 - a) = ab a by unfold ab; omega]; exact h.hq⟩
  have c1 := fn54 (0 - a) b d h'
  have e : (0 - a) * b = -(a * b) := by rw [Int.zero_sub, Int.neg_mul]
  rw [e] at c1
  have hq := h.hq
  have hm := ab_mul a b
  have hAB : 0 ≤ ab a * ab b := Int.mul_nonneg (by unfold ab; omega) (by unfold ab; omega)
  have hb : -(d * 4611686018427387904) ≤ -(a * b) ∧ -(a * b) ≤ d * 4611686018427387904 := by
    split at hm <;> omega
  have b1 : -4611686018427387904 ≤ -(a * b) / d := by rw [Int.le_ediv_iff_mul_le hd.1, Int.neg_mul, Int.mul_comm]; exact hb.1
  have b2 : -(a * b) / d < 4611686018427387905 := by rw [Int.ediv_lt_iff_lt_mul hd.1]; omega
  repeat' (first | refine w1g ?_ | refine w1l ?_ | refine w1q ?_ | refine w1b ?_ | refine w1p ?_ | ((first | refine w1r ?_ | refine w1k ?_ | refine w1e ?_ | refine CallC.now (c1) ?_); (refine sy1 ?_; try exact True.intro)) | refine an2 ?_ | fail)
  exact W_ret ⟨[_], ⟨rfl, rfl⟩, by unfold cdiv; simp; rfl⟩
end Go.Proofs.Ytlegpipcmnnaoaa

namespace Go.Proofs.Ytlegpipcmnnaoaa
open Go Sy
set_option maxRecDepth 100000
set_option maxHeartbeats 4000000
set_option linter.unusedVariables false
set_option linter.unusedSimpArgs false
def inR (x lo hi : Int) : Bool := decide (lo ≤ x) && decide (x ≤ hi)
theorem inR_iff {x lo hi : Int} : inR x lo hi = true ↔ lo ≤ x ∧ x ≤ hi := by simp [inR]
theorem fn18 (x lo hi : Int) : Sy.Fn Try.prog 18 [iv x, iv lo, iv hi] (bv (inR x lo hi)) := by
  refine Fn_of_W mixed Xt18 rfl ?_
  repeat' (first | refine w1g ?_ | refine w1l ?_ | refine w1q ?_ | refine w1b ?_ | refine w1p ?_ | ((first | refine w1r ?_ | refine w1k ?_ | refine w1e ?_); (refine sy1 ?_; try exact True.intro)) | refine an2 ?_ | fail)
  exact W_ret ⟨[_], ⟨rfl, rfl⟩, rfl⟩
def okMass (m : Int) : Bool := inR m 1 16777216
theorem fn17 (m : Int) : Sy.Fn Try.prog 17 [iv m] (bv (okMass m)) := by
  refine Fn_of_W mixed Xt17 rfl ?_
  repeat' (first | refine w1g ?_ | refine w1l ?_ | refine w1q ?_ | refine w1b ?_ | refine w1p ?_ | ((first | refine w1r ?_ | refine w1k ?_ | refine w1e ?_ | refine CallC.now (fn18 _ _ _) ?_); (refine sy1 ?_; try exact True.intro)) | refine an2 ?_ | fail)
  exact W_ret ⟨[_], ⟨rfl, rfl⟩, rfl⟩
structure Pt where
  x : Int
  y : Int
abbrev cPt (p : Pt) : List AV := [iv p.x, iv p.y]
def okPlace (x : Int) : Bool := inR x (-16777216) 16777216
theorem fn37 (x : Int) : Sy.Fn Try.prog 37 [iv x] (bv (okPlace x)) := by
  refine Fn_of_W mixed Xt37 rfl ?_
  repeat' (first | refine w1g ?_ | refine w1l ?_ | refine w1q ?_ | refine w1b ?_ | refine w1p ?_ | ((first | refine w1r ?_ | refine w1k ?_ | refine w1e ?_ | refine CallC.now (fn18 _ _ _) ?_); (refine sy1 ?_; try exact True.intro)) | refine an2 ?_ | fail)
  exact W_ret ⟨[_], ⟨rfl, rfl⟩, rfl⟩
def levE (m a b x : Int) : Int := if (!okMass m || !okPlace a || !okPlace b || !okPlace x) = true then 3 else if b ≤ a then 9 else if inR x a b = false then 19 else 0
def levL (m a b x : Int) : Int := if levE m a b x = 0 then cdiv (m * (b - x)) (b - a) else 0
def levR (m a b x : Int) : Int := if levE m a b x = 0 then cdiv (m * (x - a)) (b - a) else 0
theorem levE_ok {m a b x : Int} (h : levE m a b x = 0) : (1 ≤ m ∧ m ≤ 16777216) ∧ (-16777216 ≤ a ∧ a < b ∧ b ≤ 16777216) ∧ a ≤ x ∧ x ≤ b := by
  unfold levE at h
  split at h
  · omega
  · rename_i h1
    split at h
    · omega
    · split at h
      · omega
      · rename_i h2 h3
        simp only [Bool.or_eq_true, Bool.not_eq_true', okMass, okPlace] at h1
        rw [Bool.not_eq_false, inR_iff] at h3
        simp only [not_or, Bool.not_eq_false, inR_iff] at h1
        omega
theorem ab_pos {a : Int} (h : 0 ≤ a) : ab a = a := by unfold ab; omega
theorem mulP {a b c d : Int} (h0 : 0 ≤ b) (h1 : a ≤ c) (h2 : b ≤ d) (h3 : 0 ≤ c) : a * b ≤ c * d := Int.mul_le_mul h1 h2 h0 h3
theorem frac_ok {m p w : Int} (hm : 1 ≤ m ∧ m ≤ 16777216) (hp : 0 ≤ p ∧ p ≤ w) (hw : 0 < w ∧ w ≤ 9223372036854775807) : FrOK m p w := by
  refine ⟨by omega, by omega, hw, ?_⟩
  rw [ab_pos (by omega), ab_pos hp.1]
  have := mulP (a := m) (b := p) (c := 16777216) (d := w) hp.1 hm.2 hp.2 (by omega)
  omega
theorem fn15 (m a b x : Int) : Sy.Fn Try.prog 15 [iv m, iv a, iv b, iv x] (.tup [iv (levL m a b x), iv (levR m a b x), iv (levE m a b x)]) := by
  refine Fn_of_W mixed Xt15 rfl ?_
  repeat' (first | refine w1g ?_ | refine w1l ?_ | refine w1q ?_ | refine w1b ?_ | refine w1p ?_ | ((first | refine w1r ?_ | refine w1k ?_ | refine w1e ?_ | refine CallC.now (fn17 _) ?_ | refine CallC.go _ (fun _ => ⟨trivial, fn37 _⟩) rfl ?_); (refine sy1 ?_; try exact True.intro)) | refine an2 ?_ | fail)
  refine W_cond (by rfl) (fun h1 => ?_) (fun h1 => ?_)
  · have e : levE m a b x = 3 := by unfold levE; rw [if_pos h1]
    unfold levL levR
    rw [if_neg (by omega), if_neg (by omega), e]
    repeat' (first | refine w1g ?_ | refine w1l ?_ | refine w1q ?_ | refine w1b ?_ | refine w1p ?_ | ((first | refine w1r ?_ | refine w1k ?_ | refine w1e ?_); (refine sy1 ?_; try exact True.intro)) | refine an2 ?_ | fail)
    exact W_ret ⟨[_, _, _], ⟨rfl, rfl, rfl, rfl⟩, rfl⟩
  repeat' (first | refine w1g ?_ | refine w1l ?_ | refine w1q ?_ | refine w1b ?_ | refine w1p ?_ | ((first | refine w1r ?_ | refine w1k ?_ | refine w1e ?_); (refine sy1 ?_; try exact True.intro)) | refine an2 ?_ | fail)
  refine W_condD (by rfl) (fun h2 => ?_) (fun h2 => ?_)
  · have e : levE m a b x = 9 := by unfold levE; rw [if_neg (by rw [h1]; decide), if_pos h2]
    unfold levL levR
    rw [if_neg (by omega), if_neg (by omega), e]
    repeat' (first | refine w1g ?_ | refine w1l ?_ | refine w1q ?_ | refine w1b ?_ | refine w1p ?_ | ((first | refine w1r ?_ | refine w1k ?_ | refine w1e ?_); (refine sy1 ?_; try exact True.intro)) | refine an2 ?_ | fail)
    exact W_ret ⟨[_, _, _], ⟨rfl, rfl, rfl, rfl⟩, rfl⟩
  repeat' (first | refine w1g ?_ | refine w1l ?_ | refine w1q ?_ | refine w1b ?_ | refine w1p ?_ | ((first | refine w1r ?_ | refine w1k ?_ | refine w1e ?_ | refine CallC.now (fn18 _ _ _) ?_); (refine sy1 ?_; try exact True.intro)) | refine an2 ?_ | fail)
  refine W_cond (by rfl) (fun h3 => ?_) (fun h3 => ?_)
  · have e : levE m a b x = 19 := by unfold levE; rw [if_neg (by rw [h1]; decide), if_neg h2, if_pos (by simpa using h3)]
    unfold levL levR
    rw [if_neg (by omega), if_neg (by omega), e]
    repeat' (first | refine w1g ?_ | refine w1l ?_ | refine w1q ?_ | refine w1b ?_ | refine w1p ?_ | ((first | refine w1r ?_ | refine w1k ?_ | refine w1e ?_); (refine sy1 ?_; try exact True.intro)) | refine an2 ?_ | fail)
    exact W_ret ⟨[_, _, _], ⟨rfl, rfl, rfl, rfl⟩, rfl⟩
  have e : levE m a b x = 0 := by unfold levE; rw [if_neg (by rw [h1]; decide), if_neg h2, if_neg (by simpa using h3)]
  have ho := levE_ok e
  have c1 := fn38 m (b - x) (b - a) (frac_ok ho.1 (by omega) (by omega))
  have c2 := fn38 m (x - a) (b - a) (frac_ok ho.1 (by omega) (by omega))
  unfold levL levR
  rw [if_pos e, if_pos e, e]
  repeat' (first | refine w1g ?_ | refine w1l ?_ | refine w1q ?_ | refine w1b ?_ | refine w1p ?_ | ((first | refine w1r ?_ | refine w1k ?_ | refine w1e ?_ | refine CallC.now (c1) ?_ | refine CallC.now (c2) ?_); (refine sy1 ?_; try exact True.intro)) | refine an2 ?_ | fail)
  exact W_ret ⟨[_, _, _], ⟨rfl, rfl, rfl, rfl⟩, rfl⟩
end Go.Proofs.Ytlegpipcmnnaoaa

namespace Go.Proofs.Ytlegpipcmnnaoaa
open Go Sy
set_option maxRecDepth 100000
set_option maxHeartbeats 4000000
set_option linter.unusedVariables false
set_option linter.unusedSimpArgs false
def idxF {α : Type} (p : α → Bool) : List α → Int → Int
  | [], _ => -1
  | x :: r, i => if p x then i else idxF p r (i + 1)
theorem idxF_at {α : Type} (p : α → Bool) (d : α) : ∀ (l : List α) (i : Nat) (k : Int), i < l.length → (∀ j, j < i → p (l.getD j d) = false) → p (l.getD i d) = true → idxF p l k = k + i
  | [], i, k, h, _, _ => by simp at h
  | x :: r, 0, k, _, _, h => by simp at h; simp [idxF, h]
  | x :: r, i + 1, k, h, hj, hp => by
    have h0 : p x = false := by simpa using hj 0 (by omega)
    have := idxF_at p d r i (k + 1) (by simpa using h) (fun j hlt => by simpa using hj (j + 1) (by omega)) (by simpa using hp)
    simp only [idxF, h0, Bool.false_eq_true, if_false, this]
    omega
theorem idxF_none {α : Type} (p : α → Bool) (d : α) : ∀ (l : List α) (k : Int), (∀ j, j < l.length → p (l.getD j d) = false) → idxF p l k = -1
  | [], k, _ => rfl
  | x :: r, k, h => by
    have h0 : p x = false := by simpa using h 0 (by simp)
    have := idxF_none p d r (k + 1) (fun j hlt => by simpa using h (j + 1) (by simpa using hlt))
    simp only [idxF, h0, Bool.false_eq_true, if_false, this]
theorem idxF_any {α : Type} (p : α → Bool) : ∀ (l : List α) (k : Int), 0 ≤ k → decide (0 ≤ idxF p l k) = l.any p
  | [], k, _ => by simp [idxF]
  | x :: r, k, h => by
    simp only [idxF, List.any_cons]
    by_cases hp : p x = true
    · simp [hp, h]
    · simp only [hp]
      simpa using idxF_any p r (k + 1) (by omega)
theorem up_all {p : Nat → Prop} {i : Nat} (h : ∀ j, j < i → p j) (hi : p i) : ∀ j, j < i + 1 → p j := fun j hj => by
  rcases Nat.lt_succ_iff_lt_or_eq.1 hj with hj | rfl
  · exact h j hj
  · exact hi
def cI (n : Int) : List AV := [iv n]
theorem nI (n : Int) : nth (cI n) 0 = iv n := rfl
theorem lI (n : Int) : (cI n).length = 1 := rfl
attribute [push_cast] nI lI
theorem getD_mem {α : Type} (d : α) (l : List α) (i : Nat) (h : i < l.length) : l.getD i d ∈ l := by
  simp only [List.getD, List.getElem?_eq_getElem h, Option.getD_some]; exact List.getElem_mem h
theorem fn65 (l : List Int) (hl : l.length ≤ 1000000) (g : Nat) (fi ca : List AV) (p : Int → Bool) (hg : ∀ x ∈ l, Sy.Fn Try.prog g (fi ++ [iv x] ++ ca) (bv (p x))) : Sy.Fn Try.prog 65 [.sl 1 0 cI l, .clo g fi ca] (iv (idxF p l 0)) := by
  refine Fn_of_W mixed Xt65 rfl ?_
  repeat' (first | refine w1g ?_ | refine w1l ?_ | refine w1q ?_ | refine w1b ?_ | refine w1p ?_ | ((first | refine w1r ?_ | refine w1k ?_ | refine w1e ?_); (refine sy1 ?_; try exact True.intro)) | refine an2 ?_ | fail)
  refine W_loopU (fun i : Nat => [(8, iv i)]) (fun i => []) (fun i => i ≤ l.length ∧ ∀ j, j < i → p (l.getD j 0) = false) (fun i => l.length - i) 0 ⟨by omega, fun j hj => by omega⟩ (by rfl) (by rfl) (fun i hi => ?_)
  obtain ⟨hi, hp⟩ := hi
  (refine sy1 ?_; try exact True.intro)
  repeat' (first | refine w1g ?_ | refine w1l ?_ | refine w1q ?_ | refine w1b ?_ | refine w1p ?_ | ((first | refine w1r ?_ | refine w1k ?_ | refine w1e ?_); (refine sy1 ?_; try exact True.intro)) | refine an2 ?_ | fail)
  refine W_condD (by rfl) (fun h => ?_) (fun h => ?_)
  · have hlt : i < l.length := by omega
    have cg := hg _ (getD_mem 0 l i hlt)
    repeat' (first | refine w1g ?_ | refine w1l ?_ | refine w1q ?_ | refine w1b ?_ | refine w1p ?_ | ((first | refine w1r ?_ | refine w1k ?_ | refine w1e ?_ | refine CallC.now (cg) ?_); (refine sy1 ?_; try exact True.intro)) | refine an2 ?_ | fail)
    refine W_cond (by rfl) (fun hb => ?_) (fun hb => ?_)
    · repeat' (first | refine w1g ?_ | refine w1l ?_ | refine w1q ?_ | refine w1b ?_ | refine w1p ?_ | ((first | refine w1r ?_ | refine w1k ?_ | refine w1e ?_); (refine sy1 ?_; try exact True.intro)) | refine an2 ?_ | fail)
      exact W_ret ⟨[_], ⟨rfl, rfl⟩, by rw [idxF_at p 0 l i 0 hlt hp hb, Int.zero_add]; rfl⟩
    · repeat' (first | refine w1g ?_ | refine w1l ?_ | refine w1q ?_ | refine w1b ?_ | refine w1p ?_ | ((first | refine w1r ?_ | refine w1k ?_ | refine w1e ?_); (refine sy1 ?_; try exact True.intro)) | refine an2 ?_ | fail)
      refine ⟨i + 1, ⟨by omega, up_all hp hb⟩, by omega, by rfl, ?_⟩
      (refine syE ?_; try exact True.intro)
  · repeat' (first | refine w1g ?_ | refine w1l ?_ | refine w1q ?_ | refine w1b ?_ | refine w1p ?_ | ((first | refine w1r ?_ | refine w1k ?_ | refine w1e ?_); (refine sy1 ?_; try exact True.intro)) | refine an2 ?_ | fail)
    exact W_ret ⟨[_], ⟨rfl, rfl⟩, by rw [idxF_none p 0 l 0 (fun j hj => hp j (by omega))]; rfl⟩
theorem fn46 (l : List Int) (hl : l.length ≤ 1000000) (g : Nat) (fi ca : List AV) (p : Int → Bool) (hg : ∀ x ∈ l, Sy.Fn Try.prog g (fi ++ [iv x] ++ ca) (bv (p x))) : Sy.Fn Try.prog 46 [.sl 1 0 cI l, .clo g fi ca] (bv (l.any p)) := by
  refine Fn_of_W mixed Xt46 rfl ?_
  repeat' (first | refine w1g ?_ | refine w1l ?_ | refine w1q ?_ | refine w1b ?_ | refine w1p ?_ | ((first | refine w1r ?_ | refine w1k ?_ | refine w1e ?_ | refine CallC.now (fn65 l hl g fi ca p hg) ?_); (refine sy1 ?_; try exact True.intro)) | refine an2 ?_ | fail)
  exact W_ret ⟨[_], ⟨rfl, rfl⟩, by rw [← idxF_any p l 0 (by omega)]; rfl⟩
end Go.Proofs.Ytlegpipcmnnaoaa

namespace Go.Proofs.Ytlegpipcmnnaoaa
open Go Sy
set_option maxRecDepth 100000
set_option maxHeartbeats 4000000
set_option linter.unusedVariables false
set_option linter.unusedSimpArgs false
theorem floor_eq {a b : Int} (hb : 0 < b) : a / b = if a.tmod b < 0 then a.tdiv b - 1 else a.tdiv b := by
  have e := Int.tdiv_mul_add_tmod a b
  have l1 : a.tmod b < b := Int.tmod_lt_of_pos a hb
  have l2 : -b < a.tmod b := by
    have := Int.tmod_lt_of_pos (-a) hb
    rw [Int.neg_tmod] at this
    omega
  split
  · have h1 : a.tdiv b - 1 ≤ a / b := by rw [Int.le_ediv_iff_mul_le hb, Int.sub_mul]; omega
    have h2 : a / b < a.tdiv b := by rw [Int.ediv_lt_iff_lt_mul hb]; omega
    omega
  · have h1 : a.tdiv b ≤ a / b := by rw [Int.le_ediv_iff_mul_le hb]; omega
    have h2 : a / b < a.tdiv b + 1 := by rw [Int.ediv_lt_iff_lt_mul hb, Int.add_mul]; omega
    omega
end Go.Proofs.Ytlegpipcmnnaoaa

namespace Go.Proofs.Ytlegpipcmnnaoaa
open Go Sy
set_option maxRecDepth 100000
set_option maxHeartbeats 4000000
set_option linter.unusedVariables false
set_option linter.unusedSimpArgs false
def rho : Go.Shelf.Ren := ⟨fun f => if f = 315 then 76 else 0, fun t => if t = 40 then 102 else t, fun g => g⟩
theorem lays : Lays.n315 Try.prog rho where
  mixed := mixed
  f315 := by kernel_rfl
  t0 := by kernel_rfl
  a0 := fun w => by kernel_rfl
  z0 := fun w => by kernel_rfl
  v0 := fun w => by kernel_rfl
  t3 := by kernel_rfl
  a3 := fun w => by kernel_rfl
  z3 := fun w => by kernel_rfl
  v3 := fun w => by kernel_rfl
  t4 := by kernel_rfl
  a4 := fun w => by kernel_rfl
  z4 := fun w => by kernel_rfl
  v4 := fun w => by kernel_rfl
  t9 := by kernel_rfl
  a9 := fun w => by kernel_rfl
  z9 := fun w => by kernel_rfl
  v9 := fun w => by kernel_rfl
  t21 := by kernel_rfl
  a21 := fun w => by kernel_rfl
  z21 := fun w => by kernel_rfl
  v21 := fun w => by kernel_rfl
  t40 := by kernel_rfl
  a40 := fun w => by kernel_rfl
  z40 := fun w => by kernel_rfl
  v40 := fun w => by kernel_rfl
abbrev stv (s : ByteArray) : AV := .v (.string s)
theorem fn76 (s : ByteArray) (g : Nat) (p : Nat → Bool) (hg : ∀ x : Nat, x ≤ 1114111 → Sy.Fn Try.prog g [.v (.int .i32 x)] (bv (p x))) : Sy.Fn Try.prog 76 [stv s, .clo g [] [], bv true] (iv (Lib.idxFunc p true s)) := by
  refine ⟨by kernel_rfl, fun A w vs hA hvs => ?_⟩
  simp only [fsatT, fsat] at hvs
  obtain ⟨x1, r1, rfl, rfl, x2, r2, rfl, ⟨fv, cv, rfl, rfl, rfl⟩, x3, r3, rfl, rfl, rfl⟩ := hvs
  have hp : PredGrows Try.prog g #[] p w := fun W x hx _ => by
    refine ((hg x hx).2 (fun _ => False) W [.int .i32 x] (fun b h => h.elim) (by simp [fsatT, fsat])).mono ?_
    rintro e w' ⟨v, rfl, hb, hv⟩
    simp only [fsat] at hv
    exact ⟨by rw [hv], hb⟩
  have h := Any.strings_indexFunc_grows lays g #[] (fun args w => run_callFunc (hg 0 (by omega)).1) p true s w hp
  refine h.mono ?_
  rintro e w' ⟨rfl, hb⟩
  exact ⟨_, rfl, hb, by simp only [fsat]⟩
theorem fn64 (s : ByteArray) (g : Nat) (p : Nat → Bool) (hg : ∀ x : Nat, x ≤ 1114111 → Sy.Fn Try.prog g [.v (.int .i32 x)] (bv (p x))) : Sy.Fn Try.prog 64 [stv s, .clo g [] []] (iv (Lib.idxFunc p true s)) := by
  refine Fn_of_W mixed Xt64 rfl ?_
  repeat' (first | refine w1g ?_ | refine w1l ?_ | refine w1q ?_ | refine w1b ?_ | refine w1p ?_ | ((first | refine w1r ?_ | refine w1k ?_ | refine w1e ?_ | refine CallC.now (fn76 s g p hg) ?_); (refine sy1 ?_; try exact True.intro)) | refine an2 ?_ | fail)
  exact W_ret ⟨[_], ⟨rfl, rfl⟩, rfl⟩
theorem fn44 (s : ByteArray) (g : Nat) (p : Nat → Bool) (hg : ∀ x : Nat, x ≤ 1114111 → Sy.Fn Try.prog g [.v (.int .i32 x)] (bv (p x))) : Sy.Fn Try.prog 44 [stv s, .clo g [] []] (bv (decide (0 ≤ Lib.idxFunc p true s))) := by
  refine Fn_of_W mixed Xt44 rfl ?_
  repeat' (first | refine w1g ?_ | refine w1l ?_ | refine w1q ?_ | refine w1b ?_ | refine w1p ?_ | ((first | refine w1r ?_ | refine w1k ?_ | refine w1e ?_ | refine CallC.now (fn64 s g p hg) ?_); (refine sy1 ?_; try exact True.intro)) | refine an2 ?_ | fail)
  exact W_ret ⟨[_], ⟨rfl, rfl⟩, rfl⟩
def okCh (b : Int) : Bool := (decide (97 ≤ b) && decide (b ≤ 122)) || (decide (48 ≤ b) && decide (b ≤ 57))
theorem fn45 (x : Int) : Sy.Fn Try.prog 45 [.v (.int .i32 x)] (bv (!okCh x)) := by
  refine Fn_of_W mixed Xt45 rfl ?_
  repeat' (first | refine w1g ?_ | refine w1l ?_ | refine w1q ?_ | refine w1b ?_ | refine w1p ?_ | ((first | refine w1r ?_ | refine w1k ?_ | refine w1e ?_); (refine sy1 ?_; try exact True.intro)) | refine an2 ?_ | fail)
  have e : ((decide (x < 97) || decide (122 < x)) && (decide (x < 48) || decide (57 < x))) = !okCh x := by
    unfold okCh
    rw [Bool.eq_iff_iff]
    simp only [Bool.and_eq_true, Bool.or_eq_true, decide_eq_true_eq, Bool.not_eq_true', Bool.or_eq_false_iff, Bool.and_eq_false_iff, decide_eq_false_iff_not]
    omega
  rw [e]
  exact W_ret ⟨[_], ⟨rfl, rfl⟩, rfl⟩
theorem get_at (s : ByteArray) (i : Nat) (h : i < s.size) : s.get! i = s[i] := by
  cases s with | mk d =>
  show d[i]! = d[i]
  exact getElem!_pos d i h
theorem byteAt_get (s : ByteArray) (i : Nat) (h : i < s.size) : byteAt s i = (s.get! i).toNat := by
  unfold byteAt
  have h4 : s[i]? = some s[i] := by simp [h]
  rw [h4, get_at s i h]
def chars (s : ByteArray) : Bool := (List.range s.size).all (fun i => okCh (byteAt s i))
theorem idx_ok (s : ByteArray) : ∀ (f pos : Nat), s.size ≤ pos + f → (0 ≤ Lib.idxFuncFrom (fun x => !okCh x) true s f pos ↔ ∃ i, pos ≤ i ∧ i < s.size ∧ okCh (byteAt s i) = false)
  | 0, pos, h => by
    simp only [Lib.idxFuncFrom]
    constructor
    · intro h; omega
    · rintro ⟨i, a, b, _⟩; omega
  | f + 1, pos, h => by
    unfold Lib.idxFuncFrom
    by_cases hp : pos < s.size
    case neg =>
      rw [if_neg hp]
      constructor
      · intro h; omega
      · rintro ⟨i, a, b, _⟩; omega
    rw [if_pos hp]
    have hd := Lib.decode_at s pos
    have hb := byteAt_get s pos hp
    rw [← hb] at hd
    by_cases hc : okCh (byteAt s pos) = true
    · have hlt : byteAt s pos < 128 := by
        unfold okCh at hc
        simp only [Bool.or_eq_true, Bool.and_eq_true, decide_eq_true_eq] at hc
        omega
      have e : Utf8.decode s pos = (byteAt s pos, 1) := by rw [hd]; unfold Lib.decodeN; rw [if_pos hlt]
      rw [e]
      simp only []
      rw [hc, if_neg (by decide), idx_ok s f (pos + 1) (by omega)]
      constructor
      · rintro ⟨i, a, b, d⟩; exact ⟨i, by omega, b, d⟩
      · rintro ⟨i, a, b, d⟩
        refine ⟨i, ?_, b, d⟩
        by_cases q : i = pos
        · subst q; rw [hc] at d; cases d
        · omega
    · have hbad : okCh ((Utf8.decode s pos).1 : Nat) = false := by
        by_cases hlt : byteAt s pos < 128
        · have e : Utf8.decode s pos = (byteAt s pos, 1) := by rw [hd]; unfold Lib.decodeN; rw [if_pos hlt]
          rw [e]; simpa using hc
        · have : 128 ≤ (Utf8.decode s pos).1 := by
            rw [hd]; unfold Lib.decodeN; rw [if_neg hlt]
            repeat' split
            all_goals (simp only []; omega)
          unfold okCh
          rw [Bool.or_eq_false_iff, Bool.and_eq_false_iff, Bool.and_eq_false_iff]
          simp only [decide_eq_false_iff_not]
          omega
      rw [hbad, if_pos (by decide)]
      exact ⟨fun _ => ⟨pos, Nat.le_refl _, hp, by simpa using hc⟩, fun _ => by omega⟩
theorem idx_chars (s : ByteArray) : decide (0 ≤ Lib.idxFunc (fun x => !okCh x) true s) = !chars s := by
  have h := idx_ok s s.size 0 (by omega)
  rw [Bool.eq_iff_iff, decide_eq_true_eq, Bool.not_eq_true']
  unfold Lib.idxFunc chars
  rw [h]
  constructor
  · rintro ⟨i, _, a, b⟩
    rw [← Bool.not_eq_true, List.all_eq_true]
    intro q
    rw [q i (by simpa using a)] at b; cases b
  · intro q
    rw [← Bool.not_eq_true, List.all_eq_true] at q
    apply Classical.byContradiction
    intro hn
    apply q
    intro i hi
    rw [← Bool.not_eq_false]
    intro hb
    exact hn ⟨i, by omega, by simpa using hi, hb⟩
def nameB (s : ByteArray) : Bool := !decide (s.size = 0) && decide (s.size ≤ 20) && chars s
theorem fn28 (s : ByteArray) : Sy.Fn Try.prog 28 [stv s] (bv (nameB s)) := by
  refine Fn_of_W mixed Xt28 rfl ?_
  have c44 := fn44 s 45 (fun x => !okCh x) (fun x _ => fn45 x)
  rw [idx_chars] at c44
  unfold nameB
  repeat' (first | refine w1g ?_ | refine w1l ?_ | refine w1q ?_ | refine w1b ?_ | refine w1p ?_ | ((first | refine w1r ?_ | refine w1k ?_ | refine w1e ?_); (refine sy1 ?_; try exact True.intro)) | refine an2 ?_ | fail)
  refine W_cond (by rfl) (fun h => ?_) (fun h => ?_)
  · have e : (!decide (s.size = 0) && decide (s.size ≤ 20)) = false := by
      rw [Bool.or_eq_true, beq_iff_eq, decide_eq_true_eq] at h
      rw [Bool.and_eq_false_iff, Bool.not_eq_false', decide_eq_true_eq, decide_eq_false_iff_not]
      omega
    rw [e, Bool.false_and]
    repeat' (first | refine w1g ?_ | refine w1l ?_ | refine w1q ?_ | refine w1b ?_ | refine w1p ?_ | ((first | refine w1r ?_ | refine w1k ?_ | refine w1e ?_); (refine sy1 ?_; try exact True.intro)) | refine an2 ?_ | fail)
    exact W_ret ⟨[_], ⟨rfl, rfl⟩, rfl⟩
  · have e : (!decide (s.size = 0) && decide (s.size ≤ 20)) = true := by
      rw [Bool.or_eq_false_iff, beq_eq_false_iff_ne, decide_eq_false_iff_not] at h
      rw [Bool.and_eq_true, Bool.not_eq_true', decide_eq_false_iff_not, decide_eq_true_eq]
      omega
    rw [e, Bool.true_and]
    repeat' (first | refine w1g ?_ | refine w1l ?_ | refine w1q ?_ | refine w1b ?_ | refine w1p ?_ | ((first | refine w1r ?_ | refine w1k ?_ | refine w1e ?_ | refine CallC.now (c44) ?_); (refine sy1 ?_; try exact True.intro)) | refine an2 ?_ | fail)
    rw [Bool.not_not]
    exact W_ret ⟨[_], ⟨rfl, rfl⟩, rfl⟩
end Go.Proofs.Ytlegpipcmnnaoaa

