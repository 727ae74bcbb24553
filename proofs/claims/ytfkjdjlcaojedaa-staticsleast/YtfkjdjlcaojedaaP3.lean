/- Part 3 of the proof of: The division that is returned is possible with its load, and no other one has a lesser load: for any platform, mass and point -/
import Derived.Test.YtfkjdjlcaojedaaP2
import Derived.Test.YtfkjdjlcaojedaaChecked
import Derived.Lib.Mul64
import Derived.Laws.Bits64b
/- Print of my own generator (wip/sy/gen2.lean). -/
namespace Go.Proofs.Ytfkjdjlcaojedaa
open Go Sy
set_option maxRecDepth 100000
/- carried: [9] -/
/- carried: [12] -/
/- carried: [11] -/
/- carried: [12, 13, 14, 15] -/
/- carried: [21] -/
/- carried: [26] -/
/- carried: [12] -/
def Xn15_1 : C := regL [0, 1, 5] none [⟨some 5, .box true 29 (.tmp 2), none⟩, ⟨some 6, .mv (.const (.bool false)), none⟩]
def Xn15_4 : C := regL [0, 1, 5, 17] none [⟨some 15, .mv (.tmp 0), none⟩, ⟨some 16, .len (.tmp 15), none⟩, ⟨some 17, .bin 3 .gtr (.tmp 16) (.const (.int .i64 48)), none⟩]
def Xn15_7 : C := regL [6] none [⟨some 18, .call 17 [], none⟩, ⟨some 6, .mv (.tmp 18), none⟩]
def Xn15_6 : C := .seq Xn15_7 .ret
def Xn15_5 : C := .cond (.tmp 17) Xn15_6 .skip
def Xn15_3 : C := .seq Xn15_4 Xn15_5
def Xn15_11 : C := regL [0, 1, 5, 7, 8] none [⟨some 20, .mv (.tmp 0), none⟩, ⟨some 21, .mv (.tmp 1), none⟩, ⟨some 22, .ld 29 2 true (.tmp 5), none⟩, ⟨some 23, .call 47 [.tmp 20, .tmp 21, .tmp 22], none⟩, ⟨some 19, .mv (.tmp 23), none⟩, ⟨some 24, .ext 0 (.tmp 19), none⟩, ⟨some 25, .ext 1 (.tmp 19), none⟩, ⟨some 7, .alc 79 (.agg #[.slice none 0 0, .int .i64 0]), none⟩, ⟨none, .st 79 2 (.tmp 7) (.tmp 24), none⟩, ⟨some 8, .mv (.tmp 25), none⟩]
def Xn15_14 : C := regL [0, 1, 5, 7, 8, 31] none [⟨some 26, .mv (.tmp 8), none⟩, ⟨some 27, .bin 22 .neq (.tmp 26) (.const (.int .i64 0)), none⟩, ⟨some 28, .mv (.tmp 27), none⟩, ⟨some 29, .mv (.tmp 8), some (28, true)⟩, ⟨some 30, .bin 22 .neq (.tmp 29) (.const (.int .i64 15)), some (28, true)⟩, ⟨some 31, .pick 28 (.tmp 30) (.const (.bool false)), none⟩]
def Xn15_17 : C := regL [6] none [⟨some 32, .fa 0 (.tmp 7), none⟩, ⟨some 33, .ld 77 1 false (.tmp 32), none⟩, ⟨some 34, .len (.tmp 33), none⟩, ⟨some 35, .bin 3 .eql (.tmp 34) (.const (.int .i64 0)), none⟩, ⟨some 36, .mv (.tmp 35), none⟩, ⟨some 37, .call 17 [], some (36, true)⟩, ⟨some 38, .pick 36 (.tmp 37) (.const (.bool false)), none⟩, ⟨some 6, .mv (.tmp 38), none⟩]
def Xn15_16 : C := .seq Xn15_17 .ret
def Xn15_15 : C := .cond (.tmp 31) Xn15_16 .skip
def Xn15_13 : C := .seq Xn15_14 Xn15_15
def Xn15_22 : C := regL [0, 1, 5, 7, 8, 40] none [⟨some 39, .mv (.tmp 8), none⟩, ⟨some 40, .bin 22 .eql (.tmp 39) (.const (.int .i64 0)), none⟩]
def Xn15_26 : C := regL [0, 1, 5, 7, 8, 46] none [⟨some 41, .fa 0 (.tmp 7), none⟩, ⟨some 42, .ld 77 1 false (.tmp 41), none⟩, ⟨some 43, .len (.tmp 42), none⟩, ⟨some 44, .mv (.tmp 0), none⟩, ⟨some 45, .len (.tmp 44), none⟩, ⟨some 46, .bin 3 .neq (.tmp 43) (.tmp 45), none⟩]
def Xn15_29 : C := regL [6] none [⟨some 6, .mv (.const (.bool false)), none⟩]
def Xn15_28 : C := .seq Xn15_29 .ret
def Xn15_27 : C := .cond (.tmp 46) Xn15_28 .skip
def Xn15_25 : C := .seq Xn15_26 Xn15_27
def Xn15_33 : C := regL [0, 1, 5, 7, 8, 9, 10] (some [0, 0, 2, 7, 0, 0, 63, 127, 255, 255, 0, 1535, 4095]) [⟨some 48, .mv (.tmp 0), none⟩, ⟨some 49, .fa 0 (.tmp 7), none⟩, ⟨some 50, .ld 77 1 false (.tmp 49), none⟩, ⟨some 51, .call 50 [.tmp 48, .tmp 50], none⟩, ⟨some 52, .mv (.tmp 1), none⟩, ⟨some 53, .ld 29 2 true (.tmp 5), none⟩, ⟨some 54, .call 21 [.tmp 51, .tmp 52, .tmp 53], none⟩, ⟨some 47, .mv (.tmp 54), none⟩, ⟨some 55, .ext 0 (.tmp 47), none⟩, ⟨some 56, .ext 1 (.tmp 47), none⟩, ⟨some 9, .alc 30 (.agg #[.int .i64 0, .int .i64 0, .int .i64 0]), none⟩, ⟨none, .st 30 3 (.tmp 9) (.tmp 55), none⟩, ⟨some 10, .mv (.tmp 56), none⟩]
def Xn15_35 : C := regL [0, 1, 5, 7, 8, 70] none [⟨some 57, .mv (.tmp 10), none⟩, ⟨some 58, .bin 22 .neq (.tmp 57) (.const (.int .i64 0)), none⟩, ⟨some 59, .mv (.tmp 58), none⟩, ⟨some 60, .iaa 3 1 (.tmp 9) (.const (.int .i64 0)), some (59, false)⟩, ⟨some 61, .ld 2 1 false (.tmp 60), some (59, false)⟩, ⟨some 62, .iaa 3 1 (.tmp 9) (.const (.int .i64 1)), some (59, false)⟩, ⟨some 63, .ld 2 1 false (.tmp 62), some (59, false)⟩, ⟨some 64, .iaa 3 1 (.tmp 9) (.const (.int .i64 2)), some (59, false)⟩, ⟨some 65, .ld 2 1 false (.tmp 64), some (59, false)⟩, ⟨some 66, .mx [.tmp 61, .tmp 63, .tmp 65], some (59, false)⟩, ⟨some 67, .fa 1 (.tmp 7), some (59, false)⟩, ⟨some 68, .ld 2 1 false (.tmp 67), some (59, false)⟩, ⟨some 69, .bin 2 .neq (.tmp 66) (.tmp 68), some (59, false)⟩, ⟨some 70, .pick 59 (.const (.bool true)) (.tmp 69), none⟩]
def Xn15_38 : C := regL [6] none [⟨some 6, .mv (.const (.bool false)), none⟩]
def Xn15_37 : C := .seq Xn15_38 .ret
def Xn15_36 : C := .cond (.tmp 70) Xn15_37 .skip
def Xn15_34 : C := .seq Xn15_35 Xn15_36
def Xn15_32 : C := .seq Xn15_33 Xn15_34
def Xn15_24 : C := seqL [0, 1, 5, 7, 8] Xn15_25 Xn15_32
def Xn15_23 : C := .cond (.tmp 40) Xn15_24 .skip
def Xn15_21 : C := .seq Xn15_22 Xn15_23
def Xn15_43 : C := regL [0, 1, 5, 7, 8, 11] none [⟨some 71, .mv (.tmp 0), none⟩, ⟨some 72, .call 51 [.tmp 71], none⟩, ⟨some 11, .mv (.tmp 72), none⟩]
def Xn15_46 : C := regL [0, 1, 5, 7, 8, 11, 12] none [⟨some 12, .mv (.const (.int .i64 0)), none⟩]
def Xn15_51 : C := regL [0, 1, 5, 7, 8, 11, 12, 76] none [⟨some 73, .mv (.tmp 12), none⟩, ⟨some 74, .mv (.tmp 11), none⟩, ⟨some 75, .len (.tmp 74), none⟩, ⟨some 76, .bin 3 .lss (.tmp 73) (.tmp 75), none⟩]
def Xn15_52 : C := .cond (.tmp 76) .skip (.exit 0)
def Xn15_50 : C := .seq Xn15_51 Xn15_52
def Xn15_58 : C := regL [0, 1, 5, 7, 8, 11, 12, 13, 14] (some [0, 0, 0, 6, 14, 31, 0, 0, 255, 511, 1023, 1023, 0, 6143, 16383]) [⟨some 80, .mv (.tmp 0), none⟩, ⟨some 81, .mv (.tmp 11), none⟩, ⟨some 82, .mv (.tmp 12), none⟩, ⟨some 83, .ia 1 (.tmp 81) (.tmp 82), none⟩, ⟨some 84, .ld 77 1 false (.tmp 83), none⟩, ⟨some 85, .call 50 [.tmp 80, .tmp 84], none⟩, ⟨some 86, .mv (.tmp 1), none⟩, ⟨some 87, .ld 29 2 true (.tmp 5), none⟩, ⟨some 88, .call 21 [.tmp 85, .tmp 86, .tmp 87], none⟩, ⟨some 79, .mv (.tmp 88), none⟩, ⟨some 89, .ext 0 (.tmp 79), none⟩, ⟨some 90, .ext 1 (.tmp 79), none⟩, ⟨some 13, .alc 30 (.agg #[.int .i64 0, .int .i64 0, .int .i64 0]), none⟩, ⟨none, .st 30 3 (.tmp 13) (.tmp 89), none⟩, ⟨some 14, .mv (.tmp 90), none⟩]
def Xn15_60 : C := regL [0, 1, 5, 7, 8, 11, 12, 108] none [⟨some 91, .mv (.tmp 14), none⟩, ⟨some 92, .bin 22 .eql (.tmp 91) (.const (.int .i64 0)), none⟩, ⟨some 93, .mv (.tmp 92), none⟩, ⟨some 94, .mv (.tmp 8), some (93, true)⟩, ⟨some 95, .bin 22 .neq (.tmp 94) (.const (.int .i64 0)), some (93, true)⟩, ⟨some 96, .mv (.tmp 95), some (93, true)⟩, ⟨some 97, .iaa 3 1 (.tmp 13) (.const (.int .i64 0)), some (96, false)⟩, ⟨some 98, .ld 2 1 false (.tmp 97), some (96, false)⟩, ⟨some 99, .iaa 3 1 (.tmp 13) (.const (.int .i64 1)), some (96, false)⟩, ⟨some 100, .ld 2 1 false (.tmp 99), some (96, false)⟩, ⟨some 101, .iaa 3 1 (.tmp 13) (.const (.int .i64 2)), some (96, false)⟩, ⟨some 102, .ld 2 1 false (.tmp 101), some (96, false)⟩, ⟨some 103, .mx [.tmp 98, .tmp 100, .tmp 102], some (96, false)⟩, ⟨some 104, .fa 1 (.tmp 7), some (96, false)⟩, ⟨some 105, .ld 2 1 false (.tmp 104), some (96, false)⟩, ⟨some 106, .bin 2 .lss (.tmp 103) (.tmp 105), some (96, false)⟩, ⟨some 107, .pick 96 (.const (.bool true)) (.tmp 106), some (93, true)⟩, ⟨some 108, .pick 93 (.tmp 107) (.const (.bool false)), none⟩]
def Xn15_63 : C := regL [6] none [⟨some 6, .mv (.const (.bool false)), none⟩]
def Xn15_62 : C := .seq Xn15_63 .ret
def Xn15_61 : C := .cond (.tmp 108) Xn15_62 .skip
def Xn15_59 : C := .seq Xn15_60 Xn15_61
def Xn15_57 : C := .seq Xn15_58 Xn15_59
def Xn15_56 : C := .block 1 Xn15_57
def Xn15_66 : C := regL [0, 1, 5, 7, 8, 11, 12] none [⟨some 77, .mv (.tmp 12), none⟩, ⟨some 78, .bin 3 .add (.tmp 77) (.const (.int .i64 1)), none⟩, ⟨some 12, .mv (.tmp 78), none⟩]
def Xn15_55 : C := seqL [0, 1, 5, 7, 8, 11, 12] Xn15_56 Xn15_66
def Xn15_49 : C := seqL [0, 1, 5, 7, 8, 11, 12] Xn15_50 Xn15_55
/- carried: [12] -/
def Xn15_48 : C := loopL [0, 1, 5, 7, 8, 11, 12] Xn15_49
def Xn15_47 : C := .block 0 Xn15_48
def Xn15_45 : C := .seq Xn15_46 Xn15_47
def Xn15_68 : C := regL [6] none [⟨some 109, .call 17 [], none⟩, ⟨some 6, .mv (.tmp 109), none⟩]
def Xn15_67 : C := .seq Xn15_68 .ret
def Xn15_44 : C := seqL [] Xn15_45 Xn15_67
def Xn15_42 : C := .seq Xn15_43 Xn15_44
def Xn15_20 : C := seqL [0, 1, 5, 7, 8] Xn15_21 Xn15_42
def Xn15_12 : C := seqL [0, 1, 5, 7, 8] Xn15_13 Xn15_20
def Xn15_10 : C := .seq Xn15_11 Xn15_12
def Xn15_2 : C := seqL [0, 1, 5] Xn15_3 Xn15_10
def Xn15_0 : C := .seq Xn15_1 Xn15_2
theorem Xt15 : Text Try.prog 15 Xn15_0 110 3 [.t 6] := ⟨⟨Try.f15, [5], Try.func15, by kernel_rfl, by kernel_rfl, by kernel_rfl, by kernel_rfl⟩⟩
def Xn16_1 : C := regL [0, 1, 2, 3] none [⟨some 8, .mv (.const (.int .i64 0)), none⟩, ⟨some 9, .mv (.const (.int .i64 0)), none⟩, ⟨some 10, .mv (.const (.int .i64 0)), none⟩]
def Xn16_3 : C := regL [0, 1, 2, 3, 11] none [⟨some 11, .mv (.func 52), none⟩]
def Xn16_7 : C := regL [0, 1, 2, 3, 12] none [⟨some 13, .mv (.tmp 0), none⟩, ⟨some 14, .call 54 [.tmp 13], none⟩, ⟨some 15, .un .not (.tmp 14), none⟩, ⟨some 16, .mv (.tmp 15), none⟩, ⟨some 17, .mv (.tmp 11), some (16, false)⟩, ⟨some 18, .mv (.tmp 1), some (16, false)⟩, ⟨some 19, .callv (.tmp 17) [.tmp 18], some (16, false)⟩, ⟨some 20, .un .not (.tmp 19), some (16, false)⟩, ⟨some 21, .pick 16 (.const (.bool true)) (.tmp 20), none⟩, ⟨some 22, .mv (.tmp 21), none⟩, ⟨some 23, .mv (.tmp 11), some (22, false)⟩, ⟨some 24, .mv (.tmp 2), some (22, false)⟩, ⟨some 25, .callv (.tmp 23) [.tmp 24], some (22, false)⟩, ⟨some 26, .un .not (.tmp 25), some (22, false)⟩, ⟨some 27, .pick 22 (.const (.bool true)) (.tmp 26), none⟩, ⟨some 28, .mv (.tmp 27), none⟩, ⟨some 29, .mv (.tmp 11), some (28, false)⟩, ⟨some 30, .mv (.tmp 3), some (28, false)⟩, ⟨some 31, .callv (.tmp 29) [.tmp 30], some (28, false)⟩, ⟨some 32, .un .not (.tmp 31), some (28, false)⟩, ⟨some 33, .pick 28 (.const (.bool true)) (.tmp 32), none⟩, ⟨some 12, .mv (.tmp 33), none⟩]
def Xn16_10 : C := regL [8, 9, 10] none [⟨some 8, .mv (.const (.int .i64 0)), none⟩, ⟨some 9, .mv (.const (.int .i64 0)), none⟩, ⟨some 10, .mv (.const (.int .i64 3)), none⟩]
def Xn16_9 : C := .seq Xn16_10 .ret
def Xn16_13 : C := regL [0, 1, 2, 3, 34] none [⟨some 35, .mv (.tmp 1), none⟩, ⟨some 36, .mv (.tmp 2), none⟩, ⟨some 37, .bin 2 .geq (.tmp 35) (.tmp 36), none⟩, ⟨some 34, .mv (.tmp 37), none⟩]
def Xn16_16 : C := regL [8, 9, 10] none [⟨some 8, .mv (.const (.int .i64 0)), none⟩, ⟨some 9, .mv (.const (.int .i64 0)), none⟩, ⟨some 10, .mv (.const (.int .i64 9)), none⟩]
def Xn16_15 : C := .seq Xn16_16 .ret
def Xn16_19 : C := regL [0, 1, 2, 3, 38] none [⟨some 39, .mv (.tmp 3), none⟩, ⟨some 40, .mv (.tmp 1), none⟩, ⟨some 41, .mv (.tmp 2), none⟩, ⟨some 42, .call 53 [.tmp 39, .tmp 40, .tmp 41], none⟩, ⟨some 43, .un .not (.tmp 42), none⟩, ⟨some 38, .mv (.tmp 43), none⟩]
def Xn16_22 : C := regL [8, 9, 10] none [⟨some 8, .mv (.const (.int .i64 0)), none⟩, ⟨some 9, .mv (.const (.int .i64 0)), none⟩, ⟨some 10, .mv (.const (.int .i64 19)), none⟩]
def Xn16_21 : C := .seq Xn16_22 .ret
def Xn16_20 : C := .cond (.tmp 38) Xn16_21 .skip
def Xn16_18 : C := .seq Xn16_19 Xn16_20
def Xn16_14 : C := .cond (.tmp 34) Xn16_15 Xn16_18
def Xn16_12 : C := .seq Xn16_13 Xn16_14
def Xn16_8 : C := .cond (.tmp 12) Xn16_9 Xn16_12
def Xn16_6 : C := .seq Xn16_7 Xn16_8
def Xn16_5 : C := .block 0 Xn16_6
def Xn16_26 : C := regL [8, 9, 10] none [⟨some 44, .mv (.tmp 0), none⟩, ⟨some 45, .mv (.tmp 2), none⟩, ⟨some 46, .mv (.tmp 3), none⟩, ⟨some 47, .bin 2 .sub (.tmp 45) (.tmp 46), none⟩, ⟨some 48, .mv (.tmp 2), none⟩, ⟨some 49, .mv (.tmp 1), none⟩, ⟨some 50, .bin 2 .sub (.tmp 48) (.tmp 49), none⟩, ⟨some 51, .bld (.agg #[.int .i64 0, .int .i64 0, .int .i64 0]) [(0, 1, .tmp 44), (1, 1, .tmp 47), (2, 1, .tmp 50)], none⟩, ⟨some 52, .call 55 [.tmp 51], none⟩, ⟨some 53, .mv (.tmp 0), none⟩, ⟨some 54, .mv (.tmp 3), none⟩, ⟨some 55, .mv (.tmp 1), none⟩, ⟨some 56, .bin 2 .sub (.tmp 54) (.tmp 55), none⟩, ⟨some 57, .mv (.tmp 2), none⟩, ⟨some 58, .mv (.tmp 1), none⟩, ⟨some 59, .bin 2 .sub (.tmp 57) (.tmp 58), none⟩, ⟨some 60, .bld (.agg #[.int .i64 0, .int .i64 0, .int .i64 0]) [(0, 1, .tmp 53), (1, 1, .tmp 56), (2, 1, .tmp 59)], none⟩, ⟨some 61, .call 55 [.tmp 60], none⟩, ⟨some 8, .mv (.tmp 52), none⟩, ⟨some 9, .mv (.tmp 61), none⟩, ⟨some 10, .mv (.const (.int .i64 0)), none⟩]
def Xn16_25 : C := .seq Xn16_26 .ret
def Xn16_4 : C := seqL [0, 1, 2, 3] Xn16_5 Xn16_25
def Xn16_2 : C := .seq Xn16_3 Xn16_4
def Xn16_0 : C := .seq Xn16_1 Xn16_2
theorem Xt16 : Text Try.prog 16 Xn16_0 62 4 [.t 8, .t 9, .t 10] := ⟨⟨Try.f16, [], Try.func16, by kernel_rfl, by kernel_rfl, by kernel_rfl, by kernel_rfl⟩⟩
def Xn17_1 : C := regL [] none [⟨some 0, .mv (.const (.bool false)), none⟩]
def Xn17_3 : C := regL [1, 2] none [⟨some 9, .call 35 [], none⟩, ⟨some 10, .bld (.agg #[.int .i64 0, .int .i64 0]) [(0, 1, .const (.int .i64 2000))], none⟩, ⟨some 11, .call 21 [.tmp 9, .const (.int .i64 16000), .tmp 10], none⟩, ⟨some 8, .mv (.tmp 11), none⟩, ⟨some 12, .ext 0 (.tmp 8), none⟩, ⟨some 13, .ext 1 (.tmp 8), none⟩, ⟨some 1, .alc 30 (.agg #[.int .i64 0, .int .i64 0, .int .i64 0]), none⟩, ⟨none, .st 30 3 (.tmp 1) (.tmp 12), none⟩, ⟨some 2, .mv (.tmp 13), none⟩]
def Xn17_5 : C := regL [1, 2, 3, 4] none [⟨some 15, .call 35 [], none⟩, ⟨some 16, .bld (.agg #[.int .i64 0, .int .i64 0]) [(0, 1, .const (.int .i64 5000))], none⟩, ⟨some 17, .call 19 [.tmp 15, .tmp 16], none⟩, ⟨some 14, .mv (.tmp 17), none⟩, ⟨some 18, .ext 0 (.tmp 14), none⟩, ⟨some 19, .ext 1 (.tmp 14), none⟩, ⟨some 3, .mv (.tmp 18), none⟩, ⟨some 4, .mv (.tmp 19), none⟩]
def Xn17_7 : C := regL [1, 2, 3, 4, 5, 6, 7] none [⟨some 21, .call 16 [.const (.int .i64 1000), .const (.int .i64 0), .const (.int .i64 3), .const (.int .i64 1)], none⟩, ⟨some 20, .mv (.tmp 21), none⟩, ⟨some 22, .ext 0 (.tmp 20), none⟩, ⟨some 23, .ext 1 (.tmp 20), none⟩, ⟨some 24, .ext 2 (.tmp 20), none⟩, ⟨some 5, .mv (.tmp 22), none⟩, ⟨some 6, .mv (.tmp 23), none⟩, ⟨some 7, .mv (.tmp 24), none⟩]
def Xn17_9 : C := regL [0] none [⟨some 25, .mv (.tmp 2), none⟩, ⟨some 26, .mv (.tmp 4), none⟩, ⟨some 27, .bin 22 .add (.tmp 25) (.tmp 26), none⟩, ⟨some 28, .mv (.tmp 7), none⟩, ⟨some 29, .bin 22 .add (.tmp 27) (.tmp 28), none⟩, ⟨some 30, .bin 22 .eql (.tmp 29) (.const (.int .i64 0)), none⟩, ⟨some 31, .mv (.tmp 30), none⟩, ⟨some 32, .ld 30 3 true (.tmp 1), some (31, true)⟩, ⟨some 33, .bld (.agg #[.int .i64 0, .int .i64 0, .int .i64 0]) [(0, 1, .const (.int .i64 4000)), (1, 1, .const (.int .i64 3000)), (2, 1, .const (.int .i64 5000))], some (31, true)⟩, ⟨some 34, .eqb 21 false (.tmp 32) (.tmp 33), some (31, true)⟩, ⟨some 35, .pick 31 (.tmp 34) (.const (.bool false)), none⟩, ⟨some 36, .mv (.tmp 35), none⟩, ⟨some 37, .mv (.tmp 3), some (36, true)⟩, ⟨some 38, .bin 3 .eql (.tmp 37) (.const (.int .i64 0)), some (36, true)⟩, ⟨some 39, .pick 36 (.tmp 38) (.const (.bool false)), none⟩, ⟨some 40, .mv (.tmp 39), none⟩, ⟨some 41, .mv (.tmp 5), some (40, true)⟩, ⟨some 42, .bin 2 .eql (.tmp 41) (.const (.int .i64 667)), some (40, true)⟩, ⟨some 43, .pick 40 (.tmp 42) (.const (.bool false)), none⟩, ⟨some 44, .mv (.tmp 43), none⟩, ⟨some 45, .mv (.tmp 6), some (44, true)⟩, ⟨some 46, .bin 2 .eql (.tmp 45) (.const (.int .i64 334)), some (44, true)⟩, ⟨some 47, .pick 44 (.tmp 46) (.const (.bool false)), none⟩, ⟨some 0, .mv (.tmp 47), none⟩]
def Xn17_8 : C := .seq Xn17_9 .ret
def Xn17_6 : C := .seq Xn17_7 Xn17_8
def Xn17_4 : C := .seq Xn17_5 Xn17_6
def Xn17_2 : C := .seq Xn17_3 Xn17_4
def Xn17_0 : C := .seq Xn17_1 Xn17_2
theorem Xt17 : Text Try.prog 17 Xn17_0 48 0 [.t 0] := ⟨⟨Try.f17, [], Try.func17, by kernel_rfl, by kernel_rfl, by kernel_rfl, by kernel_rfl⟩⟩
def Xn19_1 : C := regL [0, 3] none [⟨some 3, .box true 29 (.tmp 1), none⟩, ⟨some 4, .mv (.const (.int .i64 0)), none⟩, ⟨some 5, .mv (.const (.int .i64 0)), none⟩]
def Xn19_3 : C := regL [3, 6, 7] none [⟨some 10, .mv (.tmp 0), none⟩, ⟨some 11, .call 56 [.tmp 10], none⟩, ⟨some 9, .mv (.tmp 11), none⟩, ⟨some 12, .ext 0 (.tmp 9), none⟩, ⟨some 13, .ext 1 (.tmp 9), none⟩, ⟨some 6, .mv (.tmp 12), none⟩, ⟨some 7, .mv (.tmp 13), none⟩]
def Xn19_6 : C := regL [3, 6, 7, 15] none [⟨some 14, .mv (.tmp 7), none⟩, ⟨some 15, .bin 22 .neq (.tmp 14) (.const (.int .i64 0)), none⟩]
def Xn19_9 : C := regL [4, 5] none [⟨some 16, .mv (.tmp 7), none⟩, ⟨some 4, .mv (.const (.int .i64 0)), none⟩, ⟨some 5, .mv (.tmp 16), none⟩]
def Xn19_8 : C := .seq Xn19_9 .ret
def Xn19_7 : C := .cond (.tmp 15) Xn19_8 .skip
def Xn19_5 : C := .seq Xn19_6 Xn19_7
def Xn19_14 : C := regL [3, 6, 19] none [⟨some 17, .ld 29 2 true (.tmp 3), none⟩, ⟨some 18, .call 57 [.tmp 17], none⟩, ⟨some 19, .un .not (.tmp 18), none⟩]
def Xn19_17 : C := regL [4, 5] none [⟨some 4, .mv (.const (.int .i64 0)), none⟩, ⟨some 5, .mv (.const (.int .i64 3)), none⟩]
def Xn19_16 : C := .seq Xn19_17 .ret
def Xn19_15 : C := .cond (.tmp 19) Xn19_16 .skip
def Xn19_13 : C := .seq Xn19_14 Xn19_15
def Xn19_22 : C := regL [8] none [⟨some 20, .mv (.tmp 6), none⟩, ⟨some 21, .ld 29 2 true (.tmp 3), none⟩, ⟨some 22, .call 58 [.tmp 20, .tmp 21], none⟩, ⟨some 8, .mv (.tmp 22), none⟩]
def Xn19_24 : C := regL [8, 24] none [⟨some 23, .mv (.tmp 8), none⟩, ⟨some 24, .bin 3 .geq (.tmp 23) (.const (.int .i64 0)), none⟩]
def Xn19_27 : C := regL [4, 5] none [⟨some 25, .mv (.tmp 8), none⟩, ⟨some 4, .mv (.tmp 25), none⟩, ⟨some 5, .mv (.const (.int .i64 0)), none⟩]
def Xn19_26 : C := .seq Xn19_27 .ret
def Xn19_25 : C := .cond (.tmp 24) Xn19_26 .skip
def Xn19_23 : C := .seq Xn19_24 Xn19_25
def Xn19_21 : C := .seq Xn19_22 Xn19_23
def Xn19_31 : C := regL [4, 5] none [⟨some 4, .mv (.const (.int .i64 0)), none⟩, ⟨some 5, .mv (.const (.int .i64 5)), none⟩]
def Xn19_30 : C := .seq Xn19_31 .ret
def Xn19_20 : C := seqL [] Xn19_21 Xn19_30
def Xn19_12 : C := seqL [3, 6] Xn19_13 Xn19_20
def Xn19_4 : C := seqL [3, 6] Xn19_5 Xn19_12
def Xn19_2 : C := .seq Xn19_3 Xn19_4
def Xn19_0 : C := .seq Xn19_1 Xn19_2
theorem Xt19 : Text Try.prog 19 Xn19_0 26 2 [.t 4, .t 5] := ⟨⟨Try.f19, [3], Try.func19, by kernel_rfl, by kernel_rfl, by kernel_rfl, by kernel_rfl⟩⟩
def Xn21_1 : C := regL [0, 1, 5, 6] none [⟨some 5, .box true 29 (.tmp 2), none⟩, ⟨some 6, .alc 30 (.agg #[.int .i64 0, .int .i64 0, .int .i64 0]), none⟩, ⟨some 7, .mv (.const (.int .i64 0)), none⟩]
def Xn21_3 : C := regL [1, 5, 6, 8, 9] none [⟨some 11, .mv (.tmp 0), none⟩, ⟨some 12, .call 56 [.tmp 11], none⟩, ⟨some 10, .mv (.tmp 12), none⟩, ⟨some 13, .ext 0 (.tmp 10), none⟩, ⟨some 14, .ext 1 (.tmp 10), none⟩, ⟨some 8, .mv (.tmp 13), none⟩, ⟨some 9, .mv (.tmp 14), none⟩]
def Xn21_6 : C := regL [1, 5, 6, 8, 9, 16] none [⟨some 15, .mv (.tmp 9), none⟩, ⟨some 16, .bin 22 .neq (.tmp 15) (.const (.int .i64 0)), none⟩]
def Xn21_9 : C := regL [6, 7] none [⟨some 17, .bld (.agg #[.int .i64 0, .int .i64 0, .int .i64 0]) [], none⟩, ⟨some 18, .mv (.tmp 9), none⟩, ⟨none, .st 30 3 (.tmp 6) (.tmp 17), none⟩, ⟨some 7, .mv (.tmp 18), none⟩]
def Xn21_8 : C := .seq Xn21_9 .ret
def Xn21_7 : C := .cond (.tmp 16) Xn21_8 .skip
def Xn21_5 : C := .seq Xn21_6 Xn21_7
def Xn21_13 : C := regL [6, 7] none [⟨some 19, .mv (.tmp 8), none⟩, ⟨some 20, .mv (.tmp 1), none⟩, ⟨some 21, .ld 29 2 true (.tmp 5), none⟩, ⟨some 22, .call 59 [.tmp 19, .tmp 20, .tmp 21], none⟩, ⟨some 23, .ext 0 (.tmp 22), none⟩, ⟨some 24, .ext 1 (.tmp 22), none⟩, ⟨none, .st 30 3 (.tmp 6) (.tmp 23), none⟩, ⟨some 7, .mv (.tmp 24), none⟩]
def Xn21_12 : C := .seq Xn21_13 .ret
def Xn21_4 : C := seqL [1, 5, 6, 8] Xn21_5 Xn21_12
def Xn21_2 : C := .seq Xn21_3 Xn21_4
def Xn21_0 : C := .seq Xn21_1 Xn21_2
theorem Xt21 : Text Try.prog 21 Xn21_0 25 3 [.c 6 3 true, .t 7] := ⟨⟨Try.f21, [5], Try.func21, by kernel_rfl, by kernel_rfl, by kernel_rfl, by kernel_rfl⟩⟩
def Xn27_1 : C := regL [0] none [⟨some 2, .mv (.const (.int .i64 0)), none⟩]
def Xn27_3 : C := regL [4] none [⟨some 6, .mv (.tmp 0), none⟩, ⟨some 7, .call 56 [.tmp 6], none⟩, ⟨some 5, .mv (.tmp 7), none⟩, ⟨some 8, .ext 0 (.tmp 5), none⟩, ⟨some 9, .ext 1 (.tmp 5), none⟩, ⟨some 3, .mv (.tmp 8), none⟩, ⟨some 4, .mv (.tmp 9), none⟩]
def Xn27_5 : C := regL [2] none [⟨some 10, .mv (.tmp 4), none⟩, ⟨some 2, .mv (.tmp 10), none⟩]
def Xn27_4 : C := .seq Xn27_5 .ret
def Xn27_2 : C := .seq Xn27_3 Xn27_4
def Xn27_0 : C := .seq Xn27_1 Xn27_2
theorem Xt27 : Text Try.prog 27 Xn27_0 11 1 [.t 2] := ⟨⟨Try.f27, [], Try.func27, by kernel_rfl, by kernel_rfl, by kernel_rfl, by kernel_rfl⟩⟩
/- carried: [3] -/
/- carried: [10] -/
/- carried: [8] -/
def Xn35_1 : C := regL [] none [⟨some 0, .mv (.const (.slice none 0 0)), none⟩]
def Xn35_3 : C := regL [0] none [⟨some 1, .bld (.agg #[.int .i64 0, .int .i64 0, .int .i64 0, .int .i64 0, .int .i64 0, .int .i64 0]) [(3, 1, .const (.int .i64 10000)), (4, 1, .const (.int .i64 100)), (5, 1, .const (.int .i64 900))], none⟩, ⟨some 2, .bld (.agg #[.int .i64 0, .int .i64 0, .int .i64 0, .int .i64 0, .int .i64 0, .int .i64 0]) [(0, 1, .const (.int .i64 4000)), (1, 1, .const (.int .i64 2000)), (2, 1, .const (.int .i64 1)), (3, 1, .const (.int .i64 10000)), (4, 1, .const (.int .i64 100)), (5, 1, .const (.int .i64 900))], none⟩, ⟨some 3, .bld (.agg #[.int .i64 0, .int .i64 0, .int .i64 0, .int .i64 0, .int .i64 0, .int .i64 0]) [(0, 1, .const (.int .i64 4000)), (1, 1, .const (.int .i64 (-2000))), (2, 1, .const (.int .i64 2)), (3, 1, .const (.int .i64 10000)), (4, 1, .const (.int .i64 100)), (5, 1, .const (.int .i64 900))], none⟩, ⟨some 4, .bld (.agg #[.int .i64 0, .int .i64 0, .int .i64 0, .int .i64 0, .int .i64 0, .int .i64 0]) [(1, 1, .const (.int .i64 1000)), (3, 1, .const (.int .i64 10000)), (4, 1, .const (.int .i64 100)), (5, 1, .const (.int .i64 900))], none⟩, ⟨some 5, .bls 62 6 4 (.agg #[.int .i64 0, .int .i64 0, .int .i64 0, .int .i64 0, .int .i64 0, .int .i64 0]) [(0, 6, .tmp 1), (6, 6, .tmp 2), (12, 6, .tmp 3), (18, 6, .tmp 4)], none⟩, ⟨some 0, .mv (.tmp 5), none⟩]
def Xn35_2 : C := .seq Xn35_3 .ret
def Xn35_0 : C := .seq Xn35_1 Xn35_2
theorem Xt35 : Text Try.prog 35 Xn35_0 6 0 [.t 0] := ⟨⟨Try.f35, [], Try.func35, by kernel_rfl, by kernel_rfl, by kernel_rfl, by kernel_rfl⟩⟩
/- carried: [11, 30] -/
/- carried: [8, 9] -/
/- carried: [5] -/
/- carried: [3] -/
/- carried: [12, 69] -/
/- carried: [17] -/
/- carried: [13, 14] -/
def Xn47_1 : C := regL [0, 4, 5, 6] none [⟨some 4, .box true 2 (.tmp 1), none⟩, ⟨some 5, .box true 29 (.tmp 2), none⟩, ⟨some 6, .alc 79 (.agg #[.slice none 0 0, .int .i64 0]), none⟩, ⟨some 7, .mv (.const (.int .i64 0)), none⟩]
def Xn47_5 : C := regL [0, 4, 5, 6, 8] none [⟨some 18, .mv (.tmp 0), none⟩, ⟨some 19, .call 27 [.tmp 18], none⟩, ⟨some 8, .mv (.tmp 19), none⟩]
def Xn47_7 : C := regL [0, 4, 5, 6, 8, 21] none [⟨some 20, .mv (.tmp 8), none⟩, ⟨some 21, .bin 22 .neq (.tmp 20) (.const (.int .i64 0)), none⟩]
def Xn47_10 : C := regL [6, 7] none [⟨some 22, .bld (.agg #[.slice none 0 0, .int .i64 0]) [], none⟩, ⟨some 23, .mv (.tmp 8), none⟩, ⟨none, .st 79 2 (.tmp 6) (.tmp 22), none⟩, ⟨some 7, .mv (.tmp 23), none⟩]
def Xn47_9 : C := .seq Xn47_10 .ret
def Xn47_8 : C := .cond (.tmp 21) Xn47_9 .skip
def Xn47_6 : C := .seq Xn47_7 Xn47_8
def Xn47_4 : C := .seq Xn47_5 Xn47_6
def Xn47_15 : C := regL [0, 4, 5, 6, 31] none [⟨some 24, .ld 2 1 false (.tmp 4), none⟩, ⟨some 25, .call 54 [.tmp 24], none⟩, ⟨some 26, .un .not (.tmp 25), none⟩, ⟨some 27, .mv (.tmp 26), none⟩, ⟨some 28, .ld 29 2 true (.tmp 5), some (27, false)⟩, ⟨some 29, .call 57 [.tmp 28], some (27, false)⟩, ⟨some 30, .un .not (.tmp 29), some (27, false)⟩, ⟨some 31, .pick 27 (.const (.bool true)) (.tmp 30), none⟩]
def Xn47_18 : C := regL [6, 7] none [⟨some 32, .bld (.agg #[.slice none 0 0, .int .i64 0]) [], none⟩, ⟨none, .st 79 2 (.tmp 6) (.tmp 32), none⟩, ⟨some 7, .mv (.const (.int .i64 3)), none⟩]
def Xn47_17 : C := .seq Xn47_18 .ret
def Xn47_16 : C := .cond (.tmp 31) Xn47_17 .skip
def Xn47_14 : C := .seq Xn47_15 Xn47_16
def Xn47_22 : C := regL [0, 4, 5, 6, 9] none [⟨some 9, .alc 79 (.agg #[.slice none 0 0, .int .i64 0]), none⟩]
def Xn47_24 : C := regL [0, 4, 5, 6, 9, 10] none [⟨some 33, .mv (.tmp 0), none⟩, ⟨some 34, .call 90 [.tmp 33], none⟩, ⟨some 10, .alc 27 (.slice none 0 0), none⟩, ⟨none, .st 27 1 (.tmp 10) (.tmp 34), none⟩]
def Xn47_29 : C := regL [4, 5, 6, 9, 10, 36] none [⟨some 35, .mv (.tmp 0), none⟩, ⟨some 36, .call 91 [.tmp 35], none⟩]
def Xn47_32 : C := regL [4, 5, 9, 10, 11] none [⟨some 11, .mv (.tmp 37), none⟩]
def Xn47_36 : C := regL [4, 5, 9, 10, 11, 38, 39, 40] none [⟨some 38, .mv (.tmp 11), none⟩, ⟨some 39, .len (.tmp 38), none⟩, ⟨some 40, .mv (.const (.int .i64 0)), none⟩]
def Xn47_40 : C := regL [4, 5, 9, 10, 11, 38, 39, 40, 41] none [⟨some 41, .bin 3 .lss (.tmp 40) (.tmp 39), none⟩]
def Xn47_42 : C := .cond (.tmp 41) .skip (.exit 2)
def Xn47_48 : C := regL [4, 5, 9, 10, 11, 12, 13, 38, 39, 40] none [⟨some 42, .mv (.tmp 40), none⟩, ⟨some 43, .ia 1 (.tmp 38) (.tmp 40), none⟩, ⟨some 44, .ld 3 1 false (.tmp 43), none⟩, ⟨some 12, .mv (.tmp 42), none⟩, ⟨some 13, .mv (.tmp 44), none⟩]
def Xn47_49 : C := regL [4, 5, 9, 10, 11, 38, 39, 40] none [⟨some 45, .ld 27 1 false (.tmp 10), none⟩, ⟨some 46, .mv (.tmp 12), none⟩, ⟨some 47, .mv (.tmp 13), none⟩, ⟨some 48, .ia 6 (.tmp 45) (.tmp 46), none⟩, ⟨some 49, .fa 2 (.tmp 48), none⟩, ⟨none, .st 3 1 (.tmp 49) (.tmp 47), none⟩]
def Xn47_47 : C := .seq Xn47_48 Xn47_49
def Xn47_46 : C := .block 3 Xn47_47
def Xn47_50 : C := regL [4, 5, 9, 10, 11, 38, 39, 40] none [⟨some 50, .bin 3 .add (.tmp 40) (.const (.int .i64 1)), none⟩, ⟨some 40, .mv (.tmp 50), none⟩]
def Xn47_45 : C := seqL [4, 5, 9, 10, 11, 38, 39, 40] Xn47_46 Xn47_50
def Xn47_41 : C := seqL [4, 5, 9, 10, 11, 38, 39, 40] Xn47_42 Xn47_45
def Xn47_39 : C := .seq Xn47_40 Xn47_41
/- carried: [40] -/
def Xn47_38 : C := loopL [4, 5, 9, 10, 11, 38, 39, 40] Xn47_39
def Xn47_37 : C := .block 2 Xn47_38
def Xn47_35 : C := .seq Xn47_36 Xn47_37
def Xn47_52 : C := regL [4, 5, 9, 11, 14, 15] none [⟨some 52, .ld 27 1 false (.tmp 10), none⟩, ⟨some 53, .call 56 [.tmp 52], none⟩, ⟨some 51, .mv (.tmp 53), none⟩, ⟨some 54, .ext 0 (.tmp 51), none⟩, ⟨some 55, .ext 1 (.tmp 51), none⟩, ⟨some 14, .mv (.tmp 54), none⟩, ⟨some 15, .mv (.tmp 55), none⟩]
def Xn47_55 : C := regL [4, 5, 9, 11, 14, 57] none [⟨some 56, .mv (.tmp 15), none⟩, ⟨some 57, .bin 22 .neq (.tmp 56) (.const (.int .i64 0)), none⟩]
def Xn47_56 : C := .cond (.tmp 57) (.exit 1) .skip
def Xn47_54 : C := .seq Xn47_55 Xn47_56
def Xn47_60 : C := regL [9, 11, 15, 16] none [⟨some 59, .mv (.tmp 14), none⟩, ⟨some 60, .ld 2 1 false (.tmp 4), none⟩, ⟨some 61, .ld 29 2 true (.tmp 5), none⟩, ⟨some 62, .call 59 [.tmp 59, .tmp 60, .tmp 61], none⟩, ⟨some 58, .mv (.tmp 62), none⟩, ⟨some 63, .ext 0 (.tmp 58), none⟩, ⟨some 64, .ext 1 (.tmp 58), none⟩, ⟨some 16, .alc 30 (.agg #[.int .i64 0, .int .i64 0, .int .i64 0]), none⟩, ⟨none, .st 30 3 (.tmp 16) (.tmp 63), none⟩, ⟨some 15, .mv (.tmp 64), none⟩]
def Xn47_62 : C := regL [9, 11, 15, 17] none [⟨some 65, .iaa 3 1 (.tmp 16) (.const (.int .i64 0)), none⟩, ⟨some 66, .ld 2 1 false (.tmp 65), none⟩, ⟨some 67, .iaa 3 1 (.tmp 16) (.const (.int .i64 1)), none⟩, ⟨some 68, .ld 2 1 false (.tmp 67), none⟩, ⟨some 69, .iaa 3 1 (.tmp 16) (.const (.int .i64 2)), none⟩, ⟨some 70, .ld 2 1 false (.tmp 69), none⟩, ⟨some 71, .mx [.tmp 66, .tmp 68, .tmp 70], none⟩, ⟨some 17, .mv (.tmp 71), none⟩]
def Xn47_64 : C := regL [9, 11, 17, 84] none [⟨some 72, .mv (.tmp 15), none⟩, ⟨some 73, .bin 22 .eql (.tmp 72) (.const (.int .i64 0)), none⟩, ⟨some 74, .mv (.tmp 73), none⟩, ⟨some 75, .fa 0 (.tmp 9), some (74, true)⟩, ⟨some 76, .ld 77 1 false (.tmp 75), some (74, true)⟩, ⟨some 77, .isn false (.tmp 76), some (74, true)⟩, ⟨some 78, .mv (.tmp 77), some (74, true)⟩, ⟨some 79, .mv (.tmp 17), some (78, false)⟩, ⟨some 80, .fa 1 (.tmp 9), some (78, false)⟩, ⟨some 81, .ld 2 1 false (.tmp 80), some (78, false)⟩, ⟨some 82, .bin 2 .lss (.tmp 79) (.tmp 81), some (78, false)⟩, ⟨some 83, .pick 78 (.const (.bool true)) (.tmp 82), some (74, true)⟩, ⟨some 84, .pick 74 (.tmp 83) (.const (.bool false)), none⟩]
def Xn47_66 : C := regL [] none [⟨some 85, .mv (.tmp 11), none⟩, ⟨some 86, .mv (.tmp 17), none⟩, ⟨some 87, .bld (.agg #[.slice none 0 0, .int .i64 0]) [(0, 1, .tmp 85), (1, 1, .tmp 86)], none⟩, ⟨none, .st 79 2 (.tmp 9) (.tmp 87), none⟩]
def Xn47_65 : C := .cond (.tmp 84) Xn47_66 .skip
def Xn47_63 : C := .seq Xn47_64 Xn47_65
def Xn47_61 : C := .seq Xn47_62 Xn47_63
def Xn47_59 : C := .seq Xn47_60 Xn47_61
def Xn47_53 : C := seqL [4, 5, 9, 11, 14] Xn47_54 Xn47_59
def Xn47_51 : C := .seq Xn47_52 Xn47_53
def Xn47_34 : C := seqL [4, 5, 9, 10, 11] Xn47_35 Xn47_51
def Xn47_33 : C := .block 1 Xn47_34
def Xn47_31 : C := .rfn (.tmp 36) [37] Xn47_32 Xn47_33
def Xn47_30 : C := .block 0 Xn47_31
def Xn47_28 : C := .seq Xn47_29 Xn47_30
def Xn47_70 : C := regL [6, 9, 90] none [⟨some 88, .fa 0 (.tmp 9), none⟩, ⟨some 89, .ld 77 1 false (.tmp 88), none⟩, ⟨some 90, .isn false (.tmp 89), none⟩]
def Xn47_73 : C := regL [6, 7] none [⟨some 91, .ld 79 2 true (.tmp 9), none⟩, ⟨none, .st 79 2 (.tmp 6) (.tmp 91), none⟩, ⟨some 7, .mv (.const (.int .i64 15)), none⟩]
def Xn47_72 : C := .seq Xn47_73 .ret
def Xn47_71 : C := .cond (.tmp 90) Xn47_72 .skip
def Xn47_69 : C := .seq Xn47_70 Xn47_71
def Xn47_77 : C := regL [6, 7] none [⟨some 92, .ld 79 2 true (.tmp 9), none⟩, ⟨none, .st 79 2 (.tmp 6) (.tmp 92), none⟩, ⟨some 7, .mv (.const (.int .i64 0)), none⟩]
def Xn47_76 : C := .seq Xn47_77 .ret
def Xn47_68 : C := seqL [6, 9] Xn47_69 Xn47_76
def Xn47_27 : C := seqL [6, 9] Xn47_28 Xn47_68
def Xn47_25 : C := seqL [0, 4, 5, 6, 9, 10] .skip Xn47_27
def Xn47_23 : C := .seq Xn47_24 Xn47_25
def Xn47_21 : C := .seq Xn47_22 Xn47_23
def Xn47_13 : C := seqL [0, 4, 5, 6] Xn47_14 Xn47_21
def Xn47_3 : C := seqL [0, 4, 5, 6] Xn47_4 Xn47_13
def Xn47_2 : C := .scp Xn47_3
def Xn47_0 : C := .seq Xn47_1 Xn47_2
theorem Xt47 : Text Try.prog 47 Xn47_0 93 3 [.c 6 2 true, .t 7] := ⟨⟨Try.f47, [4, 5], Try.func47, by kernel_rfl, by kernel_rfl, by kernel_rfl, by kernel_rfl⟩⟩
end Go.Proofs.Ytfkjdjlcaojedaa

/- Print of my own generator (wip/sy/gen2.lean). -/
namespace Go.Proofs.Ytfkjdjlcaojedaa
open Go Sy
set_option maxRecDepth 100000
/- carried: [10] -/
/- carried: [5] -/
def Xn50_1 : C := regL [0, 1] none [⟨some 4, .mv (.const (.slice none 0 0)), none⟩]
def Xn50_3 : C := regL [1, 5] none [⟨some 7, .bls 62 6 0 (.agg #[.int .i64 0, .int .i64 0, .int .i64 0, .int .i64 0, .int .i64 0, .int .i64 0]) [], none⟩, ⟨some 8, .mv (.tmp 0), none⟩, ⟨some 9, .app 62 6 48 (.tmp 7) (.tmp 8), none⟩, ⟨some 5, .mv (.tmp 9), none⟩]
def Xn50_6 : C := regL [1, 5, 6] none [⟨some 6, .mv (.const (.int .i64 0)), none⟩]
def Xn50_11 : C := regL [1, 5, 6, 13] none [⟨some 10, .mv (.tmp 6), none⟩, ⟨some 11, .mv (.tmp 5), none⟩, ⟨some 12, .len (.tmp 11), none⟩, ⟨some 13, .bin 3 .lss (.tmp 10) (.tmp 12), none⟩]
def Xn50_12 : C := .cond (.tmp 13) .skip (.exit 0)
def Xn50_10 : C := .seq Xn50_11 Xn50_12
def Xn50_17 : C := regL [1, 5, 6] none [⟨some 16, .mv (.tmp 5), none⟩, ⟨some 17, .mv (.tmp 6), none⟩, ⟨some 18, .mv (.tmp 1), none⟩, ⟨some 19, .mv (.tmp 6), none⟩, ⟨some 20, .ia 1 (.tmp 18) (.tmp 19), none⟩, ⟨some 21, .ld 3 1 false (.tmp 20), none⟩, ⟨some 22, .ia 6 (.tmp 16) (.tmp 17), none⟩, ⟨some 23, .fa 2 (.tmp 22), none⟩, ⟨none, .st 3 1 (.tmp 23) (.tmp 21), none⟩]
def Xn50_16 : C := .block 1 Xn50_17
def Xn50_18 : C := regL [1, 5, 6] none [⟨some 14, .mv (.tmp 6), none⟩, ⟨some 15, .bin 3 .add (.tmp 14) (.const (.int .i64 1)), none⟩, ⟨some 6, .mv (.tmp 15), none⟩]
def Xn50_15 : C := seqL [1, 5, 6] Xn50_16 Xn50_18
def Xn50_9 : C := seqL [1, 5, 6] Xn50_10 Xn50_15
/- carried: [6] -/
def Xn50_8 : C := loopL [1, 5, 6] Xn50_9
def Xn50_7 : C := .block 0 Xn50_8
def Xn50_5 : C := .seq Xn50_6 Xn50_7
def Xn50_20 : C := regL [4] none [⟨some 24, .mv (.tmp 5), none⟩, ⟨some 4, .mv (.tmp 24), none⟩]
def Xn50_19 : C := .seq Xn50_20 .ret
def Xn50_4 : C := seqL [5] Xn50_5 Xn50_19
def Xn50_2 : C := .seq Xn50_3 Xn50_4
def Xn50_0 : C := .seq Xn50_1 Xn50_2
theorem Xt50 : Text Try.prog 50 Xn50_0 25 2 [.t 4] := ⟨⟨Try.f50, [], Try.func50, by kernel_rfl, by kernel_rfl, by kernel_rfl, by kernel_rfl⟩⟩
def Xn51_1 : C := regL [0] none [⟨some 2, .mv (.const (.slice none 0 0)), none⟩]
def Xn51_3 : C := regL [0, 3] none [⟨some 6, .mv (.tmp 0), none⟩, ⟨some 7, .call 92 [.tmp 6], none⟩, ⟨some 3, .mv (.tmp 7), none⟩]
def Xn51_5 : C := regL [0, 3, 4] none [⟨some 4, .mv (.const (.slice none 0 0)), none⟩]
def Xn51_8 : C := regL [0, 3, 4, 5] none [⟨some 5, .mv (.const (.int .i64 1)), none⟩]
def Xn51_13 : C := regL [0, 3, 4, 5, 12] none [⟨some 8, .mv (.tmp 5), none⟩, ⟨some 9, .mv (.tmp 0), none⟩, ⟨some 10, .len (.tmp 9), none⟩, ⟨some 11, .bin 3 .sub (.tmp 10) (.const (.int .i64 2)), none⟩, ⟨some 12, .bin 3 .leq (.tmp 8) (.tmp 11), none⟩]
def Xn51_14 : C := .cond (.tmp 12) .skip (.exit 0)
def Xn51_12 : C := .seq Xn51_13 Xn51_14
def Xn51_19 : C := regL [0, 3, 4, 5] (some [0, 0, 0, 0, 12, 30, 0, 0, 0, 256, 0, 1792, 3968, 8190, 16382, 32767, 65535]) [⟨some 15, .mv (.tmp 4), none⟩, ⟨some 16, .mv (.tmp 0), none⟩, ⟨some 17, .mv (.tmp 3), none⟩, ⟨some 18, .mv (.tmp 5), none⟩, ⟨some 19, .slc 77 1 (.tmp 17) none (some (.tmp 18)), none⟩, ⟨some 20, .call 93 [.tmp 16, .tmp 19], none⟩, ⟨some 21, .mv (.tmp 0), none⟩, ⟨some 22, .mv (.tmp 3), none⟩, ⟨some 23, .mv (.tmp 3), none⟩, ⟨some 24, .len (.tmp 23), none⟩, ⟨some 25, .mv (.tmp 5), none⟩, ⟨some 26, .bin 3 .sub (.tmp 24) (.tmp 25), none⟩, ⟨some 27, .slc 77 1 (.tmp 22) (some (.tmp 26)) none, none⟩, ⟨some 28, .call 93 [.tmp 21, .tmp 27], none⟩, ⟨some 29, .bls 77 1 2 (.slice none 0 0) [(0, 1, .tmp 20), (1, 1, .tmp 28)], none⟩, ⟨some 30, .app 77 1 24 (.tmp 15) (.tmp 29), none⟩, ⟨some 4, .mv (.tmp 30), none⟩]
def Xn51_18 : C := .block 1 Xn51_19
def Xn51_20 : C := regL [0, 3, 4, 5] none [⟨some 13, .mv (.tmp 5), none⟩, ⟨some 14, .bin 3 .add (.tmp 13) (.const (.int .i64 1)), none⟩, ⟨some 5, .mv (.tmp 14), none⟩]
def Xn51_17 : C := seqL [0, 3, 4, 5] Xn51_18 Xn51_20
def Xn51_11 : C := seqL [0, 3, 4, 5] Xn51_12 Xn51_17
/- carried: [4, 5] -/
def Xn51_10 : C := loopL [0, 3, 4, 5] Xn51_11
def Xn51_9 : C := .block 0 Xn51_10
def Xn51_7 : C := .seq Xn51_8 Xn51_9
def Xn51_22 : C := regL [2] none [⟨some 31, .mv (.tmp 4), none⟩, ⟨some 2, .mv (.tmp 31), none⟩]
def Xn51_21 : C := .seq Xn51_22 .ret
def Xn51_6 : C := seqL [4] Xn51_7 Xn51_21
def Xn51_4 : C := .seq Xn51_5 Xn51_6
def Xn51_2 : C := .seq Xn51_3 Xn51_4
def Xn51_0 : C := .seq Xn51_1 Xn51_2
theorem Xt51 : Text Try.prog 51 Xn51_0 32 1 [.t 2] := ⟨⟨Try.f51, [], Try.func51, by kernel_rfl, by kernel_rfl, by kernel_rfl, by kernel_rfl⟩⟩
def Xn52_1 : C := regL [0] none [⟨some 2, .mv (.const (.bool false)), none⟩]
def Xn52_3 : C := regL [2] none [⟨some 3, .mv (.tmp 0), none⟩, ⟨some 4, .call 53 [.tmp 3, .const (.int .i64 (-16777216)), .const (.int .i64 16777216)], none⟩, ⟨some 2, .mv (.tmp 4), none⟩]
def Xn52_2 : C := .seq Xn52_3 .ret
def Xn52_0 : C := .seq Xn52_1 Xn52_2
theorem Xt52 : Text Try.prog 52 Xn52_0 5 1 [.t 2] := ⟨⟨Try.f52, [], Try.func52, by kernel_rfl, by kernel_rfl, by kernel_rfl, by kernel_rfl⟩⟩
def Xn53_1 : C := regL [0, 1, 2] none [⟨some 6, .mv (.const (.bool false)), none⟩]
def Xn53_3 : C := regL [6] none [⟨some 7, .mv (.tmp 0), none⟩, ⟨some 8, .mv (.tmp 1), none⟩, ⟨some 9, .bin 2 .geq (.tmp 7) (.tmp 8), none⟩, ⟨some 10, .mv (.tmp 9), none⟩, ⟨some 11, .mv (.tmp 0), some (10, true)⟩, ⟨some 12, .mv (.tmp 2), some (10, true)⟩, ⟨some 13, .bin 2 .leq (.tmp 11) (.tmp 12), some (10, true)⟩, ⟨some 14, .pick 10 (.tmp 13) (.const (.bool false)), none⟩, ⟨some 6, .mv (.tmp 14), none⟩]
def Xn53_2 : C := .seq Xn53_3 .ret
def Xn53_0 : C := .seq Xn53_1 Xn53_2
theorem Xt53 : Text Try.prog 53 Xn53_0 15 3 [.t 6] := ⟨⟨Try.f53, [], Try.func53, by kernel_rfl, by kernel_rfl, by kernel_rfl, by kernel_rfl⟩⟩
def Xn54_1 : C := regL [0] none [⟨some 2, .mv (.const (.bool false)), none⟩]
def Xn54_3 : C := regL [2] none [⟨some 3, .mv (.tmp 0), none⟩, ⟨some 4, .call 53 [.tmp 3, .const (.int .i64 1), .const (.int .i64 16777216)], none⟩, ⟨some 2, .mv (.tmp 4), none⟩]
def Xn54_2 : C := .seq Xn54_3 .ret
def Xn54_0 : C := .seq Xn54_1 Xn54_2
theorem Xt54 : Text Try.prog 54 Xn54_0 5 1 [.t 2] := ⟨⟨Try.f54, [], Try.func54, by kernel_rfl, by kernel_rfl, by kernel_rfl, by kernel_rfl⟩⟩
def Xn55_1 : C := regL [1] none [⟨some 1, .box true 89 (.tmp 0), none⟩, ⟨some 2, .mv (.const (.int .i64 0)), none⟩]
def Xn55_3 : C := regL [2] none [⟨some 3, .fa 0 (.tmp 1), none⟩, ⟨some 4, .ld 2 1 false (.tmp 3), none⟩, ⟨some 5, .un .neg (.tmp 4), none⟩, ⟨some 6, .fa 1 (.tmp 1), none⟩, ⟨some 7, .ld 2 1 false (.tmp 6), none⟩, ⟨some 8, .fa 2 (.tmp 1), none⟩, ⟨some 9, .ld 2 1 false (.tmp 8), none⟩, ⟨some 10, .bld (.agg #[.int .i64 0, .int .i64 0, .int .i64 0]) [(0, 1, .tmp 5), (1, 1, .tmp 7), (2, 1, .tmp 9)], none⟩, ⟨some 11, .call 94 [.tmp 10], none⟩, ⟨some 12, .un .neg (.tmp 11), none⟩, ⟨some 2, .mv (.tmp 12), none⟩]
def Xn55_2 : C := .seq Xn55_3 .ret
def Xn55_0 : C := .seq Xn55_1 Xn55_2
theorem Xt55 : Text Try.prog 55 Xn55_0 13 1 [.t 2] := ⟨⟨Try.f55, [1], Try.func55, by kernel_rfl, by kernel_rfl, by kernel_rfl, by kernel_rfl⟩⟩
def Xn56_1 : C := regL [0] none [⟨some 2, .mv (.const (.pointer none)), none⟩, ⟨some 3, .mv (.const (.int .i64 0)), none⟩]
def Xn56_4 : C := regL [0, 17] none [⟨some 10, .mv (.tmp 0), none⟩, ⟨some 11, .len (.tmp 10), none⟩, ⟨some 12, .bin 3 .lss (.tmp 11) (.const (.int .i64 3)), none⟩, ⟨some 13, .mv (.tmp 12), none⟩, ⟨some 14, .mv (.tmp 0), some (13, false)⟩, ⟨some 15, .len (.tmp 14), some (13, false)⟩, ⟨some 16, .bin 3 .gtr (.tmp 15) (.const (.int .i64 48)), some (13, false)⟩, ⟨some 17, .pick 13 (.const (.bool true)) (.tmp 16), none⟩]
def Xn56_7 : C := regL [2, 3] none [⟨some 2, .mv (.const (.pointer none)), none⟩, ⟨some 3, .mv (.const (.int .i64 6)), none⟩]
def Xn56_6 : C := .seq Xn56_7 .ret
def Xn56_5 : C := .cond (.tmp 17) Xn56_6 .skip
def Xn56_3 : C := .seq Xn56_4 Xn56_5
def Xn56_11 : C := regL [0, 4] none [⟨some 18, .mv (.tmp 0), none⟩, ⟨some 19, .bld (.agg #[.slice none 0 0, .int .i64 0, .int .i64 0, .int .i64 0, .int .i64 0, .int .i64 0, .int .i64 0, .int .i64 0, .int .i64 0, .int .i64 0, .int .i64 0]) [(0, 1, .tmp 18)], none⟩, ⟨some 20, .box false 96 (.tmp 19), none⟩, ⟨some 4, .mv (.tmp 20), none⟩]
def Xn56_14 : C := regL [4, 21, 22, 23] none [⟨some 21, .mv (.tmp 0), none⟩, ⟨some 22, .len (.tmp 21), none⟩, ⟨some 23, .mv (.const (.int .i64 0)), none⟩]
def Xn56_18 : C := regL [4, 21, 22, 23, 24] none [⟨some 24, .bin 3 .lss (.tmp 23) (.tmp 22), none⟩]
def Xn56_20 : C := .cond (.tmp 24) .skip (.exit 0)
def Xn56_26 : C := regL [4, 6, 21, 22, 23] none [⟨some 25, .ia 6 (.tmp 21) (.tmp 23), none⟩, ⟨some 26, .ld 62 6 true (.tmp 25), none⟩, ⟨some 6, .alc 62 (.agg #[.int .i64 0, .int .i64 0, .int .i64 0, .int .i64 0, .int .i64 0, .int .i64 0]), none⟩, ⟨none, .st 62 6 (.tmp 6) (.tmp 26), none⟩]
def Xn56_28 : C := regL [4, 6, 7, 21, 22, 23] none [⟨some 27, .fa 0 (.tmp 6), none⟩, ⟨some 28, .ld 2 1 false (.tmp 27), none⟩, ⟨some 29, .call 53 [.tmp 28, .const (.int .i64 (-131072)), .const (.int .i64 131072)], none⟩, ⟨some 30, .mv (.tmp 29), none⟩, ⟨some 31, .fa 1 (.tmp 6), some (30, true)⟩, ⟨some 32, .ld 2 1 false (.tmp 31), some (30, true)⟩, ⟨some 33, .call 53 [.tmp 32, .const (.int .i64 (-131072)), .const (.int .i64 131072)], some (30, true)⟩, ⟨some 34, .pick 30 (.tmp 33) (.const (.bool false)), none⟩, ⟨some 35, .mv (.tmp 34), none⟩, ⟨some 36, .fa 2 (.tmp 6), some (35, true)⟩, ⟨some 37, .ld 3 1 false (.tmp 36), some (35, true)⟩, ⟨some 38, .bin 3 .geq (.tmp 37) (.const (.int .i64 0)), some (35, true)⟩, ⟨some 39, .pick 35 (.tmp 38) (.const (.bool false)), none⟩, ⟨some 40, .mv (.tmp 39), none⟩, ⟨some 41, .fa 2 (.tmp 6), some (40, true)⟩, ⟨some 42, .ld 3 1 false (.tmp 41), some (40, true)⟩, ⟨some 43, .bin 3 .leq (.tmp 42) (.const (.int .i64 2)), some (40, true)⟩, ⟨some 44, .pick 40 (.tmp 43) (.const (.bool false)), none⟩, ⟨some 7, .mv (.tmp 44), none⟩]
def Xn56_31 : C := regL [4, 6, 21, 22, 23, 69] none [⟨some 45, .mv (.tmp 7), none⟩, ⟨some 46, .un .not (.tmp 45), none⟩, ⟨some 47, .mv (.tmp 46), none⟩, ⟨some 48, .fa 3 (.tmp 6), some (47, false)⟩, ⟨some 49, .ld 2 1 false (.tmp 48), some (47, false)⟩, ⟨some 50, .call 53 [.tmp 49, .const (.int .i64 1), .const (.int .i64 1048576)], some (47, false)⟩, ⟨some 51, .un .not (.tmp 50), some (47, false)⟩, ⟨some 52, .pick 47 (.const (.bool true)) (.tmp 51), none⟩, ⟨some 53, .mv (.tmp 52), none⟩, ⟨some 54, .fa 4 (.tmp 6), some (53, false)⟩, ⟨some 55, .ld 2 1 false (.tmp 54), some (53, false)⟩, ⟨some 56, .bin 2 .lss (.tmp 55) (.const (.int .i64 0)), some (53, false)⟩, ⟨some 57, .pick 53 (.const (.bool true)) (.tmp 56), none⟩, ⟨some 58, .mv (.tmp 57), none⟩, ⟨some 59, .fa 4 (.tmp 6), some (58, false)⟩, ⟨some 60, .ld 2 1 false (.tmp 59), some (58, false)⟩, ⟨some 61, .fa 5 (.tmp 6), some (58, false)⟩, ⟨some 62, .ld 2 1 false (.tmp 61), some (58, false)⟩, ⟨some 63, .bin 2 .gtr (.tmp 60) (.tmp 62), some (58, false)⟩, ⟨some 64, .pick 58 (.const (.bool true)) (.tmp 63), none⟩, ⟨some 65, .mv (.tmp 64), none⟩, ⟨some 66, .fa 5 (.tmp 6), some (65, false)⟩, ⟨some 67, .ld 2 1 false (.tmp 66), some (65, false)⟩, ⟨some 68, .bin 2 .gtr (.tmp 67) (.const (.int .i64 4096)), some (65, false)⟩, ⟨some 69, .pick 65 (.const (.bool true)) (.tmp 68), none⟩]
def Xn56_34 : C := regL [2, 3] none [⟨some 2, .mv (.const (.pointer none)), none⟩, ⟨some 3, .mv (.const (.int .i64 2)), none⟩]
def Xn56_33 : C := .seq Xn56_34 .ret
def Xn56_32 : C := .cond (.tmp 69) Xn56_33 .skip
def Xn56_30 : C := .seq Xn56_31 Xn56_32
def Xn56_38 : C := regL [4, 6, 21, 22, 23, 74, 75] none [⟨some 70, .fa 0 (.tmp 6), none⟩, ⟨some 71, .ld 2 1 false (.tmp 70), none⟩, ⟨some 72, .fa 1 (.tmp 6), none⟩, ⟨some 73, .ld 2 1 false (.tmp 72), none⟩, ⟨some 74, .bld (.agg #[.int .i64 0, .int .i64 0, .int .i64 0]) [(0, 1, .const (.int .i64 1)), (1, 1, .tmp 71), (2, 1, .tmp 73)], none⟩, ⟨some 75, .mv (.const (.int .i64 0)), none⟩]
def Xn56_42 : C := regL [4, 6, 21, 22, 23, 74, 75, 76] none [⟨some 76, .bin 3 .lss (.tmp 75) (.const (.int .i64 3)), none⟩]
def Xn56_44 : C := .cond (.tmp 76) .skip (.exit 2)
def Xn56_50 : C := regL [4, 6, 8, 9, 21, 22, 23, 74, 75] none [⟨some 77, .mv (.tmp 75), none⟩, ⟨some 78, .idx 3 1 false (.tmp 74) (.tmp 75), none⟩, ⟨some 8, .mv (.tmp 77), none⟩, ⟨some 9, .mv (.tmp 78), none⟩]
def Xn56_51 : C := regL [4, 6, 21, 22, 23, 74, 75] (some [0, 0, 2, 0, 1, 17, 55, 127, 255, 0, 1023, 1, 2049, 6151, 16383, 32767]) [⟨some 79, .mv (.tmp 4), none⟩, ⟨some 80, .fa 2 (.tmp 6), none⟩, ⟨some 81, .ld 3 1 false (.tmp 80), none⟩, ⟨some 82, .mv (.tmp 8), none⟩, ⟨some 83, .nilc (.tmp 79), none⟩, ⟨some 84, .fa 1 (.tmp 83), none⟩, ⟨some 85, .iaa 3 3 (.tmp 84) (.tmp 81), none⟩, ⟨some 86, .iaa 3 1 (.tmp 85) (.tmp 82), none⟩, ⟨some 87, .ld 2 1 false (.tmp 86), none⟩, ⟨some 88, .mv (.tmp 9), none⟩, ⟨some 89, .bin 2 .add (.tmp 87) (.tmp 88), none⟩, ⟨some 90, .nilc (.tmp 79), none⟩, ⟨some 91, .fa 1 (.tmp 90), none⟩, ⟨some 92, .iaa 3 3 (.tmp 91) (.tmp 81), none⟩, ⟨some 93, .iaa 3 1 (.tmp 92) (.tmp 82), none⟩, ⟨none, .st 2 1 (.tmp 93) (.tmp 89), none⟩]
def Xn56_49 : C := .seq Xn56_50 Xn56_51
def Xn56_48 : C := .block 3 Xn56_49
def Xn56_52 : C := regL [4, 6, 21, 22, 23, 74, 75] none [⟨some 94, .bin 3 .add (.tmp 75) (.const (.int .i64 1)), none⟩, ⟨some 75, .mv (.tmp 94), none⟩]
def Xn56_47 : C := seqL [4, 6, 21, 22, 23, 74, 75] Xn56_48 Xn56_52
def Xn56_43 : C := seqL [4, 6, 21, 22, 23, 74, 75] Xn56_44 Xn56_47
def Xn56_41 : C := .seq Xn56_42 Xn56_43
/- carried: [75] -/
def Xn56_40 : C := loopL [4, 6, 21, 22, 23, 74, 75] Xn56_41
def Xn56_39 : C := .block 2 Xn56_40
def Xn56_37 : C := .seq Xn56_38 Xn56_39
def Xn56_29 : C := seqL [4, 6, 21, 22, 23] Xn56_30 Xn56_37
def Xn56_27 : C := .seq Xn56_28 Xn56_29
def Xn56_25 : C := .seq Xn56_26 Xn56_27
def Xn56_24 : C := .block 1 Xn56_25
def Xn56_53 : C := regL [4, 21, 22, 23] none [⟨some 95, .bin 3 .add (.tmp 23) (.const (.int .i64 1)), none⟩, ⟨some 23, .mv (.tmp 95), none⟩]
def Xn56_23 : C := seqL [4, 21, 22, 23] Xn56_24 Xn56_53
def Xn56_19 : C := seqL [4, 21, 22, 23] Xn56_20 Xn56_23
def Xn56_17 : C := .seq Xn56_18 Xn56_19
/- carried: [23] -/
def Xn56_16 : C := loopL [4, 21, 22, 23] Xn56_17
def Xn56_15 : C := .block 0 Xn56_16
def Xn56_13 : C := .seq Xn56_14 Xn56_15
def Xn56_56 : C := regL [4] none [⟨some 96, .mv (.tmp 4), none⟩, ⟨some 97, .mv (.tmp 4), none⟩, ⟨some 98, .nilc (.tmp 97), none⟩, ⟨some 99, .fa 1 (.tmp 98), none⟩, ⟨some 100, .ld 94 9 true (.tmp 99), none⟩, ⟨some 101, .call 95 [.tmp 100], none⟩, ⟨some 102, .nilc (.tmp 96), none⟩, ⟨some 103, .fa 10 (.tmp 102), none⟩, ⟨none, .st 2 1 (.tmp 103) (.tmp 101), none⟩]
def Xn56_58 : C := regL [4, 108] none [⟨some 104, .mv (.tmp 4), none⟩, ⟨some 105, .nilc (.tmp 104), none⟩, ⟨some 106, .fa 10 (.tmp 105), none⟩, ⟨some 107, .ld 2 1 false (.tmp 106), none⟩, ⟨some 108, .bin 2 .eql (.tmp 107) (.const (.int .i64 0)), none⟩]
def Xn56_61 : C := regL [2, 3] none [⟨some 2, .mv (.const (.pointer none)), none⟩, ⟨some 3, .mv (.const (.int .i64 9)), none⟩]
def Xn56_60 : C := .seq Xn56_61 .ret
def Xn56_59 : C := .cond (.tmp 108) Xn56_60 .skip
def Xn56_57 : C := .seq Xn56_58 Xn56_59
def Xn56_55 : C := .seq Xn56_56 Xn56_57
def Xn56_65 : C := regL [2, 3] none [⟨some 109, .mv (.tmp 4), none⟩, ⟨some 2, .mv (.tmp 109), none⟩, ⟨some 3, .mv (.const (.int .i64 0)), none⟩]
def Xn56_64 : C := .seq Xn56_65 .ret
def Xn56_54 : C := seqL [4] Xn56_55 Xn56_64
def Xn56_12 : C := seqL [4] Xn56_13 Xn56_54
def Xn56_10 : C := .seq Xn56_11 Xn56_12
def Xn56_2 : C := seqL [0] Xn56_3 Xn56_10
def Xn56_0 : C := .seq Xn56_1 Xn56_2
theorem Xt56 : Text Try.prog 56 Xn56_0 110 1 [.t 2, .t 3] := ⟨⟨Try.f56, [], Try.func56, by kernel_rfl, by kernel_rfl, by kernel_rfl, by kernel_rfl⟩⟩
def Xn57_1 : C := regL [1] none [⟨some 1, .box true 29 (.tmp 0), none⟩, ⟨some 2, .mv (.const (.bool false)), none⟩]
def Xn57_3 : C := regL [2] none [⟨some 3, .fa 0 (.tmp 1), none⟩, ⟨some 4, .ld 2 1 false (.tmp 3), none⟩, ⟨some 5, .call 53 [.tmp 4, .const (.int .i64 (-262144)), .const (.int .i64 262144)], none⟩, ⟨some 6, .mv (.tmp 5), none⟩, ⟨some 7, .fa 1 (.tmp 1), some (6, true)⟩, ⟨some 8, .ld 2 1 false (.tmp 7), some (6, true)⟩, ⟨some 9, .call 53 [.tmp 8, .const (.int .i64 (-262144)), .const (.int .i64 262144)], some (6, true)⟩, ⟨some 10, .pick 6 (.tmp 9) (.const (.bool false)), none⟩, ⟨some 2, .mv (.tmp 10), none⟩]
def Xn57_2 : C := .seq Xn57_3 .ret
def Xn57_0 : C := .seq Xn57_1 Xn57_2
theorem Xt57 : Text Try.prog 57 Xn57_0 11 1 [.t 2] := ⟨⟨Try.f57, [1], Try.func57, by kernel_rfl, by kernel_rfl, by kernel_rfl, by kernel_rfl⟩⟩
def Xn58_1 : C := regL [0, 3] none [⟨some 3, .box true 29 (.tmp 1), none⟩, ⟨some 4, .mv (.const (.int .i64 0)), none⟩]
def Xn58_3 : C := regL [5] none [⟨some 8, .mv (.tmp 0), none⟩, ⟨some 9, .ld 29 2 true (.tmp 3), none⟩, ⟨some 10, .call 60 [.tmp 8, .tmp 9], none⟩, ⟨some 7, .mv (.tmp 10), none⟩, ⟨some 11, .ext 0 (.tmp 7), none⟩, ⟨some 12, .ext 1 (.tmp 7), none⟩, ⟨some 5, .alc 30 (.agg #[.int .i64 0, .int .i64 0, .int .i64 0]), none⟩, ⟨none, .st 30 3 (.tmp 5) (.tmp 11), none⟩, ⟨some 6, .mv (.tmp 12), none⟩]
def Xn58_5 : C := regL [4] none [⟨some 13, .sla 30 3 1 (.tmp 5), none⟩, ⟨some 14, .call 96 [.tmp 13, .func 97], none⟩, ⟨some 4, .mv (.tmp 14), none⟩]
def Xn58_4 : C := .seq Xn58_5 .ret
def Xn58_2 : C := .seq Xn58_3 Xn58_4
def Xn58_0 : C := .seq Xn58_1 Xn58_2
theorem Xt58 : Text Try.prog 58 Xn58_0 15 2 [.t 4] := ⟨⟨Try.f58, [3], Try.func58, by kernel_rfl, by kernel_rfl, by kernel_rfl, by kernel_rfl⟩⟩
def Xn59_1 : C := regL [0, 1, 5, 6] none [⟨some 5, .box true 29 (.tmp 2), none⟩, ⟨some 6, .alc 30 (.agg #[.int .i64 0, .int .i64 0, .int .i64 0]), none⟩, ⟨some 7, .mv (.const (.int .i64 0)), none⟩]
def Xn59_4 : C := regL [0, 1, 5, 6, 21] none [⟨some 14, .mv (.tmp 1), none⟩, ⟨some 15, .call 54 [.tmp 14], none⟩, ⟨some 16, .un .not (.tmp 15), none⟩, ⟨some 17, .mv (.tmp 16), none⟩, ⟨some 18, .ld 29 2 true (.tmp 5), some (17, false)⟩, ⟨some 19, .call 57 [.tmp 18], some (17, false)⟩, ⟨some 20, .un .not (.tmp 19), some (17, false)⟩, ⟨some 21, .pick 17 (.const (.bool true)) (.tmp 20), none⟩]
def Xn59_7 : C := regL [6, 7] none [⟨some 22, .ld 30 3 true (.tmp 6), none⟩, ⟨none, .st 30 3 (.tmp 6) (.tmp 22), none⟩, ⟨some 7, .mv (.const (.int .i64 3)), none⟩]
def Xn59_6 : C := .seq Xn59_7 .ret
def Xn59_5 : C := .cond (.tmp 21) Xn59_6 .skip
def Xn59_3 : C := .seq Xn59_4 Xn59_5
def Xn59_12 : C := regL [0, 1, 5, 6, 26] none [⟨some 23, .mv (.tmp 0), none⟩, ⟨some 24, .ld 29 2 true (.tmp 5), none⟩, ⟨some 25, .call 58 [.tmp 23, .tmp 24], none⟩, ⟨some 26, .bin 3 .geq (.tmp 25) (.const (.int .i64 0)), none⟩]
def Xn59_15 : C := regL [6, 7] none [⟨some 27, .ld 30 3 true (.tmp 6), none⟩, ⟨none, .st 30 3 (.tmp 6) (.tmp 27), none⟩, ⟨some 7, .mv (.const (.int .i64 19)), none⟩]
def Xn59_14 : C := .seq Xn59_15 .ret
def Xn59_13 : C := .cond (.tmp 26) Xn59_14 .skip
def Xn59_11 : C := .seq Xn59_12 Xn59_13
def Xn59_19 : C := regL [0, 1, 6, 8, 9] none [⟨some 29, .mv (.tmp 0), none⟩, ⟨some 30, .ld 29 2 true (.tmp 5), none⟩, ⟨some 31, .call 60 [.tmp 29, .tmp 30], none⟩, ⟨some 28, .mv (.tmp 31), none⟩, ⟨some 32, .ext 0 (.tmp 28), none⟩, ⟨some 33, .ext 1 (.tmp 28), none⟩, ⟨some 8, .alc 30 (.agg #[.int .i64 0, .int .i64 0, .int .i64 0]), none⟩, ⟨none, .st 30 3 (.tmp 8) (.tmp 32), none⟩, ⟨some 9, .mv (.tmp 33), none⟩]
def Xn59_22 : C := regL [0, 1, 6, 8, 9, 34] none [⟨some 34, .mv (.const (.int .i64 0)), none⟩]
def Xn59_26 : C := regL [0, 1, 6, 8, 9, 34, 35] none [⟨some 35, .bin 3 .lss (.tmp 34) (.const (.int .i64 3)), none⟩]
def Xn59_28 : C := .cond (.tmp 35) .skip (.exit 0)
def Xn59_34 : C := regL [0, 1, 6, 8, 9, 10, 34] none [⟨some 36, .mv (.tmp 34), none⟩, ⟨some 10, .mv (.tmp 36), none⟩]
def Xn59_36 : C := regL [0, 1, 6, 8, 9, 10, 11, 34] none [⟨some 37, .mv (.tmp 1), none⟩, ⟨some 38, .mv (.tmp 10), none⟩, ⟨some 39, .iaa 3 1 (.tmp 8) (.tmp 38), none⟩, ⟨some 40, .ld 2 1 false (.tmp 39), none⟩, ⟨some 41, .mv (.tmp 9), none⟩, ⟨some 42, .bld (.agg #[.int .i64 0, .int .i64 0, .int .i64 0]) [(0, 1, .tmp 37), (1, 1, .tmp 40), (2, 1, .tmp 41)], none⟩, ⟨some 43, .mkf 55 [.tmp 42] [], none⟩, ⟨some 11, .mv (.tmp 43), none⟩]
def Xn59_37 : C := regL [0, 1, 6, 8, 9, 34] none [⟨some 44, .mv (.tmp 10), none⟩, ⟨some 45, .mv (.tmp 11), none⟩, ⟨some 46, .callv (.tmp 45) [], none⟩, ⟨some 47, .iaa 3 1 (.tmp 6) (.tmp 44), none⟩, ⟨none, .st 2 1 (.tmp 47) (.tmp 46), none⟩]
def Xn59_35 : C := .seq Xn59_36 Xn59_37
def Xn59_33 : C := .seq Xn59_34 Xn59_35
def Xn59_32 : C := .block 1 Xn59_33
def Xn59_38 : C := regL [0, 1, 6, 8, 9, 34] none [⟨some 48, .bin 3 .add (.tmp 34) (.const (.int .i64 1)), none⟩, ⟨some 34, .mv (.tmp 48), none⟩]
def Xn59_31 : C := seqL [0, 1, 6, 8, 9, 34] Xn59_32 Xn59_38
def Xn59_27 : C := seqL [0, 1, 6, 8, 9, 34] Xn59_28 Xn59_31
def Xn59_25 : C := .seq Xn59_26 Xn59_27
/- carried: [34] -/
def Xn59_24 : C := loopL [0, 1, 6, 8, 9, 34] Xn59_25
def Xn59_23 : C := .block 0 Xn59_24
def Xn59_21 : C := .seq Xn59_22 Xn59_23
def Xn59_41 : C := regL [6, 52, 53, 54] none [⟨some 49, .mv (.tmp 0), none⟩, ⟨some 50, .nilc (.tmp 49), none⟩, ⟨some 51, .fa 0 (.tmp 50), none⟩, ⟨some 52, .ld 27 1 false (.tmp 51), none⟩, ⟨some 53, .len (.tmp 52), none⟩, ⟨some 54, .mv (.const (.int .i64 0)), none⟩]
def Xn59_45 : C := regL [6, 52, 53, 54, 55] none [⟨some 55, .bin 3 .lss (.tmp 54) (.tmp 53), none⟩]
def Xn59_47 : C := .cond (.tmp 55) .skip (.exit 2)
def Xn59_53 : C := regL [6, 13, 52, 53, 54] none [⟨some 56, .ia 6 (.tmp 52) (.tmp 54), none⟩, ⟨some 57, .ld 62 6 true (.tmp 56), none⟩, ⟨some 13, .alc 62 (.agg #[.int .i64 0, .int .i64 0, .int .i64 0, .int .i64 0, .int .i64 0, .int .i64 0]), none⟩, ⟨none, .st 62 6 (.tmp 13) (.tmp 57), none⟩]
def Xn59_55 : C := regL [6, 52, 53, 54, 64] (some [0, 1, 3, 7, 0, 16, 63]) [⟨some 58, .fa 2 (.tmp 13), none⟩, ⟨some 59, .ld 3 1 false (.tmp 58), none⟩, ⟨some 60, .iaa 3 1 (.tmp 6) (.tmp 59), none⟩, ⟨some 61, .ld 2 1 false (.tmp 60), none⟩, ⟨some 62, .fa 3 (.tmp 13), none⟩, ⟨some 63, .ld 2 1 false (.tmp 62), none⟩, ⟨some 64, .bin 2 .gtr (.tmp 61) (.tmp 63), none⟩]
def Xn59_58 : C := regL [6, 7] none [⟨some 65, .bld (.agg #[.int .i64 0, .int .i64 0, .int .i64 0]) [], none⟩, ⟨none, .st 30 3 (.tmp 6) (.tmp 65), none⟩, ⟨some 7, .mv (.const (.int .i64 14)), none⟩]
def Xn59_57 : C := .seq Xn59_58 .ret
def Xn59_56 : C := .cond (.tmp 64) Xn59_57 .skip
def Xn59_54 : C := .seq Xn59_55 Xn59_56
def Xn59_52 : C := .seq Xn59_53 Xn59_54
def Xn59_51 : C := .block 3 Xn59_52
def Xn59_61 : C := regL [6, 52, 53, 54] none [⟨some 66, .bin 3 .add (.tmp 54) (.const (.int .i64 1)), none⟩, ⟨some 54, .mv (.tmp 66), none⟩]
def Xn59_50 : C := seqL [6, 52, 53, 54] Xn59_51 Xn59_61
def Xn59_46 : C := seqL [6, 52, 53, 54] Xn59_47 Xn59_50
def Xn59_44 : C := .seq Xn59_45 Xn59_46
/- carried: [54] -/
def Xn59_43 : C := loopL [6, 52, 53, 54] Xn59_44
def Xn59_42 : C := .block 2 Xn59_43
def Xn59_40 : C := .seq Xn59_41 Xn59_42
def Xn59_63 : C := regL [6, 7] none [⟨some 67, .ld 30 3 true (.tmp 6), none⟩, ⟨none, .st 30 3 (.tmp 6) (.tmp 67), none⟩, ⟨some 7, .mv (.const (.int .i64 0)), none⟩]
def Xn59_62 : C := .seq Xn59_63 .ret
def Xn59_39 : C := seqL [6] Xn59_40 Xn59_62
def Xn59_20 : C := seqL [0, 6] Xn59_21 Xn59_39
def Xn59_18 : C := .seq Xn59_19 Xn59_20
def Xn59_10 : C := seqL [0, 1, 5, 6] Xn59_11 Xn59_18
def Xn59_2 : C := seqL [0, 1, 5, 6] Xn59_3 Xn59_10
def Xn59_0 : C := .seq Xn59_1 Xn59_2
theorem Xt59 : Text Try.prog 59 Xn59_0 68 3 [.c 6 3 true, .t 7] := ⟨⟨Try.f59, [5], Try.func59, by kernel_rfl, by kernel_rfl, by kernel_rfl, by kernel_rfl⟩⟩
def Xn60_1 : C := regL [0, 3, 4] none [⟨some 3, .box true 29 (.tmp 1), none⟩, ⟨some 4, .alc 30 (.agg #[.int .i64 0, .int .i64 0, .int .i64 0]), none⟩, ⟨some 5, .mv (.const (.int .i64 0)), none⟩]
def Xn60_3 : C := regL [0, 3, 4, 6] none [⟨some 6, .mv (.const (.int .i64 1)), none⟩]
def Xn60_6 : C := regL [0, 3, 4, 6, 13] none [⟨some 9, .mv (.tmp 0), none⟩, ⟨some 10, .nilc (.tmp 9), none⟩, ⟨some 11, .fa 10 (.tmp 10), none⟩, ⟨some 12, .ld 2 1 false (.tmp 11), none⟩, ⟨some 13, .bin 2 .lss (.tmp 12) (.const (.int .i64 0)), none⟩]
def Xn60_8 : C := regL [0, 3, 4, 6] none [⟨some 6, .mv (.const (.int .i64 (-1))), none⟩]
def Xn60_7 : C := .cond (.tmp 13) Xn60_8 .skip
def Xn60_5 : C := .seq Xn60_6 Xn60_7
def Xn60_12 : C := regL [0, 3, 4, 6, 14] none [⟨some 14, .mv (.const (.int .i64 0)), none⟩]
def Xn60_16 : C := regL [0, 3, 4, 6, 14, 15] none [⟨some 15, .bin 3 .lss (.tmp 14) (.const (.int .i64 3)), none⟩]
def Xn60_18 : C := .cond (.tmp 15) .skip (.exit 0)
def Xn60_24 : C := regL [0, 3, 4, 6, 7, 14] none [⟨some 16, .mv (.tmp 14), none⟩, ⟨some 7, .mv (.tmp 16), none⟩]
def Xn60_26 : C := regL [0, 3, 4, 6, 7, 8, 14] none [⟨some 17, .mv (.tmp 0), none⟩, ⟨some 18, .nilc (.tmp 17), none⟩, ⟨some 19, .fa 1 (.tmp 18), none⟩, ⟨some 20, .ld 94 9 true (.tmp 19), none⟩, ⟨some 8, .alc 94 (.agg #[.int .i64 0, .int .i64 0, .int .i64 0, .int .i64 0, .int .i64 0, .int .i64 0, .int .i64 0, .int .i64 0, .int .i64 0]), none⟩, ⟨none, .st 94 9 (.tmp 8) (.tmp 20), none⟩]
def Xn60_28 : C := regL [0, 3, 4, 6, 7, 8, 14] none [⟨some 21, .mv (.tmp 7), none⟩, ⟨some 22, .fa 0 (.tmp 3), none⟩, ⟨some 23, .ld 2 1 false (.tmp 22), none⟩, ⟨some 24, .fa 1 (.tmp 3), none⟩, ⟨some 25, .ld 2 1 false (.tmp 24), none⟩, ⟨some 26, .bld (.agg #[.int .i64 0, .int .i64 0, .int .i64 0]) [(0, 1, .const (.int .i64 1)), (1, 1, .tmp 23), (2, 1, .tmp 25)], none⟩, ⟨some 27, .iaa 3 3 (.tmp 8) (.tmp 21), none⟩, ⟨none, .st 30 3 (.tmp 27) (.tmp 26), none⟩]
def Xn60_29 : C := regL [0, 3, 4, 6, 14] none [⟨some 28, .mv (.tmp 7), none⟩, ⟨some 29, .mv (.tmp 6), none⟩, ⟨some 30, .ld 94 9 true (.tmp 8), none⟩, ⟨some 31, .call 95 [.tmp 30], none⟩, ⟨some 32, .bin 2 .mul (.tmp 29) (.tmp 31), none⟩, ⟨some 33, .iaa 3 1 (.tmp 4) (.tmp 28), none⟩, ⟨none, .st 2 1 (.tmp 33) (.tmp 32), none⟩]
def Xn60_27 : C := .seq Xn60_28 Xn60_29
def Xn60_25 : C := .seq Xn60_26 Xn60_27
def Xn60_23 : C := .seq Xn60_24 Xn60_25
def Xn60_22 : C := .block 1 Xn60_23
def Xn60_30 : C := regL [0, 3, 4, 6, 14] none [⟨some 34, .bin 3 .add (.tmp 14) (.const (.int .i64 1)), none⟩, ⟨some 14, .mv (.tmp 34), none⟩]
def Xn60_21 : C := seqL [0, 3, 4, 6, 14] Xn60_22 Xn60_30
def Xn60_17 : C := seqL [0, 3, 4, 6, 14] Xn60_18 Xn60_21
def Xn60_15 : C := .seq Xn60_16 Xn60_17
/- carried: [14] -/
def Xn60_14 : C := loopL [0, 3, 4, 6, 14] Xn60_15
def Xn60_13 : C := .block 0 Xn60_14
def Xn60_11 : C := .seq Xn60_12 Xn60_13
def Xn60_32 : C := regL [4, 5] (some [0, 0, 0, 4, 12, 28, 62, 1, 255]) [⟨some 35, .ld 30 3 true (.tmp 4), none⟩, ⟨some 36, .mv (.tmp 6), none⟩, ⟨some 37, .mv (.tmp 0), none⟩, ⟨some 38, .nilc (.tmp 37), none⟩, ⟨some 39, .fa 10 (.tmp 38), none⟩, ⟨some 40, .ld 2 1 false (.tmp 39), none⟩, ⟨some 41, .bin 2 .mul (.tmp 36) (.tmp 40), none⟩, ⟨none, .st 30 3 (.tmp 4) (.tmp 35), none⟩, ⟨some 5, .mv (.tmp 41), none⟩]
def Xn60_31 : C := .seq Xn60_32 .ret
def Xn60_10 : C := seqL [0, 4, 6] Xn60_11 Xn60_31
def Xn60_4 : C := seqL [0, 3, 4, 6] Xn60_5 Xn60_10
def Xn60_2 : C := .seq Xn60_3 Xn60_4
def Xn60_0 : C := .seq Xn60_1 Xn60_2
theorem Xt60 : Text Try.prog 60 Xn60_0 42 2 [.c 4 3 true, .t 5] := ⟨⟨Try.f60, [3], Try.func60, by kernel_rfl, by kernel_rfl, by kernel_rfl, by kernel_rfl⟩⟩
/- carried: [4] -/
/- carried: [9] -/
/- carried: [9] -/
/- carried: [7] -/
/- carried: [3] -/
/- carried: [34] -/
/- carried: [44] -/
/- carried: [54] -/
/- carried: [6, 19] -/
/- carried: [7] -/
/- carried: [8] -/
/- carried: [7] -/
/- carried: [13, 14] -/
/- carried: [11, 12] -/
/- carried: [3] -/
/- carried: [4] -/
/- carried: [19] -/
/- carried: [7] -/
def Xn90_1 : C := regL [0] none [⟨some 2, .mv (.const (.slice none 0 0)), none⟩]
def Xn90_4 : C := regL [0, 4] none [⟨some 3, .mv (.tmp 0), none⟩, ⟨some 4, .isn false (.tmp 3), none⟩]
def Xn90_7 : C := regL [2] none [⟨some 2, .mv (.const (.slice none 0 0)), none⟩]
def Xn90_6 : C := .seq Xn90_7 .ret
def Xn90_5 : C := .cond (.tmp 4) Xn90_6 .skip
def Xn90_3 : C := .seq Xn90_4 Xn90_5
def Xn90_11 : C := regL [2] none [⟨some 5, .bls 62 6 0 (.agg #[.int .i64 0, .int .i64 0, .int .i64 0, .int .i64 0, .int .i64 0, .int .i64 0]) [], none⟩, ⟨some 6, .mv (.tmp 0), none⟩, ⟨some 7, .app 62 6 48 (.tmp 5) (.tmp 6), none⟩, ⟨some 2, .mv (.tmp 7), none⟩]
def Xn90_10 : C := .seq Xn90_11 .ret
def Xn90_2 : C := seqL [0] Xn90_3 Xn90_10
def Xn90_0 : C := .seq Xn90_1 Xn90_2
theorem Xt90 : Text Try.prog 90 Xn90_0 8 1 [.t 2] := ⟨⟨Try.f90, [], Try.func90, by kernel_rfl, by kernel_rfl, by kernel_rfl, by kernel_rfl⟩⟩
def Xn91_1 : C := regL [1] none [⟨some 1, .box true 27 (.tmp 0), none⟩, ⟨some 2, .mv (.const (.nilFunc)), none⟩]
def Xn91_3 : C := regL [2] none [⟨some 3, .mkf 117 [] [.tmp 1], none⟩, ⟨some 2, .mv (.tmp 3), none⟩]
def Xn91_2 : C := .seq Xn91_3 .ret
def Xn91_0 : C := .seq Xn91_1 Xn91_2
theorem Xt91 : Text Try.prog 91 Xn91_0 4 1 [.t 2] := ⟨⟨Try.f91, [1], Try.func91, by kernel_rfl, by kernel_rfl, by kernel_rfl, by kernel_rfl⟩⟩
def Xn92_1 : C := regL [0] none [⟨some 2, .mv (.const (.slice none 0 0)), none⟩]
def Xn92_3 : C := regL [0, 3] none [⟨some 3, .mv (.const (.slice none 0 0)), none⟩]
def Xn92_6 : C := regL [0, 3, 4] none [⟨some 4, .mv (.const (.int .i64 0)), none⟩]
def Xn92_11 : C := regL [0, 3, 4, 9] none [⟨some 6, .mv (.tmp 4), none⟩, ⟨some 7, .mv (.tmp 0), none⟩, ⟨some 8, .len (.tmp 7), none⟩, ⟨some 9, .bin 3 .lss (.tmp 6) (.tmp 8), none⟩]
def Xn92_12 : C := .cond (.tmp 9) .skip (.exit 0)
def Xn92_10 : C := .seq Xn92_11 Xn92_12
def Xn92_18 : C := regL [0, 3, 4, 5] none [⟨some 12, .mv (.tmp 3), none⟩, ⟨some 13, .len (.tmp 12), none⟩, ⟨some 5, .mv (.tmp 13), none⟩]
def Xn92_24 : C := regL [0, 3, 4, 5, 66] (some [0, 1, 3, 7, 7, 31, 63, 127, 7, 7, 7, 1031, 3591, 7687, 16135, 32519, 65287, 131071, 262143, 524287, 524287, 2097151, 4194303, 8388607, 524287, 524287, 524287, 67633151, 235405311, 503840767, 1057488895, 2131230719, 4278714367, 8589934591, 17179869183, 34359738367, 34359738367, 137438953471, 274877906943, 549755813887, 34359738367, 34359738367, 34359738367, 4432406249471, 15427522527231, 33019708571647, 69303592288255, 139672336465919, 280409824821247, 562949953421311, 1125899906842623, 2251799813685247, 4503599627370495]) [⟨some 14, .mv (.tmp 5), none⟩, ⟨some 15, .bin 3 .gtr (.tmp 14) (.const (.int .i64 0)), none⟩, ⟨some 16, .mv (.tmp 15), none⟩, ⟨some 17, .mv (.tmp 0), some (16, true)⟩, ⟨some 18, .mv (.tmp 4), some (16, true)⟩, ⟨some 19, .ia 6 (.tmp 17) (.tmp 18), some (16, true)⟩, ⟨some 20, .fa 0 (.tmp 19), some (16, true)⟩, ⟨some 21, .ld 2 1 false (.tmp 20), some (16, true)⟩, ⟨some 22, .mv (.tmp 0), some (16, true)⟩, ⟨some 23, .mv (.tmp 3), some (16, true)⟩, ⟨some 24, .mv (.tmp 5), some (16, true)⟩, ⟨some 25, .bin 3 .sub (.tmp 24) (.const (.int .i64 1)), some (16, true)⟩, ⟨some 26, .ia 1 (.tmp 23) (.tmp 25), some (16, true)⟩, ⟨some 27, .ld 3 1 false (.tmp 26), some (16, true)⟩, ⟨some 28, .ia 6 (.tmp 22) (.tmp 27), some (16, true)⟩, ⟨some 29, .fa 0 (.tmp 28), some (16, true)⟩, ⟨some 30, .ld 2 1 false (.tmp 29), some (16, true)⟩, ⟨some 31, .bin 2 .lss (.tmp 21) (.tmp 30), some (16, true)⟩, ⟨some 32, .mv (.tmp 31), some (16, true)⟩, ⟨some 33, .mv (.tmp 0), some (32, false)⟩, ⟨some 34, .mv (.tmp 4), some (32, false)⟩, ⟨some 35, .ia 6 (.tmp 33) (.tmp 34), some (32, false)⟩, ⟨some 36, .fa 0 (.tmp 35), some (32, false)⟩, ⟨some 37, .ld 2 1 false (.tmp 36), some (32, false)⟩, ⟨some 38, .mv (.tmp 0), some (32, false)⟩, ⟨some 39, .mv (.tmp 3), some (32, false)⟩, ⟨some 40, .mv (.tmp 5), some (32, false)⟩, ⟨some 41, .bin 3 .sub (.tmp 40) (.const (.int .i64 1)), some (32, false)⟩, ⟨some 42, .ia 1 (.tmp 39) (.tmp 41), some (32, false)⟩, ⟨some 43, .ld 3 1 false (.tmp 42), some (32, false)⟩, ⟨some 44, .ia 6 (.tmp 38) (.tmp 43), some (32, false)⟩, ⟨some 45, .fa 0 (.tmp 44), some (32, false)⟩, ⟨some 46, .ld 2 1 false (.tmp 45), some (32, false)⟩, ⟨some 47, .bin 2 .eql (.tmp 37) (.tmp 46), some (32, false)⟩, ⟨some 48, .mv (.tmp 47), some (32, false)⟩, ⟨some 49, .mv (.tmp 0), some (48, true)⟩, ⟨some 50, .mv (.tmp 4), some (48, true)⟩, ⟨some 51, .ia 6 (.tmp 49) (.tmp 50), some (48, true)⟩, ⟨some 52, .fa 1 (.tmp 51), some (48, true)⟩, ⟨some 53, .ld 2 1 false (.tmp 52), some (48, true)⟩, ⟨some 54, .mv (.tmp 0), some (48, true)⟩, ⟨some 55, .mv (.tmp 3), some (48, true)⟩, ⟨some 56, .mv (.tmp 5), some (48, true)⟩, ⟨some 57, .bin 3 .sub (.tmp 56) (.const (.int .i64 1)), some (48, true)⟩, ⟨some 58, .ia 1 (.tmp 55) (.tmp 57), some (48, true)⟩, ⟨some 59, .ld 3 1 false (.tmp 58), some (48, true)⟩, ⟨some 60, .ia 6 (.tmp 54) (.tmp 59), some (48, true)⟩, ⟨some 61, .fa 1 (.tmp 60), some (48, true)⟩, ⟨some 62, .ld 2 1 false (.tmp 61), some (48, true)⟩, ⟨some 63, .bin 2 .lss (.tmp 53) (.tmp 62), some (48, true)⟩, ⟨some 64, .pick 48 (.tmp 63) (.const (.bool false)), some (32, false)⟩, ⟨some 65, .pick 32 (.const (.bool true)) (.tmp 64), some (16, true)⟩, ⟨some 66, .pick 16 (.tmp 65) (.const (.bool false)), none⟩]
def Xn92_25 : C := .cond (.tmp 66) .skip (.exit 2)
def Xn92_23 : C := .seq Xn92_24 Xn92_25
def Xn92_29 : C := regL [0, 3, 4, 5] none [⟨some 67, .mv (.tmp 5), none⟩, ⟨some 68, .bin 3 .sub (.tmp 67) (.const (.int .i64 1)), none⟩, ⟨some 5, .mv (.tmp 68), none⟩]
def Xn92_28 : C := .block 3 Xn92_29
def Xn92_22 : C := seqL [0, 3, 4, 5] Xn92_23 Xn92_28
/- carried: [5] -/
def Xn92_21 : C := loopL [0, 3, 4, 5] Xn92_22
def Xn92_20 : C := .block 2 Xn92_21
def Xn92_30 : C := regL [0, 3, 4] (some [0, 0, 0, 6, 15, 0, 32, 127, 0, 0, 768, 2047, 4095]) [⟨some 69, .bls 3 1 0 (.int .i64 0) [], none⟩, ⟨some 70, .mv (.tmp 3), none⟩, ⟨some 71, .mv (.tmp 5), none⟩, ⟨some 72, .slc 77 1 (.tmp 70) none (some (.tmp 71)), none⟩, ⟨some 73, .app 3 1 8 (.tmp 69) (.tmp 72), none⟩, ⟨some 74, .mv (.tmp 4), none⟩, ⟨some 75, .bls 3 1 1 (.int .i64 0) [(0, 1, .tmp 74)], none⟩, ⟨some 76, .app 3 1 8 (.tmp 73) (.tmp 75), none⟩, ⟨some 77, .mv (.tmp 3), none⟩, ⟨some 78, .mv (.tmp 5), none⟩, ⟨some 79, .slc 77 1 (.tmp 77) (some (.tmp 78)) none, none⟩, ⟨some 80, .app 3 1 8 (.tmp 76) (.tmp 79), none⟩, ⟨some 3, .mv (.tmp 80), none⟩]
def Xn92_19 : C := seqL [0, 3, 4, 5] Xn92_20 Xn92_30
def Xn92_17 : C := .seq Xn92_18 Xn92_19
def Xn92_16 : C := .block 1 Xn92_17
def Xn92_31 : C := regL [0, 3, 4] none [⟨some 10, .mv (.tmp 4), none⟩, ⟨some 11, .bin 3 .add (.tmp 10) (.const (.int .i64 1)), none⟩, ⟨some 4, .mv (.tmp 11), none⟩]
def Xn92_15 : C := seqL [0, 3, 4] Xn92_16 Xn92_31
def Xn92_9 : C := seqL [0, 3, 4] Xn92_10 Xn92_15
/- carried: [3, 4] -/
def Xn92_8 : C := loopL [0, 3, 4] Xn92_9
def Xn92_7 : C := .block 0 Xn92_8
def Xn92_5 : C := .seq Xn92_6 Xn92_7
def Xn92_33 : C := regL [2] none [⟨some 81, .mv (.tmp 3), none⟩, ⟨some 2, .mv (.tmp 81), none⟩]
def Xn92_32 : C := .seq Xn92_33 .ret
def Xn92_4 : C := seqL [3] Xn92_5 Xn92_32
def Xn92_2 : C := .seq Xn92_3 Xn92_4
def Xn92_0 : C := .seq Xn92_1 Xn92_2
theorem Xt92 : Text Try.prog 92 Xn92_0 82 1 [.t 2] := ⟨⟨Try.f92, [], Try.func92, by kernel_rfl, by kernel_rfl, by kernel_rfl, by kernel_rfl⟩⟩
def Xn93_1 : C := regL [0, 1] none [⟨some 4, .mv (.const (.slice none 0 0)), none⟩]
def Xn93_3 : C := regL [0, 1, 5] none [⟨some 11, .mv (.tmp 0), none⟩, ⟨some 12, .len (.tmp 11), none⟩, ⟨some 13, .mks 3 1 8 (.int .i64 0) (.tmp 12) (.tmp 12), none⟩, ⟨some 5, .mv (.tmp 13), none⟩]
def Xn93_5 : C := regL [0, 1, 5, 6, 7] none [⟨some 14, .mv (.tmp 0), none⟩, ⟨some 15, .len (.tmp 14), none⟩, ⟨some 16, .mv (.tmp 1), none⟩, ⟨some 17, .len (.tmp 16), none⟩, ⟨some 18, .bin 3 .sub (.tmp 15) (.tmp 17), none⟩, ⟨some 6, .mv (.const (.int .i64 0)), none⟩, ⟨some 7, .mv (.tmp 18), none⟩]
def Xn93_8 : C := regL [0, 1, 5, 6, 7, 8] none [⟨some 8, .mv (.const (.int .i64 0)), none⟩]
def Xn93_13 : C := regL [0, 1, 5, 6, 7, 8, 22] none [⟨some 19, .mv (.tmp 8), none⟩, ⟨some 20, .mv (.tmp 0), none⟩, ⟨some 21, .len (.tmp 20), none⟩, ⟨some 22, .bin 3 .lss (.tmp 19) (.tmp 21), none⟩]
def Xn93_14 : C := .cond (.tmp 22) .skip (.exit 0)
def Xn93_12 : C := .seq Xn93_13 Xn93_14
def Xn93_20 : C := regL [0, 1, 5, 6, 7, 8] none [⟨some 25, .mv (.tmp 5), none⟩, ⟨some 26, .mv (.tmp 8), none⟩, ⟨some 27, .ia 1 (.tmp 25) (.tmp 26), none⟩, ⟨none, .st 3 1 (.tmp 27) (.const (.int .i64 2)), none⟩]
def Xn93_21 : C := regL [0, 1, 5, 6, 7, 8] none [⟨some 28, .mv (.tmp 6), none⟩, ⟨some 29, .mv (.tmp 0), none⟩, ⟨some 30, .mv (.tmp 8), none⟩, ⟨some 31, .ia 6 (.tmp 29) (.tmp 30), none⟩, ⟨some 32, .fa 1 (.tmp 31), none⟩, ⟨some 33, .ld 2 1 false (.tmp 32), none⟩, ⟨some 34, .bin 2 .add (.tmp 28) (.tmp 33), none⟩, ⟨some 6, .mv (.tmp 34), none⟩]
def Xn93_19 : C := .seq Xn93_20 Xn93_21
def Xn93_18 : C := .block 1 Xn93_19
def Xn93_22 : C := regL [0, 1, 5, 6, 7, 8] none [⟨some 23, .mv (.tmp 8), none⟩, ⟨some 24, .bin 3 .add (.tmp 23) (.const (.int .i64 1)), none⟩, ⟨some 8, .mv (.tmp 24), none⟩]
def Xn93_17 : C := seqL [0, 1, 5, 6, 7, 8] Xn93_18 Xn93_22
def Xn93_11 : C := seqL [0, 1, 5, 6, 7, 8] Xn93_12 Xn93_17
/- carried: [6, 8] -/
def Xn93_10 : C := loopL [0, 1, 5, 6, 7, 8] Xn93_11
def Xn93_9 : C := .block 0 Xn93_10
def Xn93_7 : C := .seq Xn93_8 Xn93_9
def Xn93_25 : C := regL [0, 1, 5, 6, 7, 9] none [⟨some 9, .mv (.const (.int .i64 0)), none⟩]
def Xn93_30 : C := regL [0, 1, 5, 6, 7, 9, 38] none [⟨some 35, .mv (.tmp 9), none⟩, ⟨some 36, .mv (.tmp 1), none⟩, ⟨some 37, .len (.tmp 36), none⟩, ⟨some 38, .bin 3 .lss (.tmp 35) (.tmp 37), none⟩]
def Xn93_31 : C := .cond (.tmp 38) .skip (.exit 2)
def Xn93_29 : C := .seq Xn93_30 Xn93_31
def Xn93_37 : C := regL [0, 1, 5, 6, 7, 9] none [⟨some 41, .mv (.tmp 5), none⟩, ⟨some 42, .mv (.tmp 1), none⟩, ⟨some 43, .mv (.tmp 9), none⟩, ⟨some 44, .ia 1 (.tmp 42) (.tmp 43), none⟩, ⟨some 45, .ld 3 1 false (.tmp 44), none⟩, ⟨some 46, .ia 1 (.tmp 41) (.tmp 45), none⟩, ⟨none, .st 3 1 (.tmp 46) (.const (.int .i64 0)), none⟩]
def Xn93_38 : C := regL [0, 1, 5, 6, 7, 9] none [⟨some 47, .mv (.tmp 6), none⟩, ⟨some 48, .mv (.tmp 0), none⟩, ⟨some 49, .mv (.tmp 1), none⟩, ⟨some 50, .mv (.tmp 9), none⟩, ⟨some 51, .ia 1 (.tmp 49) (.tmp 50), none⟩, ⟨some 52, .ld 3 1 false (.tmp 51), none⟩, ⟨some 53, .ia 6 (.tmp 48) (.tmp 52), none⟩, ⟨some 54, .fa 1 (.tmp 53), none⟩, ⟨some 55, .ld 2 1 false (.tmp 54), none⟩, ⟨some 56, .bin 2 .sub (.tmp 47) (.tmp 55), none⟩, ⟨some 6, .mv (.tmp 56), none⟩]
def Xn93_36 : C := .seq Xn93_37 Xn93_38
def Xn93_35 : C := .block 3 Xn93_36
def Xn93_39 : C := regL [0, 1, 5, 6, 7, 9] none [⟨some 39, .mv (.tmp 9), none⟩, ⟨some 40, .bin 3 .add (.tmp 39) (.const (.int .i64 1)), none⟩, ⟨some 9, .mv (.tmp 40), none⟩]
def Xn93_34 : C := seqL [0, 1, 5, 6, 7, 9] Xn93_35 Xn93_39
def Xn93_28 : C := seqL [0, 1, 5, 6, 7, 9] Xn93_29 Xn93_34
/- carried: [6, 9] -/
def Xn93_27 : C := loopL [0, 1, 5, 6, 7, 9] Xn93_28
def Xn93_26 : C := .block 2 Xn93_27
def Xn93_24 : C := .seq Xn93_25 Xn93_26
def Xn93_42 : C := regL [0, 5, 6, 7, 10] none [⟨some 10, .mv (.const (.int .i64 0)), none⟩]
def Xn93_47 : C := regL [0, 5, 6, 7, 10, 60] none [⟨some 57, .mv (.tmp 10), none⟩, ⟨some 58, .mv (.tmp 0), none⟩, ⟨some 59, .len (.tmp 58), none⟩, ⟨some 60, .bin 3 .lss (.tmp 57) (.tmp 59), none⟩]
def Xn93_48 : C := .cond (.tmp 60) .skip (.exit 4)
def Xn93_46 : C := .seq Xn93_47 Xn93_48
def Xn93_54 : C := regL [0, 5, 6, 7, 10, 78] none [⟨some 63, .mv (.tmp 5), none⟩, ⟨some 64, .mv (.tmp 10), none⟩, ⟨some 65, .ia 1 (.tmp 63) (.tmp 64), none⟩, ⟨some 66, .ld 3 1 false (.tmp 65), none⟩, ⟨some 67, .bin 3 .eql (.tmp 66) (.const (.int .i64 2)), none⟩, ⟨some 68, .mv (.tmp 67), none⟩, ⟨some 69, .mv (.tmp 0), some (68, true)⟩, ⟨some 70, .mv (.tmp 10), some (68, true)⟩, ⟨some 71, .ia 6 (.tmp 69) (.tmp 70), some (68, true)⟩, ⟨some 72, .fa 1 (.tmp 71), some (68, true)⟩, ⟨some 73, .ld 2 1 false (.tmp 72), some (68, true)⟩, ⟨some 74, .mv (.tmp 7), some (68, true)⟩, ⟨some 75, .bin 2 .mul (.tmp 73) (.tmp 74), some (68, true)⟩, ⟨some 76, .mv (.tmp 6), some (68, true)⟩, ⟨some 77, .bin 2 .gtr (.tmp 75) (.tmp 76), some (68, true)⟩, ⟨some 78, .pick 68 (.tmp 77) (.const (.bool false)), none⟩]
def Xn93_56 : C := regL [0, 5, 6, 7, 10] none [⟨some 79, .mv (.tmp 5), none⟩, ⟨some 80, .mv (.tmp 10), none⟩, ⟨some 81, .ia 1 (.tmp 79) (.tmp 80), none⟩, ⟨none, .st 3 1 (.tmp 81) (.const (.int .i64 1)), none⟩]
def Xn93_55 : C := .cond (.tmp 78) Xn93_56 .skip
def Xn93_53 : C := .seq Xn93_54 Xn93_55
def Xn93_52 : C := .block 5 Xn93_53
def Xn93_58 : C := regL [0, 5, 6, 7, 10] none [⟨some 61, .mv (.tmp 10), none⟩, ⟨some 62, .bin 3 .add (.tmp 61) (.const (.int .i64 1)), none⟩, ⟨some 10, .mv (.tmp 62), none⟩]
def Xn93_51 : C := seqL [0, 5, 6, 7, 10] Xn93_52 Xn93_58
def Xn93_45 : C := seqL [0, 5, 6, 7, 10] Xn93_46 Xn93_51
/- carried: [10] -/
def Xn93_44 : C := loopL [0, 5, 6, 7, 10] Xn93_45
def Xn93_43 : C := .block 4 Xn93_44
def Xn93_41 : C := .seq Xn93_42 Xn93_43
def Xn93_60 : C := regL [4] none [⟨some 82, .mv (.tmp 5), none⟩, ⟨some 4, .mv (.tmp 82), none⟩]
def Xn93_59 : C := .seq Xn93_60 .ret
def Xn93_40 : C := seqL [5] Xn93_41 Xn93_59
def Xn93_23 : C := seqL [0, 5, 6, 7] Xn93_24 Xn93_40
def Xn93_6 : C := seqL [0, 1, 5, 6, 7] Xn93_7 Xn93_23
def Xn93_4 : C := .seq Xn93_5 Xn93_6
def Xn93_2 : C := .seq Xn93_3 Xn93_4
def Xn93_0 : C := .seq Xn93_1 Xn93_2
theorem Xt93 : Text Try.prog 93 Xn93_0 83 2 [.t 4] := ⟨⟨Try.f93, [], Try.func93, by kernel_rfl, by kernel_rfl, by kernel_rfl, by kernel_rfl⟩⟩
def Xn94_1 : C := regL [1] none [⟨some 1, .box true 89 (.tmp 0), none⟩, ⟨some 2, .mv (.const (.int .i64 0)), none⟩]
def Xn94_3 : C := regL [3, 4, 5] none [⟨some 7, .ld 89 3 true (.tmp 1), none⟩, ⟨some 8, .call 123 [.tmp 7], none⟩, ⟨some 6, .mv (.tmp 8), none⟩, ⟨some 9, .ext 0 (.tmp 6), none⟩, ⟨some 10, .ext 1 (.tmp 6), none⟩, ⟨some 11, .ext 2 (.tmp 6), none⟩, ⟨some 3, .mv (.tmp 9), none⟩, ⟨some 4, .mv (.tmp 10), none⟩, ⟨some 5, .mv (.tmp 11), none⟩]
def Xn94_6 : C := regL [3, 4, 13] none [⟨some 12, .mv (.tmp 5), none⟩, ⟨some 13, .un .not (.tmp 12), none⟩]
def Xn94_9 : C := regL [2] none [⟨some 14, .mv (.tmp 3), none⟩, ⟨some 2, .mv (.tmp 14), none⟩]
def Xn94_8 : C := .seq Xn94_9 .ret
def Xn94_7 : C := .cond (.tmp 13) Xn94_8 .skip
def Xn94_5 : C := .seq Xn94_6 Xn94_7
def Xn94_14 : C := regL [3, 15] none [⟨some 15, .mv (.tmp 4), none⟩]
def Xn94_16 : C := regL [3] none [⟨some 16, .mv (.tmp 3), none⟩, ⟨some 17, .bin 2 .add (.tmp 16) (.const (.int .i64 1)), none⟩, ⟨some 3, .mv (.tmp 17), none⟩]
def Xn94_15 : C := .cond (.tmp 15) Xn94_16 .skip
def Xn94_13 : C := .seq Xn94_14 Xn94_15
def Xn94_19 : C := regL [2] none [⟨some 18, .mv (.tmp 3), none⟩, ⟨some 19, .un .neg (.tmp 18), none⟩, ⟨some 2, .mv (.tmp 19), none⟩]
def Xn94_18 : C := .seq Xn94_19 .ret
def Xn94_12 : C := seqL [3] Xn94_13 Xn94_18
def Xn94_4 : C := seqL [3, 4] Xn94_5 Xn94_12
def Xn94_2 : C := .seq Xn94_3 Xn94_4
def Xn94_0 : C := .seq Xn94_1 Xn94_2
theorem Xt94 : Text Try.prog 94 Xn94_0 20 1 [.t 2] := ⟨⟨Try.f94, [1], Try.func94, by kernel_rfl, by kernel_rfl, by kernel_rfl, by kernel_rfl⟩⟩
def Xn95_1 : C := regL [1] none [⟨some 1, .box true 94 (.tmp 0), none⟩, ⟨some 2, .mv (.const (.int .i64 0)), none⟩]
def Xn95_3 : C := regL [1, 3] none [⟨some 4, .mkf 124 [] [.tmp 1], none⟩, ⟨some 3, .mv (.tmp 4), none⟩]
def Xn95_5 : C := regL [2] (some [0, 1, 3, 0, 8, 31, 0, 64, 192, 0, 536, 2008, 4095, 0, 8192, 24576, 0, 67096, 255512, 524287, 1048575]) [⟨some 5, .iaa 3 3 (.tmp 1) (.const (.int .i64 0)), none⟩, ⟨some 6, .iaa 3 1 (.tmp 5) (.const (.int .i64 0)), none⟩, ⟨some 7, .ld 2 1 false (.tmp 6), none⟩, ⟨some 8, .mv (.tmp 3), none⟩, ⟨some 9, .callv (.tmp 8) [.const (.int .i64 1), .const (.int .i64 2)], none⟩, ⟨some 10, .bin 2 .mul (.tmp 7) (.tmp 9), none⟩, ⟨some 11, .iaa 3 3 (.tmp 1) (.const (.int .i64 0)), none⟩, ⟨some 12, .iaa 3 1 (.tmp 11) (.const (.int .i64 1)), none⟩, ⟨some 13, .ld 2 1 false (.tmp 12), none⟩, ⟨some 14, .mv (.tmp 3), none⟩, ⟨some 15, .callv (.tmp 14) [.const (.int .i64 0), .const (.int .i64 2)], none⟩, ⟨some 16, .bin 2 .mul (.tmp 13) (.tmp 15), none⟩, ⟨some 17, .bin 2 .sub (.tmp 10) (.tmp 16), none⟩, ⟨some 18, .iaa 3 3 (.tmp 1) (.const (.int .i64 0)), none⟩, ⟨some 19, .iaa 3 1 (.tmp 18) (.const (.int .i64 2)), none⟩, ⟨some 20, .ld 2 1 false (.tmp 19), none⟩, ⟨some 21, .mv (.tmp 3), none⟩, ⟨some 22, .callv (.tmp 21) [.const (.int .i64 0), .const (.int .i64 1)], none⟩, ⟨some 23, .bin 2 .mul (.tmp 20) (.tmp 22), none⟩, ⟨some 24, .bin 2 .add (.tmp 17) (.tmp 23), none⟩, ⟨some 2, .mv (.tmp 24), none⟩]
def Xn95_4 : C := .seq Xn95_5 .ret
def Xn95_2 : C := .seq Xn95_3 Xn95_4
def Xn95_0 : C := .seq Xn95_1 Xn95_2
theorem Xt95 : Text Try.prog 95 Xn95_0 25 1 [.t 2] := ⟨⟨Try.f95, [1], Try.func95, by kernel_rfl, by kernel_rfl, by kernel_rfl, by kernel_rfl⟩⟩
def Xn96_1 : C := regL [0, 1] none [⟨some 4, .mv (.const (.int .i64 0)), none⟩]
def Xn96_4 : C := regL [0, 1, 7, 8] none [⟨some 6, .mv (.tmp 0), none⟩, ⟨some 7, .len (.tmp 6), none⟩, ⟨some 8, .mv (.const (.int .i64 0)), none⟩]
def Xn96_8 : C := regL [0, 1, 7, 8, 9] none [⟨some 9, .bin 3 .lss (.tmp 8) (.tmp 7), none⟩]
def Xn96_10 : C := .cond (.tmp 9) .skip (.exit 0)
def Xn96_16 : C := regL [0, 1, 5, 7, 8] none [⟨some 10, .mv (.tmp 8), none⟩, ⟨some 5, .mv (.tmp 10), none⟩]
def Xn96_18 : C := regL [0, 1, 5, 7, 8, 16] none [⟨some 11, .mv (.tmp 1), none⟩, ⟨some 12, .mv (.tmp 0), none⟩, ⟨some 13, .mv (.tmp 5), none⟩, ⟨some 14, .ia 1 (.tmp 12) (.tmp 13), none⟩, ⟨some 15, .ld 2 1 false (.tmp 14), none⟩, ⟨some 16, .callv (.tmp 11) [.tmp 15], none⟩]
def Xn96_21 : C := regL [4] none [⟨some 17, .mv (.tmp 5), none⟩, ⟨some 4, .mv (.tmp 17), none⟩]
def Xn96_20 : C := .seq Xn96_21 .ret
def Xn96_19 : C := .cond (.tmp 16) Xn96_20 .skip
def Xn96_17 : C := .seq Xn96_18 Xn96_19
def Xn96_15 : C := .seq Xn96_16 Xn96_17
def Xn96_14 : C := .block 1 Xn96_15
def Xn96_24 : C := regL [0, 1, 7, 8] none [⟨some 18, .bin 3 .add (.tmp 8) (.const (.int .i64 1)), none⟩, ⟨some 8, .mv (.tmp 18), none⟩]
def Xn96_13 : C := seqL [0, 1, 7, 8] Xn96_14 Xn96_24
def Xn96_9 : C := seqL [0, 1, 7, 8] Xn96_10 Xn96_13
def Xn96_7 : C := .seq Xn96_8 Xn96_9
/- carried: [8] -/
def Xn96_6 : C := loopL [0, 1, 7, 8] Xn96_7
def Xn96_5 : C := .block 0 Xn96_6
def Xn96_3 : C := .seq Xn96_4 Xn96_5
def Xn96_26 : C := regL [4] none [⟨some 4, .mv (.const (.int .i64 (-1))), none⟩]
def Xn96_25 : C := .seq Xn96_26 .ret
def Xn96_2 : C := seqL [] Xn96_3 Xn96_25
def Xn96_0 : C := .seq Xn96_1 Xn96_2
theorem Xt96 : Text Try.prog 96 Xn96_0 19 2 [.t 4] := ⟨⟨Try.f96, [], Try.func96, by kernel_rfl, by kernel_rfl, by kernel_rfl, by kernel_rfl⟩⟩
def Xn97_1 : C := regL [0] none [⟨some 2, .mv (.const (.bool false)), none⟩]
def Xn97_3 : C := regL [2] none [⟨some 3, .mv (.tmp 0), none⟩, ⟨some 4, .bin 2 .lss (.tmp 3) (.const (.int .i64 0)), none⟩, ⟨some 2, .mv (.tmp 4), none⟩]
def Xn97_2 : C := .seq Xn97_3 .ret
def Xn97_0 : C := .seq Xn97_1 Xn97_2
theorem Xt97 : Text Try.prog 97 Xn97_0 5 1 [.t 2] := ⟨⟨Try.f97, [], Try.func97, by kernel_rfl, by kernel_rfl, by kernel_rfl, by kernel_rfl⟩⟩
/- carried: [10] -/
/- carried: [9, 10] -/
/- carried: [9, 10, 11] -/
/- carried: [4, 74] -/
/- carried: [8] -/
/- carried: [3] -/
/- carried: [3, 4] -/
/- carried: [36] -/
/- carried: [47] -/
/- carried: [7] -/
/- carried: [3, 4] -/
/- carried: [5] -/
/- carried: [4] -/
/- carried: [3, 4] -/
def Xn117_1 : C := regL [0, 1, 3] none [⟨some 6, .ld 27 1 false (.tmp 1), none⟩, ⟨some 7, .len (.tmp 6), none⟩, ⟨some 8, .mks 3 1 8 (.int .i64 0) (.tmp 7) (.tmp 7), none⟩, ⟨some 3, .mv (.tmp 8), none⟩]
def Xn117_4 : C := regL [0, 1, 3, 10, 11] none [⟨some 9, .mv (.tmp 3), none⟩, ⟨some 10, .len (.tmp 9), none⟩, ⟨some 11, .mv (.const (.int .i64 0)), none⟩]
def Xn117_8 : C := regL [0, 1, 3, 10, 11, 12] none [⟨some 12, .bin 3 .lss (.tmp 11) (.tmp 10), none⟩]
def Xn117_10 : C := .cond (.tmp 12) .skip (.exit 0)
def Xn117_16 : C := regL [0, 1, 3, 4, 10, 11] none [⟨some 13, .mv (.tmp 11), none⟩, ⟨some 4, .mv (.tmp 13), none⟩]
def Xn117_17 : C := regL [0, 1, 3, 10, 11] none [⟨some 14, .mv (.tmp 3), none⟩, ⟨some 15, .mv (.tmp 4), none⟩, ⟨some 16, .mv (.tmp 4), none⟩, ⟨some 17, .ia 1 (.tmp 14) (.tmp 15), none⟩, ⟨none, .st 3 1 (.tmp 17) (.tmp 16), none⟩]
def Xn117_15 : C := .seq Xn117_16 Xn117_17
def Xn117_14 : C := .block 1 Xn117_15
def Xn117_18 : C := regL [0, 1, 3, 10, 11] none [⟨some 18, .bin 3 .add (.tmp 11) (.const (.int .i64 1)), none⟩, ⟨some 11, .mv (.tmp 18), none⟩]
def Xn117_13 : C := seqL [0, 1, 3, 10, 11] Xn117_14 Xn117_18
def Xn117_9 : C := seqL [0, 1, 3, 10, 11] Xn117_10 Xn117_13
def Xn117_7 : C := .seq Xn117_8 Xn117_9
/- carried: [11] -/
def Xn117_6 : C := loopL [0, 1, 3, 10, 11] Xn117_7
def Xn117_5 : C := .block 0 Xn117_6
def Xn117_3 : C := .seq Xn117_4 Xn117_5
def Xn117_20 : C := regL [0, 1, 3] none [⟨some 19, .mv (.tmp 3), none⟩, ⟨some 20, .mkf 119 [] [.tmp 1], none⟩, ⟨some 21, .call 118 [.tmp 19, .tmp 20], none⟩]
def Xn117_22 : C := regL [0, 1, 3, 5] none [⟨some 5, .mv (.const (.int .i64 1)), none⟩]
def Xn117_27 : C := regL [0, 1, 3, 5, 26] none [⟨some 22, .mv (.tmp 5), none⟩, ⟨some 23, .ld 27 1 false (.tmp 1), none⟩, ⟨some 24, .len (.tmp 23), none⟩, ⟨some 25, .bin 3 .sub (.tmp 24) (.const (.int .i64 2)), none⟩, ⟨some 26, .bin 3 .leq (.tmp 22) (.tmp 25), none⟩]
def Xn117_28 : C := .cond (.tmp 26) .skip (.exit 2)
def Xn117_26 : C := .seq Xn117_27 Xn117_28
def Xn117_34 : C := regL [0, 1, 3, 5, 49] (some [0, 0, 0, 0, 12, 30, 63, 127, 255, 511, 511, 511, 511, 4607, 511, 29183, 63999, 130559, 262143, 524287, 1048575]) [⟨some 29, .mv (.tmp 0), none⟩, ⟨some 30, .ld 27 1 false (.tmp 1), none⟩, ⟨some 31, .mv (.tmp 3), none⟩, ⟨some 32, .mv (.tmp 5), none⟩, ⟨some 33, .slc 77 1 (.tmp 31) none (some (.tmp 32)), none⟩, ⟨some 34, .call 122 [.tmp 30, .tmp 33], none⟩, ⟨some 35, .callv (.tmp 29) [.tmp 34], none⟩, ⟨some 36, .un .not (.tmp 35), none⟩, ⟨some 37, .mv (.tmp 36), none⟩, ⟨some 38, .mv (.tmp 0), some (37, false)⟩, ⟨some 39, .ld 27 1 false (.tmp 1), some (37, false)⟩, ⟨some 40, .mv (.tmp 3), some (37, false)⟩, ⟨some 41, .mv (.tmp 3), some (37, false)⟩, ⟨some 42, .len (.tmp 41), some (37, false)⟩, ⟨some 43, .mv (.tmp 5), some (37, false)⟩, ⟨some 44, .bin 3 .sub (.tmp 42) (.tmp 43), some (37, false)⟩, ⟨some 45, .slc 77 1 (.tmp 40) (some (.tmp 44)) none, some (37, false)⟩, ⟨some 46, .call 122 [.tmp 39, .tmp 45], some (37, false)⟩, ⟨some 47, .callv (.tmp 38) [.tmp 46], some (37, false)⟩, ⟨some 48, .un .not (.tmp 47), some (37, false)⟩, ⟨some 49, .pick 37 (.const (.bool true)) (.tmp 48), none⟩]
def Xn117_35 : C := .cond (.tmp 49) .ret .skip
def Xn117_33 : C := .seq Xn117_34 Xn117_35
def Xn117_32 : C := .block 3 Xn117_33
def Xn117_38 : C := regL [0, 1, 3, 5] none [⟨some 27, .mv (.tmp 5), none⟩, ⟨some 28, .bin 3 .add (.tmp 27) (.const (.int .i64 1)), none⟩, ⟨some 5, .mv (.tmp 28), none⟩]
def Xn117_31 : C := seqL [0, 1, 3, 5] Xn117_32 Xn117_38
def Xn117_25 : C := seqL [0, 1, 3, 5] Xn117_26 Xn117_31
/- carried: [5] -/
def Xn117_24 : C := loopL [0, 1, 3, 5] Xn117_25
def Xn117_23 : C := .block 2 Xn117_24
def Xn117_21 : C := .seq Xn117_22 Xn117_23
def Xn117_19 : C := .seq Xn117_20 Xn117_21
def Xn117_2 : C := seqL [0, 1, 3] Xn117_3 Xn117_19
def Xn117_0 : C := .seq Xn117_1 Xn117_2
theorem Xt117 : Text Try.prog 117 Xn117_0 50 2 [] := ⟨⟨Try.f117, [], Try.func117, by kernel_rfl, by kernel_rfl, by kernel_rfl, by kernel_rfl⟩⟩
def Xn118_0 : C := regL [] none [⟨some 4, .mv (.tmp 0), none⟩, ⟨some 5, .mv (.tmp 0), none⟩, ⟨some 6, .len (.tmp 5), none⟩, ⟨some 7, .mv (.tmp 1), none⟩, ⟨some 8, .call 140 [.tmp 4, .tmp 6, .tmp 7], none⟩]
theorem Xt118 : Text Try.prog 118 Xn118_0 9 2 [] := ⟨⟨Try.f118, [], Try.func118, by kernel_rfl, by kernel_rfl, by kernel_rfl, by kernel_rfl⟩⟩
def Xn119_1 : C := regL [0, 1, 2] none [⟨some 5, .mv (.const (.int .i64 0)), none⟩]
def Xn119_3 : C := regL [5] (some [0, 0, 3, 7, 15, 0, 0, 96, 224, 480, 1023, 0, 0, 6144, 14336, 30720, 0, 0, 196608, 458752, 983040, 2097151, 4194303, 8388607, 16777215]) [⟨some 6, .ld 27 1 false (.tmp 2), none⟩, ⟨some 7, .mv (.tmp 0), none⟩, ⟨some 8, .ia 6 (.tmp 6) (.tmp 7), none⟩, ⟨some 9, .fa 0 (.tmp 8), none⟩, ⟨some 10, .ld 2 1 false (.tmp 9), none⟩, ⟨some 11, .ld 27 1 false (.tmp 2), none⟩, ⟨some 12, .mv (.tmp 1), none⟩, ⟨some 13, .ia 6 (.tmp 11) (.tmp 12), none⟩, ⟨some 14, .fa 0 (.tmp 13), none⟩, ⟨some 15, .ld 2 1 false (.tmp 14), none⟩, ⟨some 16, .call 121 [.tmp 10, .tmp 15], none⟩, ⟨some 17, .ld 27 1 false (.tmp 2), none⟩, ⟨some 18, .mv (.tmp 0), none⟩, ⟨some 19, .ia 6 (.tmp 17) (.tmp 18), none⟩, ⟨some 20, .fa 1 (.tmp 19), none⟩, ⟨some 21, .ld 2 1 false (.tmp 20), none⟩, ⟨some 22, .ld 27 1 false (.tmp 2), none⟩, ⟨some 23, .mv (.tmp 1), none⟩, ⟨some 24, .ia 6 (.tmp 22) (.tmp 23), none⟩, ⟨some 25, .fa 1 (.tmp 24), none⟩, ⟨some 26, .ld 2 1 false (.tmp 25), none⟩, ⟨some 27, .call 121 [.tmp 21, .tmp 26], none⟩, ⟨some 28, .bls 3 1 2 (.int .i64 0) [(0, 1, .tmp 16), (1, 1, .tmp 27)], none⟩, ⟨some 29, .call 120 [.tmp 28], none⟩, ⟨some 5, .mv (.tmp 29), none⟩]
def Xn119_2 : C := .seq Xn119_3 .ret
def Xn119_0 : C := .seq Xn119_1 Xn119_2
theorem Xt119 : Text Try.prog 119 Xn119_0 30 3 [.t 5] := ⟨⟨Try.f119, [], Try.func119, by kernel_rfl, by kernel_rfl, by kernel_rfl, by kernel_rfl⟩⟩
def Xn120_1 : C := regL [0] none [⟨some 2, .mv (.const (.int .i64 0)), none⟩]
def Xn120_3 : C := regL [0, 3] none [⟨some 3, .mv (.const (.int .i64 0)), none⟩]
def Xn120_6 : C := regL [3, 6, 7, 8] none [⟨some 6, .mv (.tmp 0), none⟩, ⟨some 7, .len (.tmp 6), none⟩, ⟨some 8, .mv (.const (.int .i64 0)), none⟩]
def Xn120_10 : C := regL [3, 6, 7, 8, 9] none [⟨some 9, .bin 3 .lss (.tmp 8) (.tmp 7), none⟩]
def Xn120_12 : C := .cond (.tmp 9) .skip (.exit 0)
def Xn120_18 : C := regL [3, 5, 6, 7, 8] none [⟨some 10, .ia 1 (.tmp 6) (.tmp 8), none⟩, ⟨some 11, .ld 3 1 false (.tmp 10), none⟩, ⟨some 5, .mv (.tmp 11), none⟩]
def Xn120_20 : C := regL [3, 5, 6, 7, 8, 14] none [⟨some 12, .mv (.tmp 5), none⟩, ⟨some 13, .mv (.tmp 3), none⟩, ⟨some 14, .bin 3 .neq (.tmp 12) (.tmp 13), none⟩]
def Xn120_23 : C := regL [2] none [⟨some 15, .mv (.tmp 5), none⟩, ⟨some 2, .mv (.tmp 15), none⟩]
def Xn120_22 : C := .seq Xn120_23 .ret
def Xn120_21 : C := .cond (.tmp 14) Xn120_22 .skip
def Xn120_19 : C := .seq Xn120_20 Xn120_21
def Xn120_17 : C := .seq Xn120_18 Xn120_19
def Xn120_16 : C := .block 1 Xn120_17
def Xn120_26 : C := regL [3, 6, 7, 8] none [⟨some 16, .bin 3 .add (.tmp 8) (.const (.int .i64 1)), none⟩, ⟨some 8, .mv (.tmp 16), none⟩]
def Xn120_15 : C := seqL [3, 6, 7, 8] Xn120_16 Xn120_26
def Xn120_11 : C := seqL [3, 6, 7, 8] Xn120_12 Xn120_15
def Xn120_9 : C := .seq Xn120_10 Xn120_11
/- carried: [8] -/
def Xn120_8 : C := loopL [3, 6, 7, 8] Xn120_9
def Xn120_7 : C := .block 0 Xn120_8
def Xn120_5 : C := .seq Xn120_6 Xn120_7
def Xn120_28 : C := regL [2] none [⟨some 17, .mv (.tmp 3), none⟩, ⟨some 2, .mv (.tmp 17), none⟩]
def Xn120_27 : C := .seq Xn120_28 .ret
def Xn120_4 : C := seqL [3] Xn120_5 Xn120_27
def Xn120_2 : C := .seq Xn120_3 Xn120_4
def Xn120_0 : C := .seq Xn120_1 Xn120_2
theorem Xt120 : Text Try.prog 120 Xn120_0 18 1 [.t 2] := ⟨⟨Try.f120, [], Try.func120, by kernel_rfl, by kernel_rfl, by kernel_rfl, by kernel_rfl⟩⟩
def Xn121_1 : C := regL [0, 1] none [⟨some 4, .mv (.const (.int .i64 0)), none⟩]
def Xn121_3 : C := regL [0, 1, 5] none [⟨some 7, .mv (.tmp 0), none⟩, ⟨some 8, .call 141 [.tmp 7], none⟩, ⟨some 5, .mv (.tmp 8), none⟩]
def Xn121_5 : C := regL [0, 1, 5, 6] none [⟨some 9, .mv (.tmp 1), none⟩, ⟨some 10, .call 141 [.tmp 9], none⟩, ⟨some 6, .mv (.tmp 10), none⟩]
def Xn121_8 : C := regL [0, 1, 6, 11] none [⟨some 11, .mv (.tmp 5), none⟩]
def Xn121_12 : C := regL [12] none [⟨some 12, .mv (.tmp 6), none⟩]
def Xn121_15 : C := regL [4] none [⟨some 4, .mv (.const (.int .i64 0)), none⟩]
def Xn121_14 : C := .seq Xn121_15 .ret
def Xn121_13 : C := .cond (.tmp 12) Xn121_14 .skip
def Xn121_11 : C := .seq Xn121_12 Xn121_13
def Xn121_19 : C := regL [4] none [⟨some 4, .mv (.const (.int .i64 (-1))), none⟩]
def Xn121_18 : C := .seq Xn121_19 .ret
def Xn121_10 : C := seqL [] Xn121_11 Xn121_18
def Xn121_9 : C := .cond (.tmp 11) Xn121_10 .skip
def Xn121_7 : C := .seq Xn121_8 Xn121_9
def Xn121_24 : C := regL [0, 1, 13] none [⟨some 13, .mv (.tmp 6), none⟩]
def Xn121_27 : C := regL [4] none [⟨some 4, .mv (.const (.int .i64 1)), none⟩]
def Xn121_26 : C := .seq Xn121_27 .ret
def Xn121_25 : C := .cond (.tmp 13) Xn121_26 .skip
def Xn121_23 : C := .seq Xn121_24 Xn121_25
def Xn121_32 : C := regL [0, 1, 16] none [⟨some 14, .mv (.tmp 0), none⟩, ⟨some 15, .mv (.tmp 1), none⟩, ⟨some 16, .bin 2 .lss (.tmp 14) (.tmp 15), none⟩]
def Xn121_35 : C := regL [4] none [⟨some 4, .mv (.const (.int .i64 (-1))), none⟩]
def Xn121_34 : C := .seq Xn121_35 .ret
def Xn121_33 : C := .cond (.tmp 16) Xn121_34 .skip
def Xn121_31 : C := .seq Xn121_32 Xn121_33
def Xn121_40 : C := regL [19] none [⟨some 17, .mv (.tmp 0), none⟩, ⟨some 18, .mv (.tmp 1), none⟩, ⟨some 19, .bin 2 .gtr (.tmp 17) (.tmp 18), none⟩]
def Xn121_43 : C := regL [4] none [⟨some 4, .mv (.const (.int .i64 1)), none⟩]
def Xn121_42 : C := .seq Xn121_43 .ret
def Xn121_41 : C := .cond (.tmp 19) Xn121_42 .skip
def Xn121_39 : C := .seq Xn121_40 Xn121_41
def Xn121_47 : C := regL [4] none [⟨some 4, .mv (.const (.int .i64 0)), none⟩]
def Xn121_46 : C := .seq Xn121_47 .ret
def Xn121_38 : C := seqL [] Xn121_39 Xn121_46
def Xn121_30 : C := seqL [0, 1] Xn121_31 Xn121_38
def Xn121_22 : C := seqL [0, 1] Xn121_23 Xn121_30
def Xn121_6 : C := seqL [0, 1, 6] Xn121_7 Xn121_22
def Xn121_4 : C := .seq Xn121_5 Xn121_6
def Xn121_2 : C := .seq Xn121_3 Xn121_4
def Xn121_0 : C := .seq Xn121_1 Xn121_2
theorem Xt121 : Text Try.prog 121 Xn121_0 20 2 [.t 4] := ⟨⟨Try.f121, [], Try.func121, by kernel_rfl, by kernel_rfl, by kernel_rfl, by kernel_rfl⟩⟩
def Xn122_1 : C := regL [0, 1] none [⟨some 4, .mv (.const (.slice none 0 0)), none⟩]
def Xn122_3 : C := regL [0, 1, 5] none [⟨some 10, .mv (.tmp 0), none⟩, ⟨some 11, .len (.tmp 10), none⟩, ⟨some 12, .mks 3 1 8 (.int .i64 0) (.tmp 11) (.tmp 11), none⟩, ⟨some 5, .mv (.tmp 12), none⟩]
def Xn122_5 : C := regL [0, 1, 5, 6, 7] none [⟨some 6, .mv (.const (.int .i64 0)), none⟩, ⟨some 7, .mv (.const (.int .i64 0)), none⟩]
def Xn122_8 : C := regL [0, 1, 5, 6, 7, 14, 15] none [⟨some 13, .mv (.tmp 0), none⟩, ⟨some 14, .len (.tmp 13), none⟩, ⟨some 15, .mv (.const (.int .i64 0)), none⟩]
def Xn122_12 : C := regL [0, 1, 5, 6, 7, 14, 15, 16] none [⟨some 16, .bin 3 .lss (.tmp 15) (.tmp 14), none⟩]
def Xn122_14 : C := .cond (.tmp 16) .skip (.exit 0)
def Xn122_20 : C := regL [0, 1, 5, 6, 7, 8, 14, 15] none [⟨some 17, .mv (.tmp 15), none⟩, ⟨some 8, .mv (.tmp 17), none⟩]
def Xn122_22 : C := regL [0, 1, 5, 6, 7, 8, 14, 15, 21] none [⟨some 18, .mv (.tmp 1), none⟩, ⟨some 19, .mv (.tmp 8), none⟩, ⟨some 20, .call 142 [.tmp 18, .tmp 19], none⟩, ⟨some 21, .un .not (.tmp 20), none⟩]
def Xn122_25 : C := regL [0, 1, 5, 6, 7, 8, 14, 15] none [⟨some 22, .mv (.tmp 6), none⟩, ⟨some 23, .mv (.tmp 0), none⟩, ⟨some 24, .mv (.tmp 8), none⟩, ⟨some 25, .ia 6 (.tmp 23) (.tmp 24), none⟩, ⟨some 26, .fa 1 (.tmp 25), none⟩, ⟨some 27, .ld 2 1 false (.tmp 26), none⟩, ⟨some 28, .bin 2 .add (.tmp 22) (.tmp 27), none⟩, ⟨some 29, .mv (.tmp 7), none⟩, ⟨some 30, .bin 2 .add (.tmp 29) (.const (.int .i64 1)), none⟩, ⟨some 6, .mv (.tmp 28), none⟩, ⟨some 7, .mv (.tmp 30), none⟩]
def Xn122_26 : C := regL [0, 1, 5, 6, 7, 14, 15] none [⟨some 31, .mv (.tmp 5), none⟩, ⟨some 32, .mv (.tmp 8), none⟩, ⟨some 33, .ia 1 (.tmp 31) (.tmp 32), none⟩, ⟨none, .st 3 1 (.tmp 33) (.const (.int .i64 2)), none⟩]
def Xn122_24 : C := .seq Xn122_25 Xn122_26
def Xn122_23 : C := .cond (.tmp 21) Xn122_24 .skip
def Xn122_21 : C := .seq Xn122_22 Xn122_23
def Xn122_19 : C := .seq Xn122_20 Xn122_21
def Xn122_18 : C := .block 1 Xn122_19
def Xn122_28 : C := regL [0, 1, 5, 6, 7, 14, 15] none [⟨some 34, .bin 3 .add (.tmp 15) (.const (.int .i64 1)), none⟩, ⟨some 15, .mv (.tmp 34), none⟩]
def Xn122_17 : C := seqL [0, 1, 5, 6, 7, 14, 15] Xn122_18 Xn122_28
def Xn122_13 : C := seqL [0, 1, 5, 6, 7, 14, 15] Xn122_14 Xn122_17
def Xn122_11 : C := .seq Xn122_12 Xn122_13
/- carried: [6, 7, 15] -/
def Xn122_10 : C := loopL [0, 1, 5, 6, 7, 14, 15] Xn122_11
def Xn122_9 : C := .block 0 Xn122_10
def Xn122_7 : C := .seq Xn122_8 Xn122_9
def Xn122_31 : C := regL [0, 5, 6, 7, 36, 37] none [⟨some 35, .mv (.tmp 0), none⟩, ⟨some 36, .len (.tmp 35), none⟩, ⟨some 37, .mv (.const (.int .i64 0)), none⟩]
def Xn122_35 : C := regL [0, 5, 6, 7, 36, 37, 38] none [⟨some 38, .bin 3 .lss (.tmp 37) (.tmp 36), none⟩]
def Xn122_37 : C := .cond (.tmp 38) .skip (.exit 2)
def Xn122_43 : C := regL [0, 5, 6, 7, 9, 36, 37] none [⟨some 39, .mv (.tmp 37), none⟩, ⟨some 9, .mv (.tmp 39), none⟩]
def Xn122_45 : C := regL [0, 5, 6, 7, 9, 36, 37, 55] none [⟨some 40, .mv (.tmp 5), none⟩, ⟨some 41, .mv (.tmp 9), none⟩, ⟨some 42, .ia 1 (.tmp 40) (.tmp 41), none⟩, ⟨some 43, .ld 3 1 false (.tmp 42), none⟩, ⟨some 44, .bin 3 .eql (.tmp 43) (.const (.int .i64 2)), none⟩, ⟨some 45, .mv (.tmp 44), none⟩, ⟨some 46, .mv (.tmp 0), some (45, true)⟩, ⟨some 47, .mv (.tmp 9), some (45, true)⟩, ⟨some 48, .ia 6 (.tmp 46) (.tmp 47), some (45, true)⟩, ⟨some 49, .fa 1 (.tmp 48), some (45, true)⟩, ⟨some 50, .ld 2 1 false (.tmp 49), some (45, true)⟩, ⟨some 51, .mv (.tmp 7), some (45, true)⟩, ⟨some 52, .bin 2 .mul (.tmp 50) (.tmp 51), some (45, true)⟩, ⟨some 53, .mv (.tmp 6), some (45, true)⟩, ⟨some 54, .bin 2 .gtr (.tmp 52) (.tmp 53), some (45, true)⟩, ⟨some 55, .pick 45 (.tmp 54) (.const (.bool false)), none⟩]
def Xn122_47 : C := regL [0, 5, 6, 7, 36, 37] none [⟨some 56, .mv (.tmp 5), none⟩, ⟨some 57, .mv (.tmp 9), none⟩, ⟨some 58, .ia 1 (.tmp 56) (.tmp 57), none⟩, ⟨none, .st 3 1 (.tmp 58) (.const (.int .i64 1)), none⟩]
def Xn122_46 : C := .cond (.tmp 55) Xn122_47 .skip
def Xn122_44 : C := .seq Xn122_45 Xn122_46
def Xn122_42 : C := .seq Xn122_43 Xn122_44
def Xn122_41 : C := .block 3 Xn122_42
def Xn122_49 : C := regL [0, 5, 6, 7, 36, 37] none [⟨some 59, .bin 3 .add (.tmp 37) (.const (.int .i64 1)), none⟩, ⟨some 37, .mv (.tmp 59), none⟩]
def Xn122_40 : C := seqL [0, 5, 6, 7, 36, 37] Xn122_41 Xn122_49
def Xn122_36 : C := seqL [0, 5, 6, 7, 36, 37] Xn122_37 Xn122_40
def Xn122_34 : C := .seq Xn122_35 Xn122_36
/- carried: [37] -/
def Xn122_33 : C := loopL [0, 5, 6, 7, 36, 37] Xn122_34
def Xn122_32 : C := .block 2 Xn122_33
def Xn122_30 : C := .seq Xn122_31 Xn122_32
def Xn122_51 : C := regL [4] none [⟨some 60, .mv (.tmp 5), none⟩, ⟨some 4, .mv (.tmp 60), none⟩]
def Xn122_50 : C := .seq Xn122_51 .ret
def Xn122_29 : C := seqL [5] Xn122_30 Xn122_50
def Xn122_6 : C := seqL [0, 5, 6, 7] Xn122_7 Xn122_29
def Xn122_4 : C := .seq Xn122_5 Xn122_6
def Xn122_2 : C := .seq Xn122_3 Xn122_4
def Xn122_0 : C := .seq Xn122_1 Xn122_2
theorem Xt122 : Text Try.prog 122 Xn122_0 61 2 [.t 4] := ⟨⟨Try.f122, [], Try.func122, by kernel_rfl, by kernel_rfl, by kernel_rfl, by kernel_rfl⟩⟩
def Xn123_1 : C := regL [1] none [⟨some 1, .box true 89 (.tmp 0), none⟩, ⟨some 2, .mv (.const (.int .i64 0)), none⟩, ⟨some 3, .mv (.const (.bool false)), none⟩, ⟨some 4, .mv (.const (.bool false)), none⟩]
def Xn123_3 : C := regL [1, 4] none [⟨some 9, .fa 0 (.tmp 1), none⟩, ⟨some 10, .ld 2 1 false (.tmp 9), none⟩, ⟨some 11, .bin 2 .lss (.tmp 10) (.const (.int .i64 0)), none⟩, ⟨some 12, .fa 1 (.tmp 1), none⟩, ⟨some 13, .ld 2 1 false (.tmp 12), none⟩, ⟨some 14, .bin 2 .lss (.tmp 13) (.const (.int .i64 0)), none⟩, ⟨some 15, .eqb 4 true (.tmp 11) (.tmp 14), none⟩, ⟨some 4, .mv (.tmp 15), none⟩]
def Xn123_5 : C := regL [1, 4, 5, 6] none [⟨some 17, .fa 0 (.tmp 1), none⟩, ⟨some 18, .ld 2 1 false (.tmp 17), none⟩, ⟨some 19, .fa 0 (.tmp 1), none⟩, ⟨some 20, .ld 2 1 false (.tmp 19), none⟩, ⟨some 21, .un .neg (.tmp 20), none⟩, ⟨some 22, .mx [.tmp 18, .tmp 21], none⟩, ⟨some 23, .cvt .u64 (.tmp 22), none⟩, ⟨some 24, .fa 1 (.tmp 1), none⟩, ⟨some 25, .ld 2 1 false (.tmp 24), none⟩, ⟨some 26, .fa 1 (.tmp 1), none⟩, ⟨some 27, .ld 2 1 false (.tmp 26), none⟩, ⟨some 28, .un .neg (.tmp 27), none⟩, ⟨some 29, .mx [.tmp 25, .tmp 28], none⟩, ⟨some 30, .cvt .u64 (.tmp 29), none⟩, ⟨some 31, .call 143 [.tmp 23, .tmp 30], none⟩, ⟨some 16, .mv (.tmp 31), none⟩, ⟨some 32, .ext 0 (.tmp 16), none⟩, ⟨some 33, .ext 1 (.tmp 16), none⟩, ⟨some 5, .mv (.tmp 32), none⟩, ⟨some 6, .mv (.tmp 33), none⟩]
def Xn123_7 : C := regL [4, 7, 8] none [⟨some 35, .mv (.tmp 5), none⟩, ⟨some 36, .mv (.tmp 6), none⟩, ⟨some 37, .fa 2 (.tmp 1), none⟩, ⟨some 38, .ld 2 1 false (.tmp 37), none⟩, ⟨some 39, .cvt .u64 (.tmp 38), none⟩, ⟨some 40, .call 144 [.tmp 35, .tmp 36, .tmp 39], none⟩, ⟨some 34, .mv (.tmp 40), none⟩, ⟨some 41, .ext 0 (.tmp 34), none⟩, ⟨some 42, .ext 1 (.tmp 34), none⟩, ⟨some 7, .mv (.tmp 41), none⟩, ⟨some 8, .mv (.tmp 42), none⟩]
def Xn123_9 : C := regL [2, 3, 4] none [⟨some 43, .mv (.tmp 7), none⟩, ⟨some 44, .cvt .i64 (.tmp 43), none⟩, ⟨some 45, .mv (.tmp 8), none⟩, ⟨some 46, .bin 170 .gtr (.tmp 45) (.const (.int .u64 0)), none⟩, ⟨some 47, .mv (.tmp 4), none⟩, ⟨some 2, .mv (.tmp 44), none⟩, ⟨some 3, .mv (.tmp 46), none⟩, ⟨some 4, .mv (.tmp 47), none⟩]
def Xn123_8 : C := .seq Xn123_9 .ret
def Xn123_6 : C := .seq Xn123_7 Xn123_8
def Xn123_4 : C := .seq Xn123_5 Xn123_6
def Xn123_2 : C := .seq Xn123_3 Xn123_4
def Xn123_0 : C := .seq Xn123_1 Xn123_2
theorem Xt123 : Text Try.prog 123 Xn123_0 48 1 [.t 2, .t 3, .t 4] := ⟨⟨Try.f123, [1], Try.func123, by kernel_rfl, by kernel_rfl, by kernel_rfl, by kernel_rfl⟩⟩
def Xn124_1 : C := regL [0, 1, 2] none [⟨some 5, .mv (.const (.int .i64 0)), none⟩]
def Xn124_3 : C := regL [5] (some [0, 0, 3, 7, 0, 0, 48, 112, 255, 0, 0, 1536, 3584, 0, 0, 24576, 57344, 130560, 262143, 524287]) [⟨some 6, .mv (.tmp 0), none⟩, ⟨some 7, .iaa 3 3 (.tmp 2) (.const (.int .i64 1)), none⟩, ⟨some 8, .iaa 3 1 (.tmp 7) (.tmp 6), none⟩, ⟨some 9, .ld 2 1 false (.tmp 8), none⟩, ⟨some 10, .mv (.tmp 1), none⟩, ⟨some 11, .iaa 3 3 (.tmp 2) (.const (.int .i64 2)), none⟩, ⟨some 12, .iaa 3 1 (.tmp 11) (.tmp 10), none⟩, ⟨some 13, .ld 2 1 false (.tmp 12), none⟩, ⟨some 14, .bin 2 .mul (.tmp 9) (.tmp 13), none⟩, ⟨some 15, .mv (.tmp 0), none⟩, ⟨some 16, .iaa 3 3 (.tmp 2) (.const (.int .i64 2)), none⟩, ⟨some 17, .iaa 3 1 (.tmp 16) (.tmp 15), none⟩, ⟨some 18, .ld 2 1 false (.tmp 17), none⟩, ⟨some 19, .mv (.tmp 1), none⟩, ⟨some 20, .iaa 3 3 (.tmp 2) (.const (.int .i64 1)), none⟩, ⟨some 21, .iaa 3 1 (.tmp 20) (.tmp 19), none⟩, ⟨some 22, .ld 2 1 false (.tmp 21), none⟩, ⟨some 23, .bin 2 .mul (.tmp 18) (.tmp 22), none⟩, ⟨some 24, .bin 2 .sub (.tmp 14) (.tmp 23), none⟩, ⟨some 5, .mv (.tmp 24), none⟩]
def Xn124_2 : C := .seq Xn124_3 .ret
def Xn124_0 : C := .seq Xn124_1 Xn124_2
theorem Xt124 : Text Try.prog 124 Xn124_0 25 3 [.t 5] := ⟨⟨Try.f124, [], Try.func124, by kernel_rfl, by kernel_rfl, by kernel_rfl, by kernel_rfl⟩⟩
/- carried: [8] -/
end Go.Proofs.Ytfkjdjlcaojedaa

/- Print of my own generator (wip/sy/gen2.lean). -/
namespace Go.Proofs.Ytfkjdjlcaojedaa
open Go Sy
set_option maxRecDepth 100000
/- carried: [] -/
/- carried: [22] -/
/- carried: [17] -/
/- carried: [3] -/
def Xn140_1 : C := regL [0, 1, 2, 6] none [⟨some 6, .mv (.const (.int .i64 20)), none⟩]
def Xn140_3 : C := regL [0, 1, 2, 6, 7, 8] none [⟨some 10, .mv (.tmp 6), none⟩, ⟨some 7, .mv (.const (.int .i64 0)), none⟩, ⟨some 8, .mv (.tmp 10), none⟩]
def Xn140_9 : C := regL [0, 1, 2, 6, 7, 8, 13] none [⟨some 11, .mv (.tmp 8), none⟩, ⟨some 12, .mv (.tmp 1), none⟩, ⟨some 13, .bin 3 .leq (.tmp 11) (.tmp 12), none⟩]
def Xn140_10 : C := .cond (.tmp 13) .skip (.exit 0)
def Xn140_8 : C := .seq Xn140_9 Xn140_10
def Xn140_15 : C := regL [0, 1, 2, 6, 8] none [⟨some 14, .mv (.tmp 0), none⟩, ⟨some 15, .mv (.tmp 7), none⟩, ⟨some 16, .mv (.tmp 8), none⟩, ⟨some 17, .mv (.tmp 2), none⟩, ⟨some 18, .call 147 [.tmp 14, .tmp 15, .tmp 16, .tmp 17], none⟩]
def Xn140_17 : C := regL [0, 1, 2, 6, 7, 8] none [⟨some 19, .mv (.tmp 8), none⟩, ⟨some 7, .mv (.tmp 19), none⟩]
def Xn140_18 : C := regL [0, 1, 2, 6, 7, 8] none [⟨some 20, .mv (.tmp 8), none⟩, ⟨some 21, .mv (.tmp 6), none⟩, ⟨some 22, .bin 3 .add (.tmp 20) (.tmp 21), none⟩, ⟨some 8, .mv (.tmp 22), none⟩]
def Xn140_16 : C := .seq Xn140_17 Xn140_18
def Xn140_14 : C := .seq Xn140_15 Xn140_16
def Xn140_13 : C := .block 1 Xn140_14
def Xn140_7 : C := seqL [0, 1, 2, 6, 7, 8] Xn140_8 Xn140_13
/- carried: [7, 8] -/
def Xn140_6 : C := loopL [0, 1, 2, 6, 7, 8] Xn140_7
def Xn140_5 : C := .block 0 Xn140_6
def Xn140_20 : C := regL [0, 1, 2, 6] none [⟨some 23, .mv (.tmp 0), none⟩, ⟨some 24, .mv (.tmp 7), none⟩, ⟨some 25, .mv (.tmp 1), none⟩, ⟨some 26, .mv (.tmp 2), none⟩, ⟨some 27, .call 147 [.tmp 23, .tmp 24, .tmp 25, .tmp 26], none⟩]
def Xn140_25 : C := regL [0, 1, 2, 6, 30] none [⟨some 28, .mv (.tmp 6), none⟩, ⟨some 29, .mv (.tmp 1), none⟩, ⟨some 30, .bin 3 .lss (.tmp 28) (.tmp 29), none⟩]
def Xn140_26 : C := .cond (.tmp 30) .skip (.exit 2)
def Xn140_24 : C := .seq Xn140_25 Xn140_26
def Xn140_31 : C := regL [0, 1, 2, 6, 7, 8] none [⟨some 31, .mv (.tmp 6), none⟩, ⟨some 32, .bin 3 .mul (.const (.int .i64 2)) (.tmp 31), none⟩, ⟨some 7, .mv (.const (.int .i64 0)), none⟩, ⟨some 8, .mv (.tmp 32), none⟩]
def Xn140_37 : C := regL [0, 1, 2, 6, 7, 8, 35] none [⟨some 33, .mv (.tmp 8), none⟩, ⟨some 34, .mv (.tmp 1), none⟩, ⟨some 35, .bin 3 .leq (.tmp 33) (.tmp 34), none⟩]
def Xn140_38 : C := .cond (.tmp 35) .skip (.exit 4)
def Xn140_36 : C := .seq Xn140_37 Xn140_38
def Xn140_43 : C := regL [0, 1, 2, 6, 8] none [⟨some 36, .mv (.tmp 0), none⟩, ⟨some 37, .mv (.tmp 7), none⟩, ⟨some 38, .mv (.tmp 7), none⟩, ⟨some 39, .mv (.tmp 6), none⟩, ⟨some 40, .bin 3 .add (.tmp 38) (.tmp 39), none⟩, ⟨some 41, .mv (.tmp 8), none⟩, ⟨some 42, .mv (.tmp 2), none⟩, ⟨some 43, .call 148 [.tmp 36, .tmp 37, .tmp 40, .tmp 41, .tmp 42], none⟩]
def Xn140_45 : C := regL [0, 1, 2, 6, 7, 8] none [⟨some 44, .mv (.tmp 8), none⟩, ⟨some 7, .mv (.tmp 44), none⟩]
def Xn140_46 : C := regL [0, 1, 2, 6, 7, 8] none [⟨some 45, .mv (.tmp 8), none⟩, ⟨some 46, .mv (.tmp 6), none⟩, ⟨some 47, .bin 3 .mul (.const (.int .i64 2)) (.tmp 46), none⟩, ⟨some 48, .bin 3 .add (.tmp 45) (.tmp 47), none⟩, ⟨some 8, .mv (.tmp 48), none⟩]
def Xn140_44 : C := .seq Xn140_45 Xn140_46
def Xn140_42 : C := .seq Xn140_43 Xn140_44
def Xn140_41 : C := .block 5 Xn140_42
def Xn140_35 : C := seqL [0, 1, 2, 6, 7, 8] Xn140_36 Xn140_41
/- carried: [7, 8] -/
def Xn140_34 : C := loopL [0, 1, 2, 6, 7, 8] Xn140_35
def Xn140_33 : C := .block 4 Xn140_34
def Xn140_49 : C := regL [0, 1, 2, 6, 7, 9] none [⟨some 49, .mv (.tmp 7), none⟩, ⟨some 50, .mv (.tmp 6), none⟩, ⟨some 51, .bin 3 .add (.tmp 49) (.tmp 50), none⟩, ⟨some 9, .mv (.tmp 51), none⟩]
def Xn140_51 : C := regL [0, 1, 2, 6, 7, 9, 54] none [⟨some 52, .mv (.tmp 9), none⟩, ⟨some 53, .mv (.tmp 1), none⟩, ⟨some 54, .bin 3 .lss (.tmp 52) (.tmp 53), none⟩]
def Xn140_53 : C := regL [0, 1, 2, 6] none [⟨some 55, .mv (.tmp 0), none⟩, ⟨some 56, .mv (.tmp 7), none⟩, ⟨some 57, .mv (.tmp 9), none⟩, ⟨some 58, .mv (.tmp 1), none⟩, ⟨some 59, .mv (.tmp 2), none⟩, ⟨some 60, .call 148 [.tmp 55, .tmp 56, .tmp 57, .tmp 58, .tmp 59], none⟩]
def Xn140_52 : C := .cond (.tmp 54) Xn140_53 .skip
def Xn140_50 : C := .seq Xn140_51 Xn140_52
def Xn140_48 : C := .seq Xn140_49 Xn140_50
def Xn140_55 : C := regL [0, 1, 2, 6] none [⟨some 61, .mv (.tmp 6), none⟩, ⟨some 62, .bin 3 .mul (.tmp 61) (.const (.int .i64 2)), none⟩, ⟨some 6, .mv (.tmp 62), none⟩]
def Xn140_47 : C := seqL [0, 1, 2, 6] Xn140_48 Xn140_55
def Xn140_32 : C := seqL [0, 1, 2, 6, 7] Xn140_33 Xn140_47
def Xn140_30 : C := .seq Xn140_31 Xn140_32
def Xn140_29 : C := .block 3 Xn140_30
def Xn140_23 : C := seqL [0, 1, 2, 6] Xn140_24 Xn140_29
/- carried: [6] -/
def Xn140_22 : C := loopL [0, 1, 2, 6] Xn140_23
def Xn140_21 : C := .block 2 Xn140_22
def Xn140_19 : C := .seq Xn140_20 Xn140_21
def Xn140_4 : C := seqL [0, 1, 2, 6, 7] Xn140_5 Xn140_19
def Xn140_2 : C := .seq Xn140_3 Xn140_4
def Xn140_0 : C := .seq Xn140_1 Xn140_2
theorem Xt140 : Text Try.prog 140 Xn140_0 63 3 [] := ⟨⟨Try.f140, [], Try.func140, by kernel_rfl, by kernel_rfl, by kernel_rfl, by kernel_rfl⟩⟩
def Xn141_1 : C := regL [0] none [⟨some 2, .mv (.const (.bool false)), none⟩]
def Xn141_3 : C := regL [2] none [⟨some 3, .mv (.tmp 0), none⟩, ⟨some 4, .mv (.tmp 0), none⟩, ⟨some 5, .bin 2 .neq (.tmp 3) (.tmp 4), none⟩, ⟨some 2, .mv (.tmp 5), none⟩]
def Xn141_2 : C := .seq Xn141_3 .ret
def Xn141_0 : C := .seq Xn141_1 Xn141_2
theorem Xt141 : Text Try.prog 141 Xn141_0 6 1 [.t 2] := ⟨⟨Try.f141, [], Try.func141, by kernel_rfl, by kernel_rfl, by kernel_rfl, by kernel_rfl⟩⟩
def Xn142_1 : C := regL [0, 1] none [⟨some 4, .mv (.const (.bool false)), none⟩]
def Xn142_3 : C := regL [4] none [⟨some 5, .mv (.tmp 0), none⟩, ⟨some 6, .mv (.tmp 1), none⟩, ⟨some 7, .call 149 [.tmp 5, .tmp 6], none⟩, ⟨some 8, .bin 3 .geq (.tmp 7) (.const (.int .i64 0)), none⟩, ⟨some 4, .mv (.tmp 8), none⟩]
def Xn142_2 : C := .seq Xn142_3 .ret
def Xn142_0 : C := .seq Xn142_1 Xn142_2
theorem Xt142 : Text Try.prog 142 Xn142_0 9 2 [.t 4] := ⟨⟨Try.f142, [], Try.func142, by kernel_rfl, by kernel_rfl, by kernel_rfl, by kernel_rfl⟩⟩
def Xn143_1 : C := regL [0, 1] none [⟨some 4, .mv (.const (.int .u64 0)), none⟩, ⟨some 5, .mv (.const (.int .u64 0)), none⟩]
def Xn143_3 : C := regL [0, 1, 6] none [⟨some 14, .mv (.tmp 0), none⟩, ⟨some 15, .bin 170 .and (.tmp 14) (.const (.int .u64 4294967295)), none⟩, ⟨some 6, .mv (.tmp 15), none⟩]
def Xn143_5 : C := regL [0, 1, 6, 7] none [⟨some 16, .mv (.tmp 0), none⟩, ⟨some 17, .bin 170 .shr (.tmp 16) (.const (.int .u64 32)), none⟩, ⟨some 7, .mv (.tmp 17), none⟩]
def Xn143_7 : C := regL [0, 1, 6, 7, 8] none [⟨some 18, .mv (.tmp 1), none⟩, ⟨some 19, .bin 170 .and (.tmp 18) (.const (.int .u64 4294967295)), none⟩, ⟨some 8, .mv (.tmp 19), none⟩]
def Xn143_9 : C := regL [0, 1, 6, 7, 8, 9] none [⟨some 20, .mv (.tmp 1), none⟩, ⟨some 21, .bin 170 .shr (.tmp 20) (.const (.int .u64 32)), none⟩, ⟨some 9, .mv (.tmp 21), none⟩]
def Xn143_11 : C := regL [0, 1, 6, 7, 8, 9, 10] none [⟨some 22, .mv (.tmp 6), none⟩, ⟨some 23, .mv (.tmp 8), none⟩, ⟨some 24, .bin 170 .mul (.tmp 22) (.tmp 23), none⟩, ⟨some 10, .mv (.tmp 24), none⟩]
def Xn143_13 : C := regL [0, 1, 6, 7, 9, 11] none [⟨some 25, .mv (.tmp 7), none⟩, ⟨some 26, .mv (.tmp 8), none⟩, ⟨some 27, .bin 170 .mul (.tmp 25) (.tmp 26), none⟩, ⟨some 28, .mv (.tmp 10), none⟩, ⟨some 29, .bin 170 .shr (.tmp 28) (.const (.int .u64 32)), none⟩, ⟨some 30, .bin 170 .add (.tmp 27) (.tmp 29), none⟩, ⟨some 11, .mv (.tmp 30), none⟩]
def Xn143_15 : C := regL [0, 1, 6, 7, 9, 11, 12] none [⟨some 31, .mv (.tmp 11), none⟩, ⟨some 32, .bin 170 .and (.tmp 31) (.const (.int .u64 4294967295)), none⟩, ⟨some 12, .mv (.tmp 32), none⟩]
def Xn143_17 : C := regL [0, 1, 6, 7, 9, 12, 13] none [⟨some 33, .mv (.tmp 11), none⟩, ⟨some 34, .bin 170 .shr (.tmp 33) (.const (.int .u64 32)), none⟩, ⟨some 13, .mv (.tmp 34), none⟩]
def Xn143_19 : C := regL [0, 1, 7, 9, 12, 13] none [⟨some 35, .mv (.tmp 12), none⟩, ⟨some 36, .mv (.tmp 6), none⟩, ⟨some 37, .mv (.tmp 9), none⟩, ⟨some 38, .bin 170 .mul (.tmp 36) (.tmp 37), none⟩, ⟨some 39, .bin 170 .add (.tmp 35) (.tmp 38), none⟩, ⟨some 12, .mv (.tmp 39), none⟩]
def Xn143_21 : C := regL [0, 1, 4] none [⟨some 40, .mv (.tmp 7), none⟩, ⟨some 41, .mv (.tmp 9), none⟩, ⟨some 42, .bin 170 .mul (.tmp 40) (.tmp 41), none⟩, ⟨some 43, .mv (.tmp 13), none⟩, ⟨some 44, .bin 170 .add (.tmp 42) (.tmp 43), none⟩, ⟨some 45, .mv (.tmp 12), none⟩, ⟨some 46, .bin 170 .shr (.tmp 45) (.const (.int .u64 32)), none⟩, ⟨some 47, .bin 170 .add (.tmp 44) (.tmp 46), none⟩, ⟨some 4, .mv (.tmp 47), none⟩]
def Xn143_23 : C := regL [4, 5] none [⟨some 48, .mv (.tmp 0), none⟩, ⟨some 49, .mv (.tmp 1), none⟩, ⟨some 50, .bin 170 .mul (.tmp 48) (.tmp 49), none⟩, ⟨some 5, .mv (.tmp 50), none⟩]
def Xn143_22 : C := .seq Xn143_23 .ret
def Xn143_20 : C := .seq Xn143_21 Xn143_22
def Xn143_18 : C := .seq Xn143_19 Xn143_20
def Xn143_16 : C := .seq Xn143_17 Xn143_18
def Xn143_14 : C := .seq Xn143_15 Xn143_16
def Xn143_12 : C := .seq Xn143_13 Xn143_14
def Xn143_10 : C := .seq Xn143_11 Xn143_12
def Xn143_8 : C := .seq Xn143_9 Xn143_10
def Xn143_6 : C := .seq Xn143_7 Xn143_8
def Xn143_4 : C := .seq Xn143_5 Xn143_6
def Xn143_2 : C := .seq Xn143_3 Xn143_4
def Xn143_0 : C := .seq Xn143_1 Xn143_2
theorem Xt143 : Text Try.prog 143 Xn143_0 51 2 [.t 4, .t 5] := ⟨⟨Try.f143, [], Try.func143, by kernel_rfl, by kernel_rfl, by kernel_rfl, by kernel_rfl⟩⟩
def Xn144_1 : C := regL [0, 1, 2] none [⟨some 6, .mv (.const (.int .u64 0)), none⟩, ⟨some 7, .mv (.const (.int .u64 0)), none⟩]
def Xn144_4 : C := regL [0, 1, 2, 20] none [⟨some 19, .mv (.tmp 2), none⟩, ⟨some 20, .bin 170 .eql (.tmp 19) (.const (.int .u64 0)), none⟩]
def Xn144_6 : C := regL [0, 1, 2] none [⟨some 21, .ld 183 1 false (.global 0), none⟩, ⟨none, .dead, none⟩]
def Xn144_5 : C := .cond (.tmp 20) Xn144_6 .skip
def Xn144_3 : C := .seq Xn144_4 Xn144_5
def Xn144_10 : C := regL [0, 1, 2, 24] none [⟨some 22, .mv (.tmp 2), none⟩, ⟨some 23, .mv (.tmp 0), none⟩, ⟨some 24, .bin 170 .leq (.tmp 22) (.tmp 23), none⟩]
def Xn144_12 : C := regL [0, 1, 2] none [⟨some 25, .ld 183 1 false (.global 1), none⟩, ⟨none, .dead, none⟩]
def Xn144_11 : C := .cond (.tmp 24) Xn144_12 .skip
def Xn144_9 : C := .seq Xn144_10 Xn144_11
def Xn144_16 : C := regL [0, 1, 2, 27] none [⟨some 26, .mv (.tmp 0), none⟩, ⟨some 27, .bin 170 .eql (.tmp 26) (.const (.int .u64 0)), none⟩]
def Xn144_19 : C := regL [6, 7] (some [0, 0, 3, 0, 0, 24, 7, 127]) [⟨some 28, .mv (.tmp 1), none⟩, ⟨some 29, .mv (.tmp 2), none⟩, ⟨some 30, .bin 170 .quo (.tmp 28) (.tmp 29), none⟩, ⟨some 31, .mv (.tmp 1), none⟩, ⟨some 32, .mv (.tmp 2), none⟩, ⟨some 33, .bin 170 .rem (.tmp 31) (.tmp 32), none⟩, ⟨some 6, .mv (.tmp 30), none⟩, ⟨some 7, .mv (.tmp 33), none⟩]
def Xn144_18 : C := .seq Xn144_19 .ret
def Xn144_17 : C := .cond (.tmp 27) Xn144_18 .skip
def Xn144_15 : C := .seq Xn144_16 Xn144_17
def Xn144_23 : C := regL [0, 1, 2, 8] none [⟨some 34, .mv (.tmp 2), none⟩, ⟨some 35, .call 150 [.tmp 34], none⟩, ⟨some 36, .cvt .u64 (.tmp 35), none⟩, ⟨some 8, .mv (.tmp 36), none⟩]
def Xn144_25 : C := regL [0, 1, 2, 8] none [⟨some 37, .mv (.tmp 2), none⟩, ⟨some 38, .mv (.tmp 8), none⟩, ⟨some 39, .bin 170 .shl (.tmp 37) (.tmp 38), none⟩, ⟨some 2, .mv (.tmp 39), none⟩]
def Xn144_27 : C := regL [0, 1, 2, 8, 9] none [⟨some 40, .mv (.tmp 2), none⟩, ⟨some 41, .bin 170 .shr (.tmp 40) (.const (.int .u64 32)), none⟩, ⟨some 9, .mv (.tmp 41), none⟩]
def Xn144_29 : C := regL [0, 1, 2, 8, 9, 10] none [⟨some 42, .mv (.tmp 2), none⟩, ⟨some 43, .bin 170 .and (.tmp 42) (.const (.int .u64 4294967295)), none⟩, ⟨some 10, .mv (.tmp 43), none⟩]
def Xn144_31 : C := regL [1, 2, 8, 9, 10, 11] none [⟨some 44, .mv (.tmp 0), none⟩, ⟨some 45, .mv (.tmp 8), none⟩, ⟨some 46, .bin 170 .shl (.tmp 44) (.tmp 45), none⟩, ⟨some 47, .mv (.tmp 1), none⟩, ⟨some 48, .mv (.tmp 8), none⟩, ⟨some 49, .bin 157 .sub (.const (.int .u64 64)) (.tmp 48), none⟩, ⟨some 50, .bin 170 .shr (.tmp 47) (.tmp 49), none⟩, ⟨some 51, .bin 170 .or (.tmp 46) (.tmp 50), none⟩, ⟨some 11, .mv (.tmp 51), none⟩]
def Xn144_33 : C := regL [2, 8, 9, 10, 11, 12] none [⟨some 52, .mv (.tmp 1), none⟩, ⟨some 53, .mv (.tmp 8), none⟩, ⟨some 54, .bin 170 .shl (.tmp 52) (.tmp 53), none⟩, ⟨some 12, .mv (.tmp 54), none⟩]
def Xn144_35 : C := regL [2, 8, 9, 10, 11, 12, 13] none [⟨some 55, .mv (.tmp 12), none⟩, ⟨some 56, .bin 170 .shr (.tmp 55) (.const (.int .u64 32)), none⟩, ⟨some 13, .mv (.tmp 56), none⟩]
def Xn144_37 : C := regL [2, 8, 9, 10, 11, 13, 14] none [⟨some 57, .mv (.tmp 12), none⟩, ⟨some 58, .bin 170 .and (.tmp 57) (.const (.int .u64 4294967295)), none⟩, ⟨some 14, .mv (.tmp 58), none⟩]
def Xn144_39 : C := regL [2, 8, 9, 10, 11, 13, 14, 15] none [⟨some 59, .mv (.tmp 11), none⟩, ⟨some 60, .mv (.tmp 9), none⟩, ⟨some 61, .bin 170 .quo (.tmp 59) (.tmp 60), none⟩, ⟨some 15, .mv (.tmp 61), none⟩]
def Xn144_41 : C := regL [2, 8, 9, 10, 11, 13, 14, 15, 16] none [⟨some 62, .mv (.tmp 11), none⟩, ⟨some 63, .mv (.tmp 15), none⟩, ⟨some 64, .mv (.tmp 9), none⟩, ⟨some 65, .bin 170 .mul (.tmp 63) (.tmp 64), none⟩, ⟨some 66, .bin 170 .sub (.tmp 62) (.tmp 65), none⟩, ⟨some 16, .mv (.tmp 66), none⟩]
def Xn144_47 : C := regL [2, 8, 9, 10, 11, 13, 14, 15, 16, 78] none [⟨some 67, .mv (.tmp 15), none⟩, ⟨some 68, .bin 170 .geq (.tmp 67) (.const (.int .u64 4294967296)), none⟩, ⟨some 69, .mv (.tmp 68), none⟩, ⟨some 70, .mv (.tmp 15), some (69, false)⟩, ⟨some 71, .mv (.tmp 10), some (69, false)⟩, ⟨some 72, .bin 170 .mul (.tmp 70) (.tmp 71), some (69, false)⟩, ⟨some 73, .mv (.tmp 16), some (69, false)⟩, ⟨some 74, .bin 170 .mul (.const (.int .u64 4294967296)) (.tmp 73), some (69, false)⟩, ⟨some 75, .mv (.tmp 13), some (69, false)⟩, ⟨some 76, .bin 170 .add (.tmp 74) (.tmp 75), some (69, false)⟩, ⟨some 77, .bin 170 .gtr (.tmp 72) (.tmp 76), some (69, false)⟩, ⟨some 78, .pick 69 (.const (.bool true)) (.tmp 77), none⟩]
def Xn144_48 : C := .cond (.tmp 78) .skip (.exit 0)
def Xn144_46 : C := .seq Xn144_47 Xn144_48
def Xn144_53 : C := regL [2, 8, 9, 10, 11, 13, 14, 15, 16] none [⟨some 79, .mv (.tmp 15), none⟩, ⟨some 80, .bin 170 .sub (.tmp 79) (.const (.int .u64 1)), none⟩, ⟨some 15, .mv (.tmp 80), none⟩]
def Xn144_55 : C := regL [2, 8, 9, 10, 11, 13, 14, 15, 16] none [⟨some 81, .mv (.tmp 16), none⟩, ⟨some 82, .mv (.tmp 9), none⟩, ⟨some 83, .bin 170 .add (.tmp 81) (.tmp 82), none⟩, ⟨some 16, .mv (.tmp 83), none⟩]
def Xn144_57 : C := regL [2, 8, 9, 10, 11, 13, 14, 15, 16, 85] none [⟨some 84, .mv (.tmp 16), none⟩, ⟨some 85, .bin 170 .geq (.tmp 84) (.const (.int .u64 4294967296)), none⟩]
def Xn144_58 : C := .cond (.tmp 85) (.exit 0) .skip
def Xn144_56 : C := .seq Xn144_57 Xn144_58
def Xn144_54 : C := .seq Xn144_55 Xn144_56
def Xn144_52 : C := .seq Xn144_53 Xn144_54
def Xn144_51 : C := .block 1 Xn144_52
def Xn144_45 : C := seqL [2, 8, 9, 10, 11, 13, 14, 15, 16] Xn144_46 Xn144_51
/- carried: [15, 16] -/
def Xn144_44 : C := loopL [2, 8, 9, 10, 11, 13, 14, 15, 16] Xn144_45
def Xn144_43 : C := .block 0 Xn144_44
def Xn144_62 : C := regL [2, 8, 9, 10, 14, 15, 17] none [⟨some 86, .mv (.tmp 11), none⟩, ⟨some 87, .bin 170 .mul (.tmp 86) (.const (.int .u64 4294967296)), none⟩, ⟨some 88, .mv (.tmp 13), none⟩, ⟨some 89, .bin 170 .add (.tmp 87) (.tmp 88), none⟩, ⟨some 90, .mv (.tmp 15), none⟩, ⟨some 91, .mv (.tmp 2), none⟩, ⟨some 92, .bin 170 .mul (.tmp 90) (.tmp 91), none⟩, ⟨some 93, .bin 170 .sub (.tmp 89) (.tmp 92), none⟩, ⟨some 17, .mv (.tmp 93), none⟩]
def Xn144_64 : C := regL [2, 8, 9, 10, 14, 15, 17, 18] none [⟨some 94, .mv (.tmp 17), none⟩, ⟨some 95, .mv (.tmp 9), none⟩, ⟨some 96, .bin 170 .quo (.tmp 94) (.tmp 95), none⟩, ⟨some 18, .mv (.tmp 96), none⟩]
def Xn144_66 : C := regL [2, 8, 9, 10, 14, 15, 16, 17, 18] none [⟨some 97, .mv (.tmp 17), none⟩, ⟨some 98, .mv (.tmp 18), none⟩, ⟨some 99, .mv (.tmp 9), none⟩, ⟨some 100, .bin 170 .mul (.tmp 98) (.tmp 99), none⟩, ⟨some 101, .bin 170 .sub (.tmp 97) (.tmp 100), none⟩, ⟨some 16, .mv (.tmp 101), none⟩]
def Xn144_72 : C := regL [2, 8, 9, 10, 14, 15, 16, 17, 18, 113] none [⟨some 102, .mv (.tmp 18), none⟩, ⟨some 103, .bin 170 .geq (.tmp 102) (.const (.int .u64 4294967296)), none⟩, ⟨some 104, .mv (.tmp 103), none⟩, ⟨some 105, .mv (.tmp 18), some (104, false)⟩, ⟨some 106, .mv (.tmp 10), some (104, false)⟩, ⟨some 107, .bin 170 .mul (.tmp 105) (.tmp 106), some (104, false)⟩, ⟨some 108, .mv (.tmp 16), some (104, false)⟩, ⟨some 109, .bin 170 .mul (.const (.int .u64 4294967296)) (.tmp 108), some (104, false)⟩, ⟨some 110, .mv (.tmp 14), some (104, false)⟩, ⟨some 111, .bin 170 .add (.tmp 109) (.tmp 110), some (104, false)⟩, ⟨some 112, .bin 170 .gtr (.tmp 107) (.tmp 111), some (104, false)⟩, ⟨some 113, .pick 104 (.const (.bool true)) (.tmp 112), none⟩]
def Xn144_73 : C := .cond (.tmp 113) .skip (.exit 2)
def Xn144_71 : C := .seq Xn144_72 Xn144_73
def Xn144_78 : C := regL [2, 8, 9, 10, 14, 15, 16, 17, 18] none [⟨some 114, .mv (.tmp 18), none⟩, ⟨some 115, .bin 170 .sub (.tmp 114) (.const (.int .u64 1)), none⟩, ⟨some 18, .mv (.tmp 115), none⟩]
def Xn144_80 : C := regL [2, 8, 9, 10, 14, 15, 16, 17, 18] none [⟨some 116, .mv (.tmp 16), none⟩, ⟨some 117, .mv (.tmp 9), none⟩, ⟨some 118, .bin 170 .add (.tmp 116) (.tmp 117), none⟩, ⟨some 16, .mv (.tmp 118), none⟩]
def Xn144_82 : C := regL [2, 8, 9, 10, 14, 15, 16, 17, 18, 120] none [⟨some 119, .mv (.tmp 16), none⟩, ⟨some 120, .bin 170 .geq (.tmp 119) (.const (.int .u64 4294967296)), none⟩]
def Xn144_83 : C := .cond (.tmp 120) (.exit 2) .skip
def Xn144_81 : C := .seq Xn144_82 Xn144_83
def Xn144_79 : C := .seq Xn144_80 Xn144_81
def Xn144_77 : C := .seq Xn144_78 Xn144_79
def Xn144_76 : C := .block 3 Xn144_77
def Xn144_70 : C := seqL [2, 8, 9, 10, 14, 15, 16, 17, 18] Xn144_71 Xn144_76
/- carried: [16, 18] -/
def Xn144_69 : C := loopL [2, 8, 9, 10, 14, 15, 16, 17, 18] Xn144_70
def Xn144_68 : C := .block 2 Xn144_69
def Xn144_87 : C := regL [6, 7] none [⟨some 121, .mv (.tmp 15), none⟩, ⟨some 122, .bin 170 .mul (.tmp 121) (.const (.int .u64 4294967296)), none⟩, ⟨some 123, .mv (.tmp 18), none⟩, ⟨some 124, .bin 170 .add (.tmp 122) (.tmp 123), none⟩, ⟨some 125, .mv (.tmp 17), none⟩, ⟨some 126, .bin 170 .mul (.tmp 125) (.const (.int .u64 4294967296)), none⟩, ⟨some 127, .mv (.tmp 14), none⟩, ⟨some 128, .bin 170 .add (.tmp 126) (.tmp 127), none⟩, ⟨some 129, .mv (.tmp 18), none⟩, ⟨some 130, .mv (.tmp 2), none⟩, ⟨some 131, .bin 170 .mul (.tmp 129) (.tmp 130), none⟩, ⟨some 132, .bin 170 .sub (.tmp 128) (.tmp 131), none⟩, ⟨some 133, .mv (.tmp 8), none⟩, ⟨some 134, .bin 170 .shr (.tmp 132) (.tmp 133), none⟩, ⟨some 6, .mv (.tmp 124), none⟩, ⟨some 7, .mv (.tmp 134), none⟩]
def Xn144_86 : C := .seq Xn144_87 .ret
def Xn144_67 : C := seqL [2, 8, 14, 15, 17, 18] Xn144_68 Xn144_86
def Xn144_65 : C := .seq Xn144_66 Xn144_67
def Xn144_63 : C := .seq Xn144_64 Xn144_65
def Xn144_61 : C := .seq Xn144_62 Xn144_63
def Xn144_42 : C := seqL [2, 8, 9, 10, 11, 13, 14, 15] Xn144_43 Xn144_61
def Xn144_40 : C := .seq Xn144_41 Xn144_42
def Xn144_38 : C := .seq Xn144_39 Xn144_40
def Xn144_36 : C := .seq Xn144_37 Xn144_38
def Xn144_34 : C := .seq Xn144_35 Xn144_36
def Xn144_32 : C := .seq Xn144_33 Xn144_34
def Xn144_30 : C := .seq Xn144_31 Xn144_32
def Xn144_28 : C := .seq Xn144_29 Xn144_30
def Xn144_26 : C := .seq Xn144_27 Xn144_28
def Xn144_24 : C := .seq Xn144_25 Xn144_26
def Xn144_22 : C := .seq Xn144_23 Xn144_24
def Xn144_14 : C := seqL [0, 1, 2] Xn144_15 Xn144_22
def Xn144_8 : C := seqL [0, 1, 2] Xn144_9 Xn144_14
def Xn144_2 : C := seqL [0, 1, 2] Xn144_3 Xn144_8
def Xn144_0 : C := .seq Xn144_1 Xn144_2
theorem Xt144 : Text Try.prog 144 Xn144_0 135 3 [.t 6, .t 7] := ⟨⟨Try.f144, [], Try.func144, by kernel_rfl, by kernel_rfl, by kernel_rfl, by kernel_rfl⟩⟩
def Xn147_1 : C := regL [0, 1, 2, 3, 8] none [⟨some 10, .mv (.tmp 1), none⟩, ⟨some 11, .bin 3 .add (.tmp 10) (.const (.int .i64 1)), none⟩, ⟨some 8, .mv (.tmp 11), none⟩]
def Xn147_6 : C := regL [0, 1, 2, 3, 8, 14] none [⟨some 12, .mv (.tmp 8), none⟩, ⟨some 13, .mv (.tmp 2), none⟩, ⟨some 14, .bin 3 .lss (.tmp 12) (.tmp 13), none⟩]
def Xn147_7 : C := .cond (.tmp 14) .skip (.exit 0)
def Xn147_5 : C := .seq Xn147_6 Xn147_7
def Xn147_13 : C := regL [0, 1, 2, 3, 8, 9] none [⟨some 17, .mv (.tmp 8), none⟩, ⟨some 9, .mv (.tmp 17), none⟩]
def Xn147_18 : C := regL [0, 1, 2, 3, 8, 9, 34] (some [0, 0, 3, 7, 15, 15, 15, 111, 239, 15, 15, 1039, 3599, 7695, 16383, 32767, 65535]) [⟨some 18, .mv (.tmp 9), none⟩, ⟨some 19, .mv (.tmp 1), none⟩, ⟨some 20, .bin 3 .gtr (.tmp 18) (.tmp 19), none⟩, ⟨some 21, .mv (.tmp 20), none⟩, ⟨some 22, .mv (.tmp 3), some (21, true)⟩, ⟨some 23, .mv (.tmp 0), some (21, true)⟩, ⟨some 24, .mv (.tmp 9), some (21, true)⟩, ⟨some 25, .ia 1 (.tmp 23) (.tmp 24), some (21, true)⟩, ⟨some 26, .ld 3 1 false (.tmp 25), some (21, true)⟩, ⟨some 27, .mv (.tmp 0), some (21, true)⟩, ⟨some 28, .mv (.tmp 9), some (21, true)⟩, ⟨some 29, .bin 3 .sub (.tmp 28) (.const (.int .i64 1)), some (21, true)⟩, ⟨some 30, .ia 1 (.tmp 27) (.tmp 29), some (21, true)⟩, ⟨some 31, .ld 3 1 false (.tmp 30), some (21, true)⟩, ⟨some 32, .callv (.tmp 22) [.tmp 26, .tmp 31], some (21, true)⟩, ⟨some 33, .bin 3 .lss (.tmp 32) (.const (.int .i64 0)), some (21, true)⟩, ⟨some 34, .pick 21 (.tmp 33) (.const (.bool false)), none⟩]
def Xn147_19 : C := .cond (.tmp 34) .skip (.exit 2)
def Xn147_17 : C := .seq Xn147_18 Xn147_19
def Xn147_24 : C := regL [0, 1, 2, 3, 8, 9] (some [0, 0, 0, 0, 8, 0, 0, 64, 224, 480, 0, 0, 3072, 7168, 16355, 32739, 65535, 131071]) [⟨some 37, .mv (.tmp 0), none⟩, ⟨some 38, .mv (.tmp 9), none⟩, ⟨some 39, .mv (.tmp 0), none⟩, ⟨some 40, .mv (.tmp 9), none⟩, ⟨some 41, .bin 3 .sub (.tmp 40) (.const (.int .i64 1)), none⟩, ⟨some 42, .mv (.tmp 0), none⟩, ⟨some 43, .mv (.tmp 9), none⟩, ⟨some 44, .bin 3 .sub (.tmp 43) (.const (.int .i64 1)), none⟩, ⟨some 45, .ia 1 (.tmp 42) (.tmp 44), none⟩, ⟨some 46, .ld 3 1 false (.tmp 45), none⟩, ⟨some 47, .mv (.tmp 0), none⟩, ⟨some 48, .mv (.tmp 9), none⟩, ⟨some 49, .ia 1 (.tmp 47) (.tmp 48), none⟩, ⟨some 50, .ld 3 1 false (.tmp 49), none⟩, ⟨some 51, .ia 1 (.tmp 37) (.tmp 38), none⟩, ⟨none, .st 3 1 (.tmp 51) (.tmp 46), none⟩, ⟨some 52, .ia 1 (.tmp 39) (.tmp 41), none⟩, ⟨none, .st 3 1 (.tmp 52) (.tmp 50), none⟩]
def Xn147_23 : C := .block 3 Xn147_24
def Xn147_25 : C := regL [0, 1, 2, 3, 8, 9] none [⟨some 35, .mv (.tmp 9), none⟩, ⟨some 36, .bin 3 .sub (.tmp 35) (.const (.int .i64 1)), none⟩, ⟨some 9, .mv (.tmp 36), none⟩]
def Xn147_22 : C := seqL [0, 1, 2, 3, 8, 9] Xn147_23 Xn147_25
def Xn147_16 : C := seqL [0, 1, 2, 3, 8, 9] Xn147_17 Xn147_22
/- carried: [9] -/
def Xn147_15 : C := loopL [0, 1, 2, 3, 8, 9] Xn147_16
def Xn147_14 : C := .block 2 Xn147_15
def Xn147_12 : C := .seq Xn147_13 Xn147_14
def Xn147_11 : C := .block 1 Xn147_12
def Xn147_26 : C := regL [0, 1, 2, 3, 8] none [⟨some 15, .mv (.tmp 8), none⟩, ⟨some 16, .bin 3 .add (.tmp 15) (.const (.int .i64 1)), none⟩, ⟨some 8, .mv (.tmp 16), none⟩]
def Xn147_10 : C := seqL [0, 1, 2, 3, 8] Xn147_11 Xn147_26
def Xn147_4 : C := seqL [0, 1, 2, 3, 8] Xn147_5 Xn147_10
/- carried: [8] -/
def Xn147_3 : C := loopL [0, 1, 2, 3, 8] Xn147_4
def Xn147_2 : C := .block 0 Xn147_3
def Xn147_0 : C := .seq Xn147_1 Xn147_2
theorem Xt147 : Text Try.prog 147 Xn147_0 53 4 [] := ⟨⟨Try.f147, [], Try.func147, by kernel_rfl, by kernel_rfl, by kernel_rfl, by kernel_rfl⟩⟩
def Xn148_2 : C := regL [0, 1, 2, 3, 4, 28] none [⟨some 25, .mv (.tmp 2), none⟩, ⟨some 26, .mv (.tmp 1), none⟩, ⟨some 27, .bin 3 .sub (.tmp 25) (.tmp 26), none⟩, ⟨some 28, .bin 3 .eql (.tmp 27) (.const (.int .i64 1)), none⟩]
def Xn148_5 : C := regL [0, 1, 3, 4, 10] none [⟨some 29, .mv (.tmp 2), none⟩, ⟨some 10, .mv (.tmp 29), none⟩]
def Xn148_7 : C := regL [0, 1, 4, 10, 11] none [⟨some 30, .mv (.tmp 3), none⟩, ⟨some 11, .mv (.tmp 30), none⟩]
def Xn148_13 : C := regL [0, 1, 4, 10, 11, 33] none [⟨some 31, .mv (.tmp 10), none⟩, ⟨some 32, .mv (.tmp 11), none⟩, ⟨some 33, .bin 3 .lss (.tmp 31) (.tmp 32), none⟩]
def Xn148_14 : C := .cond (.tmp 33) .skip (.exit 0)
def Xn148_12 : C := .seq Xn148_13 Xn148_14
def Xn148_19 : C := regL [0, 1, 4, 10, 11, 12] none [⟨some 34, .mv (.tmp 10), none⟩, ⟨some 35, .mv (.tmp 11), none⟩, ⟨some 36, .bin 3 .add (.tmp 34) (.tmp 35), none⟩, ⟨some 37, .cvt .u64 (.tmp 36), none⟩, ⟨some 38, .bin 157 .shr (.tmp 37) (.const (.int .u64 1)), none⟩, ⟨some 39, .cvt .i64 (.tmp 38), none⟩, ⟨some 12, .mv (.tmp 39), none⟩]
def Xn148_21 : C := regL [0, 1, 4, 10, 11, 12, 50] (some [0, 0, 0, 6, 14, 0, 0, 96, 224, 511, 1023]) [⟨some 40, .mv (.tmp 4), none⟩, ⟨some 41, .mv (.tmp 0), none⟩, ⟨some 42, .mv (.tmp 12), none⟩, ⟨some 43, .ia 1 (.tmp 41) (.tmp 42), none⟩, ⟨some 44, .ld 3 1 false (.tmp 43), none⟩, ⟨some 45, .mv (.tmp 0), none⟩, ⟨some 46, .mv (.tmp 1), none⟩, ⟨some 47, .ia 1 (.tmp 45) (.tmp 46), none⟩, ⟨some 48, .ld 3 1 false (.tmp 47), none⟩, ⟨some 49, .callv (.tmp 40) [.tmp 44, .tmp 48], none⟩, ⟨some 50, .bin 3 .lss (.tmp 49) (.const (.int .i64 0)), none⟩]
def Xn148_23 : C := regL [0, 1, 4, 10, 11] none [⟨some 51, .mv (.tmp 12), none⟩, ⟨some 52, .bin 3 .add (.tmp 51) (.const (.int .i64 1)), none⟩, ⟨some 10, .mv (.tmp 52), none⟩]
def Xn148_24 : C := regL [0, 1, 4, 10, 11] none [⟨some 53, .mv (.tmp 12), none⟩, ⟨some 11, .mv (.tmp 53), none⟩]
def Xn148_22 : C := .cond (.tmp 50) Xn148_23 Xn148_24
def Xn148_20 : C := .seq Xn148_21 Xn148_22
def Xn148_18 : C := .seq Xn148_19 Xn148_20
def Xn148_17 : C := .block 1 Xn148_18
def Xn148_11 : C := seqL [0, 1, 4, 10, 11] Xn148_12 Xn148_17
/- carried: [10, 11] -/
def Xn148_10 : C := loopL [0, 1, 4, 10, 11] Xn148_11
def Xn148_9 : C := .block 0 Xn148_10
def Xn148_27 : C := regL [0, 10, 13] none [⟨some 54, .mv (.tmp 1), none⟩, ⟨some 13, .mv (.tmp 54), none⟩]
def Xn148_32 : C := regL [0, 10, 13, 58] none [⟨some 55, .mv (.tmp 13), none⟩, ⟨some 56, .mv (.tmp 10), none⟩, ⟨some 57, .bin 3 .sub (.tmp 56) (.const (.int .i64 1)), none⟩, ⟨some 58, .bin 3 .lss (.tmp 55) (.tmp 57), none⟩]
def Xn148_33 : C := .cond (.tmp 58) .skip (.exit 2)
def Xn148_31 : C := .seq Xn148_32 Xn148_33
def Xn148_38 : C := regL [0, 10, 13] (some [0, 0, 0, 0, 8, 0, 0, 64, 224, 480, 0, 0, 3072, 7168, 16355, 32739, 65535, 131071]) [⟨some 61, .mv (.tmp 0), none⟩, ⟨some 62, .mv (.tmp 13), none⟩, ⟨some 63, .mv (.tmp 0), none⟩, ⟨some 64, .mv (.tmp 13), none⟩, ⟨some 65, .bin 3 .add (.tmp 64) (.const (.int .i64 1)), none⟩, ⟨some 66, .mv (.tmp 0), none⟩, ⟨some 67, .mv (.tmp 13), none⟩, ⟨some 68, .bin 3 .add (.tmp 67) (.const (.int .i64 1)), none⟩, ⟨some 69, .ia 1 (.tmp 66) (.tmp 68), none⟩, ⟨some 70, .ld 3 1 false (.tmp 69), none⟩, ⟨some 71, .mv (.tmp 0), none⟩, ⟨some 72, .mv (.tmp 13), none⟩, ⟨some 73, .ia 1 (.tmp 71) (.tmp 72), none⟩, ⟨some 74, .ld 3 1 false (.tmp 73), none⟩, ⟨some 75, .ia 1 (.tmp 61) (.tmp 62), none⟩, ⟨none, .st 3 1 (.tmp 75) (.tmp 70), none⟩, ⟨some 76, .ia 1 (.tmp 63) (.tmp 65), none⟩, ⟨none, .st 3 1 (.tmp 76) (.tmp 74), none⟩]
def Xn148_37 : C := .block 3 Xn148_38
def Xn148_39 : C := regL [0, 10, 13] none [⟨some 59, .mv (.tmp 13), none⟩, ⟨some 60, .bin 3 .add (.tmp 59) (.const (.int .i64 1)), none⟩, ⟨some 13, .mv (.tmp 60), none⟩]
def Xn148_36 : C := seqL [0, 10, 13] Xn148_37 Xn148_39
def Xn148_30 : C := seqL [0, 10, 13] Xn148_31 Xn148_36
/- carried: [13] -/
def Xn148_29 : C := loopL [0, 10, 13] Xn148_30
def Xn148_28 : C := .block 2 Xn148_29
def Xn148_26 : C := .seq Xn148_27 Xn148_28
def Xn148_25 : C := seqL [] Xn148_26 .ret
def Xn148_8 : C := seqL [0, 1, 10] Xn148_9 Xn148_25
def Xn148_6 : C := .seq Xn148_7 Xn148_8
def Xn148_4 : C := .seq Xn148_5 Xn148_6
def Xn148_3 : C := .cond (.tmp 28) Xn148_4 .skip
def Xn148_1 : C := .seq Xn148_2 Xn148_3
def Xn148_44 : C := regL [0, 1, 2, 3, 4, 80] none [⟨some 77, .mv (.tmp 3), none⟩, ⟨some 78, .mv (.tmp 2), none⟩, ⟨some 79, .bin 3 .sub (.tmp 77) (.tmp 78), none⟩, ⟨some 80, .bin 3 .eql (.tmp 79) (.const (.int .i64 1)), none⟩]
def Xn148_47 : C := regL [0, 2, 4, 14] none [⟨some 81, .mv (.tmp 1), none⟩, ⟨some 14, .mv (.tmp 81), none⟩]
def Xn148_49 : C := regL [0, 2, 4, 14, 15] none [⟨some 82, .mv (.tmp 2), none⟩, ⟨some 15, .mv (.tmp 82), none⟩]
def Xn148_55 : C := regL [0, 2, 4, 14, 15, 85] none [⟨some 83, .mv (.tmp 14), none⟩, ⟨some 84, .mv (.tmp 15), none⟩, ⟨some 85, .bin 3 .lss (.tmp 83) (.tmp 84), none⟩]
def Xn148_56 : C := .cond (.tmp 85) .skip (.exit 4)
def Xn148_54 : C := .seq Xn148_55 Xn148_56
def Xn148_61 : C := regL [0, 2, 4, 14, 15, 16] none [⟨some 86, .mv (.tmp 14), none⟩, ⟨some 87, .mv (.tmp 15), none⟩, ⟨some 88, .bin 3 .add (.tmp 86) (.tmp 87), none⟩, ⟨some 89, .cvt .u64 (.tmp 88), none⟩, ⟨some 90, .bin 157 .shr (.tmp 89) (.const (.int .u64 1)), none⟩, ⟨some 91, .cvt .i64 (.tmp 90), none⟩, ⟨some 16, .mv (.tmp 91), none⟩]
def Xn148_63 : C := regL [0, 2, 4, 14, 15, 16, 103] (some [0, 0, 0, 6, 14, 0, 0, 96, 224, 511, 1023, 2047]) [⟨some 92, .mv (.tmp 4), none⟩, ⟨some 93, .mv (.tmp 0), none⟩, ⟨some 94, .mv (.tmp 2), none⟩, ⟨some 95, .ia 1 (.tmp 93) (.tmp 94), none⟩, ⟨some 96, .ld 3 1 false (.tmp 95), none⟩, ⟨some 97, .mv (.tmp 0), none⟩, ⟨some 98, .mv (.tmp 16), none⟩, ⟨some 99, .ia 1 (.tmp 97) (.tmp 98), none⟩, ⟨some 100, .ld 3 1 false (.tmp 99), none⟩, ⟨some 101, .callv (.tmp 92) [.tmp 96, .tmp 100], none⟩, ⟨some 102, .bin 3 .lss (.tmp 101) (.const (.int .i64 0)), none⟩, ⟨some 103, .un .not (.tmp 102), none⟩]
def Xn148_65 : C := regL [0, 2, 4, 14, 15] none [⟨some 104, .mv (.tmp 16), none⟩, ⟨some 105, .bin 3 .add (.tmp 104) (.const (.int .i64 1)), none⟩, ⟨some 14, .mv (.tmp 105), none⟩]
def Xn148_66 : C := regL [0, 2, 4, 14, 15] none [⟨some 106, .mv (.tmp 16), none⟩, ⟨some 15, .mv (.tmp 106), none⟩]
def Xn148_64 : C := .cond (.tmp 103) Xn148_65 Xn148_66
def Xn148_62 : C := .seq Xn148_63 Xn148_64
def Xn148_60 : C := .seq Xn148_61 Xn148_62
def Xn148_59 : C := .block 5 Xn148_60
def Xn148_53 : C := seqL [0, 2, 4, 14, 15] Xn148_54 Xn148_59
/- carried: [14, 15] -/
def Xn148_52 : C := loopL [0, 2, 4, 14, 15] Xn148_53
def Xn148_51 : C := .block 4 Xn148_52
def Xn148_69 : C := regL [0, 14, 17] none [⟨some 107, .mv (.tmp 2), none⟩, ⟨some 17, .mv (.tmp 107), none⟩]
def Xn148_74 : C := regL [0, 14, 17, 110] none [⟨some 108, .mv (.tmp 17), none⟩, ⟨some 109, .mv (.tmp 14), none⟩, ⟨some 110, .bin 3 .gtr (.tmp 108) (.tmp 109), none⟩]
def Xn148_75 : C := .cond (.tmp 110) .skip (.exit 6)
def Xn148_73 : C := .seq Xn148_74 Xn148_75
def Xn148_80 : C := regL [0, 14, 17] (some [0, 0, 0, 0, 8, 0, 0, 64, 224, 480, 0, 0, 3072, 7168, 16355, 32739, 65535, 131071]) [⟨some 113, .mv (.tmp 0), none⟩, ⟨some 114, .mv (.tmp 17), none⟩, ⟨some 115, .mv (.tmp 0), none⟩, ⟨some 116, .mv (.tmp 17), none⟩, ⟨some 117, .bin 3 .sub (.tmp 116) (.const (.int .i64 1)), none⟩, ⟨some 118, .mv (.tmp 0), none⟩, ⟨some 119, .mv (.tmp 17), none⟩, ⟨some 120, .bin 3 .sub (.tmp 119) (.const (.int .i64 1)), none⟩, ⟨some 121, .ia 1 (.tmp 118) (.tmp 120), none⟩, ⟨some 122, .ld 3 1 false (.tmp 121), none⟩, ⟨some 123, .mv (.tmp 0), none⟩, ⟨some 124, .mv (.tmp 17), none⟩, ⟨some 125, .ia 1 (.tmp 123) (.tmp 124), none⟩, ⟨some 126, .ld 3 1 false (.tmp 125), none⟩, ⟨some 127, .ia 1 (.tmp 113) (.tmp 114), none⟩, ⟨none, .st 3 1 (.tmp 127) (.tmp 122), none⟩, ⟨some 128, .ia 1 (.tmp 115) (.tmp 117), none⟩, ⟨none, .st 3 1 (.tmp 128) (.tmp 126), none⟩]
def Xn148_79 : C := .block 7 Xn148_80
def Xn148_81 : C := regL [0, 14, 17] none [⟨some 111, .mv (.tmp 17), none⟩, ⟨some 112, .bin 3 .sub (.tmp 111) (.const (.int .i64 1)), none⟩, ⟨some 17, .mv (.tmp 112), none⟩]
def Xn148_78 : C := seqL [0, 14, 17] Xn148_79 Xn148_81
def Xn148_72 : C := seqL [0, 14, 17] Xn148_73 Xn148_78
/- carried: [17] -/
def Xn148_71 : C := loopL [0, 14, 17] Xn148_72
def Xn148_70 : C := .block 6 Xn148_71
def Xn148_68 : C := .seq Xn148_69 Xn148_70
def Xn148_67 : C := seqL [] Xn148_68 .ret
def Xn148_50 : C := seqL [0, 2, 14] Xn148_51 Xn148_67
def Xn148_48 : C := .seq Xn148_49 Xn148_50
def Xn148_46 : C := .seq Xn148_47 Xn148_48
def Xn148_45 : C := .cond (.tmp 80) Xn148_46 .skip
def Xn148_43 : C := .seq Xn148_44 Xn148_45
def Xn148_85 : C := regL [0, 1, 2, 3, 4, 18] none [⟨some 129, .mv (.tmp 1), none⟩, ⟨some 130, .mv (.tmp 3), none⟩, ⟨some 131, .bin 3 .add (.tmp 129) (.tmp 130), none⟩, ⟨some 132, .cvt .u64 (.tmp 131), none⟩, ⟨some 133, .bin 157 .shr (.tmp 132) (.const (.int .u64 1)), none⟩, ⟨some 134, .cvt .i64 (.tmp 133), none⟩, ⟨some 18, .mv (.tmp 134), none⟩]
def Xn148_87 : C := regL [0, 1, 2, 3, 4, 18, 19] none [⟨some 135, .mv (.tmp 18), none⟩, ⟨some 136, .mv (.tmp 2), none⟩, ⟨some 137, .bin 3 .add (.tmp 135) (.tmp 136), none⟩, ⟨some 19, .mv (.tmp 137), none⟩]
def Xn148_89 : C := regL [0, 1, 2, 3, 4, 18, 19] none [⟨some 20, .mv (.const (.int .i64 0)), none⟩, ⟨some 21, .mv (.const (.int .i64 0)), none⟩]
def Xn148_92 : C := regL [0, 1, 2, 3, 4, 18, 19, 140] none [⟨some 138, .mv (.tmp 2), none⟩, ⟨some 139, .mv (.tmp 18), none⟩, ⟨some 140, .bin 3 .gtr (.tmp 138) (.tmp 139), none⟩]
def Xn148_95 : C := regL [0, 1, 2, 3, 4, 18, 19, 20] none [⟨some 141, .mv (.tmp 19), none⟩, ⟨some 142, .mv (.tmp 3), none⟩, ⟨some 143, .bin 3 .sub (.tmp 141) (.tmp 142), none⟩, ⟨some 20, .mv (.tmp 143), none⟩]
def Xn148_96 : C := regL [0, 1, 2, 3, 4, 18, 19, 20, 21] none [⟨some 144, .mv (.tmp 18), none⟩, ⟨some 21, .mv (.tmp 144), none⟩]
def Xn148_94 : C := .seq Xn148_95 Xn148_96
def Xn148_98 : C := regL [0, 1, 2, 3, 4, 18, 19, 20] none [⟨some 145, .mv (.tmp 1), none⟩, ⟨some 20, .mv (.tmp 145), none⟩]
def Xn148_99 : C := regL [0, 1, 2, 3, 4, 18, 19, 20, 21] none [⟨some 146, .mv (.tmp 2), none⟩, ⟨some 21, .mv (.tmp 146), none⟩]
def Xn148_97 : C := .seq Xn148_98 Xn148_99
def Xn148_93 : C := .cond (.tmp 140) Xn148_94 Xn148_97
def Xn148_91 : C := .seq Xn148_92 Xn148_93
def Xn148_101 : C := regL [0, 1, 2, 3, 4, 18, 19, 20, 21, 22] none [⟨some 147, .mv (.tmp 19), none⟩, ⟨some 148, .bin 3 .sub (.tmp 147) (.const (.int .i64 1)), none⟩, ⟨some 22, .mv (.tmp 148), none⟩]
def Xn148_107 : C := regL [0, 1, 2, 3, 4, 18, 19, 20, 21, 22, 151] none [⟨some 149, .mv (.tmp 20), none⟩, ⟨some 150, .mv (.tmp 21), none⟩, ⟨some 151, .bin 3 .lss (.tmp 149) (.tmp 150), none⟩]
def Xn148_108 : C := .cond (.tmp 151) .skip (.exit 8)
def Xn148_106 : C := .seq Xn148_107 Xn148_108
def Xn148_113 : C := regL [0, 1, 2, 3, 4, 18, 19, 20, 21, 22, 23] none [⟨some 152, .mv (.tmp 20), none⟩, ⟨some 153, .mv (.tmp 21), none⟩, ⟨some 154, .bin 3 .add (.tmp 152) (.tmp 153), none⟩, ⟨some 155, .cvt .u64 (.tmp 154), none⟩, ⟨some 156, .bin 157 .shr (.tmp 155) (.const (.int .u64 1)), none⟩, ⟨some 157, .cvt .i64 (.tmp 156), none⟩, ⟨some 23, .mv (.tmp 157), none⟩]
def Xn148_115 : C := regL [0, 1, 2, 3, 4, 18, 19, 20, 21, 22, 23, 171] (some [0, 0, 0, 0, 12, 30, 62, 0, 0, 384, 896, 2047, 4095, 8191]) [⟨some 158, .mv (.tmp 4), none⟩, ⟨some 159, .mv (.tmp 0), none⟩, ⟨some 160, .mv (.tmp 22), none⟩, ⟨some 161, .mv (.tmp 23), none⟩, ⟨some 162, .bin 3 .sub (.tmp 160) (.tmp 161), none⟩, ⟨some 163, .ia 1 (.tmp 159) (.tmp 162), none⟩, ⟨some 164, .ld 3 1 false (.tmp 163), none⟩, ⟨some 165, .mv (.tmp 0), none⟩, ⟨some 166, .mv (.tmp 23), none⟩, ⟨some 167, .ia 1 (.tmp 165) (.tmp 166), none⟩, ⟨some 168, .ld 3 1 false (.tmp 167), none⟩, ⟨some 169, .callv (.tmp 158) [.tmp 164, .tmp 168], none⟩, ⟨some 170, .bin 3 .lss (.tmp 169) (.const (.int .i64 0)), none⟩, ⟨some 171, .un .not (.tmp 170), none⟩]
def Xn148_117 : C := regL [0, 1, 2, 3, 4, 18, 19, 20, 21, 22] none [⟨some 172, .mv (.tmp 23), none⟩, ⟨some 173, .bin 3 .add (.tmp 172) (.const (.int .i64 1)), none⟩, ⟨some 20, .mv (.tmp 173), none⟩]
def Xn148_118 : C := regL [0, 1, 2, 3, 4, 18, 19, 20, 21, 22] none [⟨some 174, .mv (.tmp 23), none⟩, ⟨some 21, .mv (.tmp 174), none⟩]
def Xn148_116 : C := .cond (.tmp 171) Xn148_117 Xn148_118
def Xn148_114 : C := .seq Xn148_115 Xn148_116
def Xn148_112 : C := .seq Xn148_113 Xn148_114
def Xn148_111 : C := .block 9 Xn148_112
def Xn148_105 : C := seqL [0, 1, 2, 3, 4, 18, 19, 20, 21, 22] Xn148_106 Xn148_111
/- carried: [20, 21] -/
def Xn148_104 : C := loopL [0, 1, 2, 3, 4, 18, 19, 20, 21, 22] Xn148_105
def Xn148_103 : C := .block 8 Xn148_104
def Xn148_120 : C := regL [0, 1, 2, 3, 4, 18, 20, 24] none [⟨some 175, .mv (.tmp 19), none⟩, ⟨some 176, .mv (.tmp 20), none⟩, ⟨some 177, .bin 3 .sub (.tmp 175) (.tmp 176), none⟩, ⟨some 24, .mv (.tmp 177), none⟩]
def Xn148_123 : C := regL [0, 1, 2, 3, 4, 18, 20, 24, 185] none [⟨some 178, .mv (.tmp 20), none⟩, ⟨some 179, .mv (.tmp 2), none⟩, ⟨some 180, .bin 3 .lss (.tmp 178) (.tmp 179), none⟩, ⟨some 181, .mv (.tmp 180), none⟩, ⟨some 182, .mv (.tmp 2), some (181, true)⟩, ⟨some 183, .mv (.tmp 24), some (181, true)⟩, ⟨some 184, .bin 3 .lss (.tmp 182) (.tmp 183), some (181, true)⟩, ⟨some 185, .pick 181 (.tmp 184) (.const (.bool false)), none⟩]
def Xn148_125 : C := regL [0, 1, 3, 4, 18, 20, 24] none [⟨some 186, .mv (.tmp 0), none⟩, ⟨some 187, .mv (.tmp 20), none⟩, ⟨some 188, .mv (.tmp 2), none⟩, ⟨some 189, .mv (.tmp 24), none⟩, ⟨some 190, .mv (.tmp 4), none⟩, ⟨some 191, .call 152 [.tmp 186, .tmp 187, .tmp 188, .tmp 189, .tmp 190], none⟩]
def Xn148_124 : C := .cond (.tmp 185) Xn148_125 .skip
def Xn148_122 : C := .seq Xn148_123 Xn148_124
def Xn148_129 : C := regL [0, 1, 3, 4, 18, 20, 24, 199] none [⟨some 192, .mv (.tmp 1), none⟩, ⟨some 193, .mv (.tmp 20), none⟩, ⟨some 194, .bin 3 .lss (.tmp 192) (.tmp 193), none⟩, ⟨some 195, .mv (.tmp 194), none⟩, ⟨some 196, .mv (.tmp 20), some (195, true)⟩, ⟨some 197, .mv (.tmp 18), some (195, true)⟩, ⟨some 198, .bin 3 .lss (.tmp 196) (.tmp 197), some (195, true)⟩, ⟨some 199, .pick 195 (.tmp 198) (.const (.bool false)), none⟩]
def Xn148_131 : C := regL [0, 3, 4, 18, 24] none [⟨some 200, .mv (.tmp 0), none⟩, ⟨some 201, .mv (.tmp 1), none⟩, ⟨some 202, .mv (.tmp 20), none⟩, ⟨some 203, .mv (.tmp 18), none⟩, ⟨some 204, .mv (.tmp 4), none⟩, ⟨some 205, .call 148 [.tmp 200, .tmp 201, .tmp 202, .tmp 203, .tmp 204], none⟩]
def Xn148_130 : C := .cond (.tmp 199) Xn148_131 .skip
def Xn148_128 : C := .seq Xn148_129 Xn148_130
def Xn148_134 : C := regL [0, 3, 4, 18, 24, 213] none [⟨some 206, .mv (.tmp 18), none⟩, ⟨some 207, .mv (.tmp 24), none⟩, ⟨some 208, .bin 3 .lss (.tmp 206) (.tmp 207), none⟩, ⟨some 209, .mv (.tmp 208), none⟩, ⟨some 210, .mv (.tmp 24), some (209, true)⟩, ⟨some 211, .mv (.tmp 3), some (209, true)⟩, ⟨some 212, .bin 3 .lss (.tmp 210) (.tmp 211), some (209, true)⟩, ⟨some 213, .pick 209 (.tmp 212) (.const (.bool false)), none⟩]
def Xn148_136 : C := regL [] none [⟨some 214, .mv (.tmp 0), none⟩, ⟨some 215, .mv (.tmp 18), none⟩, ⟨some 216, .mv (.tmp 24), none⟩, ⟨some 217, .mv (.tmp 3), none⟩, ⟨some 218, .mv (.tmp 4), none⟩, ⟨some 219, .call 148 [.tmp 214, .tmp 215, .tmp 216, .tmp 217, .tmp 218], none⟩]
def Xn148_135 : C := .cond (.tmp 213) Xn148_136 .skip
def Xn148_133 : C := .seq Xn148_134 Xn148_135
def Xn148_127 : C := seqL [0, 3, 4, 18, 24] Xn148_128 Xn148_133
def Xn148_121 : C := seqL [0, 1, 3, 4, 18, 20, 24] Xn148_122 Xn148_127
def Xn148_119 : C := .seq Xn148_120 Xn148_121
def Xn148_102 : C := seqL [0, 1, 2, 3, 4, 18, 19, 20] Xn148_103 Xn148_119
def Xn148_100 : C := .seq Xn148_101 Xn148_102
def Xn148_90 : C := seqL [0, 1, 2, 3, 4, 18, 19, 20, 21] Xn148_91 Xn148_100
def Xn148_88 : C := .seq Xn148_89 Xn148_90
def Xn148_86 : C := .seq Xn148_87 Xn148_88
def Xn148_84 : C := .seq Xn148_85 Xn148_86
def Xn148_42 : C := seqL [0, 1, 2, 3, 4] Xn148_43 Xn148_84
def Xn148_0 : C := seqL [0, 1, 2, 3, 4] Xn148_1 Xn148_42
theorem Xt148 : Text Try.prog 148 Xn148_0 220 5 [] := ⟨⟨Try.f148, [], Try.func148, by kernel_rfl, by kernel_rfl, by kernel_rfl, by kernel_rfl⟩⟩
def Xn149_1 : C := regL [0, 1] none [⟨some 4, .mv (.const (.int .i64 0)), none⟩]
def Xn149_4 : C := regL [0, 1, 7, 8] none [⟨some 6, .mv (.tmp 0), none⟩, ⟨some 7, .len (.tmp 6), none⟩, ⟨some 8, .mv (.const (.int .i64 0)), none⟩]
def Xn149_8 : C := regL [0, 1, 7, 8, 9] none [⟨some 9, .bin 3 .lss (.tmp 8) (.tmp 7), none⟩]
def Xn149_10 : C := .cond (.tmp 9) .skip (.exit 0)
def Xn149_16 : C := regL [0, 1, 5, 7, 8] none [⟨some 10, .mv (.tmp 8), none⟩, ⟨some 5, .mv (.tmp 10), none⟩]
def Xn149_18 : C := regL [0, 1, 5, 7, 8, 16] none [⟨some 11, .mv (.tmp 1), none⟩, ⟨some 12, .mv (.tmp 0), none⟩, ⟨some 13, .mv (.tmp 5), none⟩, ⟨some 14, .ia 1 (.tmp 12) (.tmp 13), none⟩, ⟨some 15, .ld 3 1 false (.tmp 14), none⟩, ⟨some 16, .bin 3 .eql (.tmp 11) (.tmp 15), none⟩]
def Xn149_21 : C := regL [4] none [⟨some 17, .mv (.tmp 5), none⟩, ⟨some 4, .mv (.tmp 17), none⟩]
def Xn149_20 : C := .seq Xn149_21 .ret
def Xn149_19 : C := .cond (.tmp 16) Xn149_20 .skip
def Xn149_17 : C := .seq Xn149_18 Xn149_19
def Xn149_15 : C := .seq Xn149_16 Xn149_17
def Xn149_14 : C := .block 1 Xn149_15
def Xn149_24 : C := regL [0, 1, 7, 8] none [⟨some 18, .bin 3 .add (.tmp 8) (.const (.int .i64 1)), none⟩, ⟨some 8, .mv (.tmp 18), none⟩]
def Xn149_13 : C := seqL [0, 1, 7, 8] Xn149_14 Xn149_24
def Xn149_9 : C := seqL [0, 1, 7, 8] Xn149_10 Xn149_13
def Xn149_7 : C := .seq Xn149_8 Xn149_9
/- carried: [8] -/
def Xn149_6 : C := loopL [0, 1, 7, 8] Xn149_7
def Xn149_5 : C := .block 0 Xn149_6
def Xn149_3 : C := .seq Xn149_4 Xn149_5
def Xn149_26 : C := regL [4] none [⟨some 4, .mv (.const (.int .i64 (-1))), none⟩]
def Xn149_25 : C := .seq Xn149_26 .ret
def Xn149_2 : C := seqL [] Xn149_3 Xn149_25
def Xn149_0 : C := .seq Xn149_1 Xn149_2
theorem Xt149 : Text Try.prog 149 Xn149_0 19 2 [.t 4] := ⟨⟨Try.f149, [], Try.func149, by kernel_rfl, by kernel_rfl, by kernel_rfl, by kernel_rfl⟩⟩
def Xn150_1 : C := regL [0] none [⟨some 2, .mv (.const (.int .i64 0)), none⟩]
def Xn150_3 : C := regL [2] none [⟨some 3, .mv (.tmp 0), none⟩, ⟨some 4, .call 153 [.tmp 3], none⟩, ⟨some 5, .bin 3 .sub (.const (.int .i64 64)) (.tmp 4), none⟩, ⟨some 2, .mv (.tmp 5), none⟩]
def Xn150_2 : C := .seq Xn150_3 .ret
def Xn150_0 : C := .seq Xn150_1 Xn150_2
theorem Xt150 : Text Try.prog 150 Xn150_0 6 1 [.t 2] := ⟨⟨Try.f150, [], Try.func150, by kernel_rfl, by kernel_rfl, by kernel_rfl, by kernel_rfl⟩⟩
/- carried: [] -/
def Xn152_1 : C := regL [0, 2, 3, 4, 10] none [⟨some 12, .mv (.tmp 2), none⟩, ⟨some 13, .mv (.tmp 1), none⟩, ⟨some 14, .bin 3 .sub (.tmp 12) (.tmp 13), none⟩, ⟨some 10, .mv (.tmp 14), none⟩]
def Xn152_3 : C := regL [0, 2, 4, 10, 11] none [⟨some 15, .mv (.tmp 3), none⟩, ⟨some 16, .mv (.tmp 2), none⟩, ⟨some 17, .bin 3 .sub (.tmp 15) (.tmp 16), none⟩, ⟨some 11, .mv (.tmp 17), none⟩]
def Xn152_9 : C := regL [0, 2, 4, 10, 11, 20] none [⟨some 18, .mv (.tmp 10), none⟩, ⟨some 19, .mv (.tmp 11), none⟩, ⟨some 20, .bin 3 .neq (.tmp 18) (.tmp 19), none⟩]
def Xn152_10 : C := .cond (.tmp 20) .skip (.exit 0)
def Xn152_8 : C := .seq Xn152_9 Xn152_10
def Xn152_15 : C := regL [0, 2, 4, 10, 11, 23] none [⟨some 21, .mv (.tmp 10), none⟩, ⟨some 22, .mv (.tmp 11), none⟩, ⟨some 23, .bin 3 .gtr (.tmp 21) (.tmp 22), none⟩]
def Xn152_18 : C := regL [0, 2, 4, 10, 11] none [⟨some 24, .mv (.tmp 0), none⟩, ⟨some 25, .mv (.tmp 2), none⟩, ⟨some 26, .mv (.tmp 10), none⟩, ⟨some 27, .bin 3 .sub (.tmp 25) (.tmp 26), none⟩, ⟨some 28, .mv (.tmp 2), none⟩, ⟨some 29, .mv (.tmp 11), none⟩, ⟨some 30, .mv (.tmp 4), none⟩, ⟨some 31, .call 154 [.tmp 24, .tmp 27, .tmp 28, .tmp 29, .tmp 30], none⟩]
def Xn152_19 : C := regL [0, 2, 4, 10, 11] none [⟨some 32, .mv (.tmp 10), none⟩, ⟨some 33, .mv (.tmp 11), none⟩, ⟨some 34, .bin 3 .sub (.tmp 32) (.tmp 33), none⟩, ⟨some 10, .mv (.tmp 34), none⟩]
def Xn152_17 : C := .seq Xn152_18 Xn152_19
def Xn152_21 : C := regL [0, 2, 4, 10, 11] none [⟨some 35, .mv (.tmp 0), none⟩, ⟨some 36, .mv (.tmp 2), none⟩, ⟨some 37, .mv (.tmp 10), none⟩, ⟨some 38, .bin 3 .sub (.tmp 36) (.tmp 37), none⟩, ⟨some 39, .mv (.tmp 2), none⟩, ⟨some 40, .mv (.tmp 11), none⟩, ⟨some 41, .bin 3 .add (.tmp 39) (.tmp 40), none⟩, ⟨some 42, .mv (.tmp 10), none⟩, ⟨some 43, .bin 3 .sub (.tmp 41) (.tmp 42), none⟩, ⟨some 44, .mv (.tmp 10), none⟩, ⟨some 45, .mv (.tmp 4), none⟩, ⟨some 46, .call 154 [.tmp 35, .tmp 38, .tmp 43, .tmp 44, .tmp 45], none⟩]
def Xn152_22 : C := regL [0, 2, 4, 10, 11] none [⟨some 47, .mv (.tmp 11), none⟩, ⟨some 48, .mv (.tmp 10), none⟩, ⟨some 49, .bin 3 .sub (.tmp 47) (.tmp 48), none⟩, ⟨some 11, .mv (.tmp 49), none⟩]
def Xn152_20 : C := .seq Xn152_21 Xn152_22
def Xn152_16 : C := .cond (.tmp 23) Xn152_17 Xn152_20
def Xn152_14 : C := .seq Xn152_15 Xn152_16
def Xn152_13 : C := .block 1 Xn152_14
def Xn152_7 : C := seqL [0, 2, 4, 10, 11] Xn152_8 Xn152_13
/- carried: [10, 11] -/
def Xn152_6 : C := loopL [0, 2, 4, 10, 11] Xn152_7
def Xn152_5 : C := .block 0 Xn152_6
def Xn152_23 : C := regL [] none [⟨some 50, .mv (.tmp 0), none⟩, ⟨some 51, .mv (.tmp 2), none⟩, ⟨some 52, .mv (.tmp 10), none⟩, ⟨some 53, .bin 3 .sub (.tmp 51) (.tmp 52), none⟩, ⟨some 54, .mv (.tmp 2), none⟩, ⟨some 55, .mv (.tmp 10), none⟩, ⟨some 56, .mv (.tmp 4), none⟩, ⟨some 57, .call 154 [.tmp 50, .tmp 53, .tmp 54, .tmp 55, .tmp 56], none⟩]
def Xn152_4 : C := seqL [0, 2, 4, 10] Xn152_5 Xn152_23
def Xn152_2 : C := .seq Xn152_3 Xn152_4
def Xn152_0 : C := .seq Xn152_1 Xn152_2
theorem Xt152 : Text Try.prog 152 Xn152_0 58 5 [] := ⟨⟨Try.f152, [], Try.func152, by kernel_rfl, by kernel_rfl, by kernel_rfl, by kernel_rfl⟩⟩
def Xn153_1 : C := regL [0, 2] none [⟨some 2, .mv (.const (.int .i64 0)), none⟩]
def Xn153_4 : C := regL [0, 2, 4] none [⟨some 3, .mv (.tmp 0), none⟩, ⟨some 4, .bin 170 .geq (.tmp 3) (.const (.int .u64 4294967296)), none⟩]
def Xn153_7 : C := regL [0] none [⟨some 5, .mv (.tmp 0), none⟩, ⟨some 6, .bin 170 .shr (.tmp 5) (.const (.int .u64 32)), none⟩, ⟨some 0, .mv (.tmp 6), none⟩]
def Xn153_8 : C := regL [0, 2] none [⟨some 2, .mv (.const (.int .i64 32)), none⟩]
def Xn153_6 : C := .seq Xn153_7 Xn153_8
def Xn153_5 : C := .cond (.tmp 4) Xn153_6 .skip
def Xn153_3 : C := .seq Xn153_4 Xn153_5
def Xn153_12 : C := regL [0, 2, 8] none [⟨some 7, .mv (.tmp 0), none⟩, ⟨some 8, .bin 170 .geq (.tmp 7) (.const (.int .u64 65536)), none⟩]
def Xn153_15 : C := regL [0, 2] none [⟨some 9, .mv (.tmp 0), none⟩, ⟨some 10, .bin 170 .shr (.tmp 9) (.const (.int .u64 16)), none⟩, ⟨some 0, .mv (.tmp 10), none⟩]
def Xn153_16 : C := regL [0, 2] none [⟨some 11, .mv (.tmp 2), none⟩, ⟨some 12, .bin 3 .add (.tmp 11) (.const (.int .i64 16)), none⟩, ⟨some 2, .mv (.tmp 12), none⟩]
def Xn153_14 : C := .seq Xn153_15 Xn153_16
def Xn153_13 : C := .cond (.tmp 8) Xn153_14 .skip
def Xn153_11 : C := .seq Xn153_12 Xn153_13
def Xn153_20 : C := regL [0, 2, 14] none [⟨some 13, .mv (.tmp 0), none⟩, ⟨some 14, .bin 170 .geq (.tmp 13) (.const (.int .u64 256)), none⟩]
def Xn153_23 : C := regL [0, 2] none [⟨some 15, .mv (.tmp 0), none⟩, ⟨some 16, .bin 170 .shr (.tmp 15) (.const (.int .u64 8)), none⟩, ⟨some 0, .mv (.tmp 16), none⟩]
def Xn153_24 : C := regL [0, 2] none [⟨some 17, .mv (.tmp 2), none⟩, ⟨some 18, .bin 3 .add (.tmp 17) (.const (.int .i64 8)), none⟩, ⟨some 2, .mv (.tmp 18), none⟩]
def Xn153_22 : C := .seq Xn153_23 Xn153_24
def Xn153_21 : C := .cond (.tmp 14) Xn153_22 .skip
def Xn153_19 : C := .seq Xn153_20 Xn153_21
def Xn153_27 : C := regL [2] none [⟨some 19, .mv (.tmp 2), none⟩, ⟨some 20, .mv (.tmp 0), none⟩, ⟨some 21, .cvt .u8 (.tmp 20), none⟩, ⟨some 22, .sidx (.const (.string ⟨#[0, 1, 2, 2, 3, 3, 3, 3, 4, 4, 4, 4, 4, 4, 4, 4, 5, 5, 5, 5, 5, 5, 5, 5, 5, 5, 5, 5, 5, 5, 5, 5, 6, 6, 6, 6, 6, 6, 6, 6, 6, 6, 6, 6, 6, 6, 6, 6, 6, 6, 6, 6, 6, 6, 6, 6, 6, 6, 6, 6, 6, 6, 6, 6, 7, 7, 7, 7, 7, 7, 7, 7, 7, 7, 7, 7, 7, 7, 7, 7, 7, 7, 7, 7, 7, 7, 7, 7, 7, 7, 7, 7, 7, 7, 7, 7, 7, 7, 7, 7, 7, 7, 7, 7, 7, 7, 7, 7, 7, 7, 7, 7, 7, 7, 7, 7, 7, 7, 7, 7, 7, 7, 7, 7, 7, 7, 7, 7, 8, 8, 8, 8, 8, 8, 8, 8, 8, 8, 8, 8, 8, 8, 8, 8, 8, 8, 8, 8, 8, 8, 8, 8, 8, 8, 8, 8, 8, 8, 8, 8, 8, 8, 8, 8, 8, 8, 8, 8, 8, 8, 8, 8, 8, 8, 8, 8, 8, 8, 8, 8, 8, 8, 8, 8, 8, 8, 8, 8, 8, 8, 8, 8, 8, 8, 8, 8, 8, 8, 8, 8, 8, 8, 8, 8, 8, 8, 8, 8, 8, 8, 8, 8, 8, 8, 8, 8, 8, 8, 8, 8, 8, 8, 8, 8, 8, 8, 8, 8, 8, 8, 8, 8, 8, 8, 8, 8, 8, 8, 8, 8, 8, 8, 8, 8, 8, 8, 8, 8, 8, 8, 8, 8, 8, 8, 8, 8]⟩)) (.tmp 21), none⟩, ⟨some 23, .cvt .i64 (.tmp 22), none⟩, ⟨some 24, .bin 3 .add (.tmp 19) (.tmp 23), none⟩, ⟨some 2, .mv (.tmp 24), none⟩]
def Xn153_26 : C := .seq Xn153_27 .ret
def Xn153_18 : C := seqL [0, 2] Xn153_19 Xn153_26
def Xn153_10 : C := seqL [0, 2] Xn153_11 Xn153_18
def Xn153_2 : C := seqL [0, 2] Xn153_3 Xn153_10
def Xn153_0 : C := .seq Xn153_1 Xn153_2
theorem Xt153 : Text Try.prog 153 Xn153_0 25 1 [.t 2] := ⟨⟨Try.f153, [], Try.func153, by kernel_rfl, by kernel_rfl, by kernel_rfl, by kernel_rfl⟩⟩
def Xn154_1 : C := regL [0, 1, 2, 3, 10] none [⟨some 10, .mv (.const (.int .i64 0)), none⟩]
def Xn154_6 : C := regL [0, 1, 2, 3, 10, 13] none [⟨some 11, .mv (.tmp 10), none⟩, ⟨some 12, .mv (.tmp 3), none⟩, ⟨some 13, .bin 3 .lss (.tmp 11) (.tmp 12), none⟩]
def Xn154_7 : C := .cond (.tmp 13) .skip (.exit 0)
def Xn154_5 : C := .seq Xn154_6 Xn154_7
def Xn154_12 : C := regL [0, 1, 2, 3, 10] (some [0, 0, 0, 6, 0, 0, 0, 96, 0, 0, 0, 1536, 3840, 7936, 0, 0, 0, 98304, 245760, 507904, 1048335, 2096911, 4194303, 8388607]) [⟨some 16, .mv (.tmp 0), none⟩, ⟨some 17, .mv (.tmp 1), none⟩, ⟨some 18, .mv (.tmp 10), none⟩, ⟨some 19, .bin 3 .add (.tmp 17) (.tmp 18), none⟩, ⟨some 20, .mv (.tmp 0), none⟩, ⟨some 21, .mv (.tmp 2), none⟩, ⟨some 22, .mv (.tmp 10), none⟩, ⟨some 23, .bin 3 .add (.tmp 21) (.tmp 22), none⟩, ⟨some 24, .mv (.tmp 0), none⟩, ⟨some 25, .mv (.tmp 2), none⟩, ⟨some 26, .mv (.tmp 10), none⟩, ⟨some 27, .bin 3 .add (.tmp 25) (.tmp 26), none⟩, ⟨some 28, .ia 1 (.tmp 24) (.tmp 27), none⟩, ⟨some 29, .ld 3 1 false (.tmp 28), none⟩, ⟨some 30, .mv (.tmp 0), none⟩, ⟨some 31, .mv (.tmp 1), none⟩, ⟨some 32, .mv (.tmp 10), none⟩, ⟨some 33, .bin 3 .add (.tmp 31) (.tmp 32), none⟩, ⟨some 34, .ia 1 (.tmp 30) (.tmp 33), none⟩, ⟨some 35, .ld 3 1 false (.tmp 34), none⟩, ⟨some 36, .ia 1 (.tmp 16) (.tmp 19), none⟩, ⟨none, .st 3 1 (.tmp 36) (.tmp 29), none⟩, ⟨some 37, .ia 1 (.tmp 20) (.tmp 23), none⟩, ⟨none, .st 3 1 (.tmp 37) (.tmp 35), none⟩]
def Xn154_11 : C := .block 1 Xn154_12
def Xn154_13 : C := regL [0, 1, 2, 3, 10] none [⟨some 14, .mv (.tmp 10), none⟩, ⟨some 15, .bin 3 .add (.tmp 14) (.const (.int .i64 1)), none⟩, ⟨some 10, .mv (.tmp 15), none⟩]
def Xn154_10 : C := seqL [0, 1, 2, 3, 10] Xn154_11 Xn154_13
def Xn154_4 : C := seqL [0, 1, 2, 3, 10] Xn154_5 Xn154_10
/- carried: [10] -/
def Xn154_3 : C := loopL [0, 1, 2, 3, 10] Xn154_4
def Xn154_2 : C := .block 0 Xn154_3
def Xn154_0 : C := .seq Xn154_1 Xn154_2
theorem Xt154 : Text Try.prog 154 Xn154_0 38 5 [] := ⟨⟨Try.f154, [], Try.func154, by kernel_rfl, by kernel_rfl, by kernel_rfl, by kernel_rfl⟩⟩
end Go.Proofs.Ytfkjdjlcaojedaa

/- Words of 64 bits: products. -/
namespace Go.Proofs.Ytfkjdjlcaojedaa
open Go Sy
set_option maxRecDepth 100000
set_option maxHeartbeats 4000000
set_option linter.unusedVariables false
set_option linter.unusedSimpArgs false

theorem mixed : Try.prog.follows .mixedOrders = true := by kernel_rfl
abbrev iv (n : Int) : AV := .v (.int .i64 n)
abbrev bv (b : Bool) : AV := .v (.bool b)
abbrev uv (n : Nat) : AV := .v (.int .u64 n)
theorem maskN (a : Nat) (ha : a < 18446744073709551616) : bits .and .u64 (a : Int) 4294967295 = ((a % 4294967296 : Nat) : Int) := by
  have h := bits_and_u64_nat a 4294967295 ha (by omega)
  have e : a &&& 4294967295 = a % 4294967296 := Nat.and_two_pow_sub_one_eq_mod a 32
  rw [e] at h
  exact h
theorem shrC (a : Int) (s : Nat) (b : Int) (h : (2 : Int) ^ min s IntKind.u64.bits = b) (hb : 0 ≤ b) : a.fdiv (2 ^ min s IntKind.u64.bits) = a / b := by
  rw [h, Int.fdiv_eq_ediv_of_nonneg _ hb]
theorem shr32 (a : Int) : a.fdiv (2 ^ min 32 IntKind.u64.bits) = a / 4294967296 := shrC a 32 _ (by decide) (by decide)
theorem shr16 (a : Int) : a.fdiv (2 ^ min 16 IntKind.u64.bits) = a / 65536 := shrC a 16 _ (by decide) (by decide)
theorem shr8 (a : Int) : a.fdiv (2 ^ min 8 IntKind.u64.bits) = a / 256 := shrC a 8 _ (by decide) (by decide)
theorem divN (a : Nat) : (a : Int) / 4294967296 = ((a / 4294967296 : Nat) : Int) := by omega
theorem mulN (a b : Nat) : (a : Int) * (b : Int) = ((a * b : Nat) : Int) := (Int.natCast_mul a b).symm
theorem addN (a b : Nat) : (a : Int) + (b : Int) = ((a + b : Nat) : Int) := (Int.natCast_add a b).symm
theorem wrapN (a : Nat) (ha : a < 18446744073709551616) : IntKind.u64.wrap (a : Int) = (a : Int) := by rw [IntKind.wrap_u64]; omega
theorem wrapM (a : Nat) : IntKind.u64.wrap (a : Int) = ((a % 18446744073709551616 : Nat) : Int) := by rw [IntKind.wrap_u64]; omega
theorem fn143 (x y : Nat) (hx : x < 18446744073709551616) (hy : y < 18446744073709551616) : Sy.Fn Try.prog 143 [uv x, uv y] (.tup [uv (x * y / 18446744073709551616), uv (x * y % 18446744073709551616)]) := by
  refine Fn_of_W mixed Xt143 rfl ?_
  obtain ⟨bd, bt, bw, hhi⟩ := Lib.mul64_hi x y hx hy
  have ba := Lib.half_mul_le (a := x / 4294967296) (b := y / 4294967296) (by omega) (by omega)
  have bb := Lib.half_mul_le (a := x / 4294967296) (b := y % 4294967296) (by omega) (by omega)
  have bc := Lib.half_mul_le (a := x % 4294967296) (b := y / 4294967296) (by omega) (by omega)
  have ba' : x / 4294967296 * (y / 4294967296) < 18446744073709551616 := by omega
  have bb' : x / 4294967296 * (y % 4294967296) < 18446744073709551616 := by omega
  have bc' : x % 4294967296 * (y / 4294967296) < 18446744073709551616 := by omega
  have bh1 : x / 4294967296 * (y / 4294967296) + (x / 4294967296 * (y % 4294967296) + x % 4294967296 * (y % 4294967296) / 4294967296) / 4294967296 < 18446744073709551616 := by omega
  have bh : x / 4294967296 * (y / 4294967296) + (x / 4294967296 * (y % 4294967296) + x % 4294967296 * (y % 4294967296) / 4294967296) / 4294967296 + ((x / 4294967296 * (y % 4294967296) + x % 4294967296 * (y % 4294967296) / 4294967296) % 4294967296 + x % 4294967296 * (y / 4294967296)) / 4294967296 < 18446744073709551616 := by omega
  repeat' (first | refine WK_go ?_ | refine W_seqL ?_ | refine W_seq ?_ | refine W_block ?_ | refine W_scp ?_ | ((first | refine W_regL ?_ | refine W_skip ?_ | refine W_exit ?_); simp (maxSteps := 400000) (disch := omega) only [push_cast, ↓reduceIte, reduceCtorEq, Nat.reduceAdd, Nat.reduceSub, Nat.reduceEqDiff, Nat.reduceLeDiff, Nat.reduceLT, Nat.reduceBEq, Nat.reduceDiv, Nat.reduceMod, Nat.reducePow, Nat.reduceMul, Int.reduceToNat, Int.reduceLT, Int.reduceLE]) | refine And.intro (by omega) ?_ | refine And.intro (by intro hq; (try simp only [Bool.and_eq_true, Bool.or_eq_true, Bool.and_eq_false_iff, Bool.or_eq_false_iff, decide_eq_true_eq, decide_eq_false_iff_not, Bool.not_eq_true', Bool.not_eq_false', beq_iff_eq, beq_eq_false_iff_ne, ne_eq] at hq); omega) ?_ | fail)
  simp only [maskN x hx, maskN y hy, shr32, divN, mulN, addN, wrapN _ bd, wrapN _ bb', wrapN _ bt, maskN _ bt, wrapN _ bc', wrapN _ bw, wrapN _ ba', wrapN _ bh1, wrapN _ bh, wrapM (x * y)]
  rw [hhi]
  exact W_ret ⟨[_, _], ⟨rfl, rfl, rfl⟩, rfl⟩
end Go.Proofs.Ytfkjdjlcaojedaa

/- Words of 64 bits: how many bits a number has. -/
namespace Go.Proofs.Ytfkjdjlcaojedaa
open Go Sy
set_option maxRecDepth 100000
set_option maxHeartbeats 4000000
set_option linter.unusedVariables false
set_option linter.unusedSimpArgs false
abbrev uw (n : Int) : AV := .v (.int .u64 n)
/-- n bits, the first one set -/
def Bits (x : Int) (n : Nat) : Prop := 2 ^ n ≤ 2 * x ∧ x < 2 ^ n
theorem Bits.up {x : Int} {n : Nat} (k : Nat) (h : Bits (x / 2 ^ k) n) : Bits x (n + k) := by
  obtain ⟨h1, h2⟩ := h
  have hk : (0 : Int) < 2 ^ k := Int.pow_pos (by omega)
  have hm := Int.mul_ediv_add_emod x (2 ^ k)
  have hr := Int.emod_lt_of_pos x hk
  have hr0 := Int.emod_nonneg x (Int.ne_of_gt hk)
  have e : (2 : Int) ^ (n + k) = 2 ^ n * 2 ^ k := Int.pow_add ..
  have m1 := Int.mul_le_mul_of_nonneg_right h1 (Int.le_of_lt hk)
  have m2 := Int.mul_le_mul_of_nonneg_right (show x / 2 ^ k + 1 ≤ 2 ^ n by omega) (Int.le_of_lt hk)
  unfold Bits
  rw [e]
  rw [Int.add_mul] at m2
  rw [Int.mul_assoc, Int.mul_comm (x / 2 ^ k)] at m1
  rw [Int.mul_comm (x / 2 ^ k)] at m2
  constructor <;> omega
def lo (b x : Int) : Int := if b ≤ x then x / b else x
def nb (b : Int) (k : Nat) (x : Int) : Nat := if b ≤ x then k else 0
theorem Bits.lo {b x : Int} {n : Nat} (k : Nat) (hb : (2 : Int) ^ k = b) (h : Bits (lo b x) n) : Bits x (n + nb b k x) := by
  unfold Go.Proofs.Ytfkjdjlcaojedaa.lo at h
  unfold nb
  subst hb
  split
  · rename_i h1; rw [if_pos h1] at h; exact h.up k
  · rename_i h1; rw [if_neg h1] at h; exact h
def tab : ByteArray := ⟨#[0, 1, 2, 2, 3, 3, 3, 3, 4, 4, 4, 4, 4, 4, 4, 4, 5, 5, 5, 5, 5, 5, 5, 5, 5, 5, 5, 5, 5, 5, 5, 5, 6, 6, 6, 6, 6, 6, 6, 6, 6, 6, 6, 6, 6, 6, 6, 6, 6, 6, 6, 6, 6, 6, 6, 6, 6, 6, 6, 6, 6, 6, 6, 6, 7, 7, 7, 7, 7, 7, 7, 7, 7, 7, 7, 7, 7, 7, 7, 7, 7, 7, 7, 7, 7, 7, 7, 7, 7, 7, 7, 7, 7, 7, 7, 7, 7, 7, 7, 7, 7, 7, 7, 7, 7, 7, 7, 7, 7, 7, 7, 7, 7, 7, 7, 7, 7, 7, 7, 7, 7, 7, 7, 7, 7, 7, 7, 7, 8, 8, 8, 8, 8, 8, 8, 8, 8, 8, 8, 8, 8, 8, 8, 8, 8, 8, 8, 8, 8, 8, 8, 8, 8, 8, 8, 8, 8, 8, 8, 8, 8, 8, 8, 8, 8, 8, 8, 8, 8, 8, 8, 8, 8, 8, 8, 8, 8, 8, 8, 8, 8, 8, 8, 8, 8, 8, 8, 8, 8, 8, 8, 8, 8, 8, 8, 8, 8, 8, 8, 8, 8, 8, 8, 8, 8, 8, 8, 8, 8, 8, 8, 8, 8, 8, 8, 8, 8, 8, 8, 8, 8, 8, 8, 8, 8, 8, 8, 8, 8, 8, 8, 8, 8, 8, 8, 8, 8, 8, 8, 8, 8, 8, 8, 8, 8, 8, 8, 8, 8, 8, 8, 8, 8, 8, 8, 8]⟩
def tabOK (i : Nat) : Bool := decide (byteAt tab i ≤ 8) && (decide (i = 0) || (decide (2 ^ byteAt tab i ≤ 2 * i) && decide (i < 2 ^ byteAt tab i)))
theorem tab_all : (List.range 256).all tabOK = true := by decide +kernel
theorem tab_size : tab.size = 256 := by decide +kernel
theorem tab_bits {u : Int} (h0 : 0 ≤ u) (h : u < 256) : byteAt tab u.toNat ≤ 8 ∧ (0 < u → Bits u (byteAt tab u.toNat)) := by
  have h1 := List.all_eq_true.1 tab_all u.toNat (by simp; omega)
  unfold tabOK at h1
  simp only [Bool.and_eq_true, Bool.or_eq_true, decide_eq_true_eq] at h1
  refine ⟨h1.1, fun h2 => ?_⟩
  have h3 := h1.2.resolve_left (by omega)
  unfold Bits
  have e : ((u.toNat : Nat) : Int) = u := by omega
  generalize byteAt tab u.toNat = n at *
  have e2 : ((2 ^ n : Nat) : Int) = (2 : Int) ^ n := Int.natCast_pow 2 n
  omega
theorem fn153 (x : Int) (h0 : 0 ≤ x) (hx : x < 18446744073709551616) : ∃ n : Nat, n ≤ 64 ∧ (0 < x → Bits x n) ∧ Sy.Fn Try.prog 153 [uw x] (iv n) := by
  generalize hy : lo 4294967296 x = y
  have hyb : 0 ≤ y ∧ y < 4294967296 := by subst hy; unfold lo; split <;> omega
  generalize hm : nb 4294967296 32 x = m
  have hmb : m ≤ 32 := by subst hm; unfold nb; split <;> omega
  generalize hz : lo 65536 y = z
  have hzb : 0 ≤ z ∧ z < 65536 := by subst hz; unfold lo; split <;> omega
  generalize hk : m + nb 65536 16 y = k
  have hkb : k ≤ 48 := by subst hk; unfold nb; split <;> omega
  generalize hu : lo 256 z = u
  have hub : 0 ≤ u ∧ u < 256 := by subst hu; unfold lo; split <;> omega
  generalize hj : k + nb 256 8 z = j
  have hjb : j ≤ 56 := by subst hj; unfold nb; split <;> omega
  have ht := tab_bits hub.1 hub.2
  have hpos : 0 < x → 0 < u := fun h => by
    have h1 : 0 < y := by subst hy; unfold lo; split <;> omega
    have h2 : 0 < z := by subst hz; unfold lo; split <;> omega
    subst hu; unfold lo; split <;> omega
  refine ⟨j + byteAt tab u.toNat, by omega, fun h => ?_, ?_⟩
  · have h1 := ht.2 (hpos h)
    rw [← hu] at h1
    have h2 := h1.lo 8 (by decide)
    rw [hu, ← hz] at h2
    have h3 := h2.lo 16 (by decide)
    rw [hz, ← hy] at h3
    have h4 := h3.lo 32 (by decide)
    rw [hy] at h4
    rw [← hj, ← hk, ← hm]
    rw [show nb 4294967296 32 x + nb 65536 16 y + nb 256 8 z + byteAt tab u.toNat = byteAt tab u.toNat + nb 256 8 z + nb 65536 16 y + nb 4294967296 32 x by omega]
    exact h4
  refine Fn_of_W mixed Xt153 rfl ?_
  repeat' (first | refine WK_go ?_ | refine W_seqL ?_ | refine W_seq ?_ | refine W_block ?_ | refine W_scp ?_ | ((first | refine W_regL ?_ | refine W_skip ?_ | refine W_exit ?_); simp (maxSteps := 400000) (disch := omega) only [push_cast, ↓reduceIte, reduceCtorEq, Nat.reduceAdd, Nat.reduceSub, Nat.reduceEqDiff, Nat.reduceLeDiff, Nat.reduceLT, Nat.reduceBEq, Nat.reduceDiv, Nat.reduceMod, Nat.reducePow, Nat.reduceMul, Int.reduceToNat, Int.reduceLT, Int.reduceLE]) | refine And.intro (by omega) ?_ | refine And.intro (by intro hq; (try simp only [Bool.and_eq_true, Bool.or_eq_true, Bool.and_eq_false_iff, Bool.or_eq_false_iff, decide_eq_true_eq, decide_eq_false_iff_not, Bool.not_eq_true', Bool.not_eq_false', beq_iff_eq, beq_eq_false_iff_ne, ne_eq] at hq); omega) ?_ | fail)
  refine W_meet [(0, uw y), (2, iv m)] [] ?_ ?_
  · subst hy hm
    unfold lo nb
    refine W_condD (by rfl) (fun h => ?_) (fun h => ?_)
    · rw [if_pos h, if_pos h]
      repeat' (first | refine WK_go ?_ | refine W_seqL ?_ | refine W_seq ?_ | refine W_block ?_ | refine W_scp ?_ | ((first | refine W_regL ?_ | refine W_skip ?_ | refine W_exit ?_); simp (maxSteps := 400000) (disch := omega) only [push_cast, ↓reduceIte, reduceCtorEq, Nat.reduceAdd, Nat.reduceSub, Nat.reduceEqDiff, Nat.reduceLeDiff, Nat.reduceLT, Nat.reduceBEq, Nat.reduceDiv, Nat.reduceMod, Nat.reducePow, Nat.reduceMul, Int.reduceToNat, Int.reduceLT, Int.reduceLE, shr32]) | refine And.intro (by omega) ?_ | refine And.intro (by intro hq; (try simp only [Bool.and_eq_true, Bool.or_eq_true, Bool.and_eq_false_iff, Bool.or_eq_false_iff, decide_eq_true_eq, decide_eq_false_iff_not, Bool.not_eq_true', Bool.not_eq_false', beq_iff_eq, beq_eq_false_iff_ne, ne_eq] at hq); omega) ?_ | fail)
      refine ⟨by rfl, ?_⟩
      simp (maxSteps := 400000) (disch := omega) only [push_cast, ↓reduceIte, reduceCtorEq, Nat.reduceAdd, Nat.reduceSub, Nat.reduceEqDiff, Nat.reduceLeDiff, Nat.reduceLT, Nat.reduceBEq, Nat.reduceDiv, Nat.reduceMod, Nat.reducePow, Nat.reduceMul, Int.reduceToNat, Int.reduceLT, Int.reduceLE, S.mk.injEq, List.cons.injEq, Prod.mk.injEq, AV.v.injEq, Value.int.injEq, Value.bool.injEq, Blk.cells.injEq]
      all_goals omega
    · rw [if_neg h, if_neg h]
      repeat' (first | refine WK_go ?_ | refine W_seqL ?_ | refine W_seq ?_ | refine W_block ?_ | refine W_scp ?_ | ((first | refine W_regL ?_ | refine W_skip ?_ | refine W_exit ?_); simp (maxSteps := 400000) (disch := omega) only [push_cast, ↓reduceIte, reduceCtorEq, Nat.reduceAdd, Nat.reduceSub, Nat.reduceEqDiff, Nat.reduceLeDiff, Nat.reduceLT, Nat.reduceBEq, Nat.reduceDiv, Nat.reduceMod, Nat.reducePow, Nat.reduceMul, Int.reduceToNat, Int.reduceLT, Int.reduceLE]) | refine And.intro (by omega) ?_ | refine And.intro (by intro hq; (try simp only [Bool.and_eq_true, Bool.or_eq_true, Bool.and_eq_false_iff, Bool.or_eq_false_iff, decide_eq_true_eq, decide_eq_false_iff_not, Bool.not_eq_true', Bool.not_eq_false', beq_iff_eq, beq_eq_false_iff_ne, ne_eq] at hq); omega) ?_ | fail)
      rfl
  simp (maxSteps := 400000) (disch := omega) only [push_cast, ↓reduceIte, reduceCtorEq, Nat.reduceAdd, Nat.reduceSub, Nat.reduceEqDiff, Nat.reduceLeDiff, Nat.reduceLT, Nat.reduceBEq, Nat.reduceDiv, Nat.reduceMod, Nat.reducePow, Nat.reduceMul, Int.reduceToNat, Int.reduceLT, Int.reduceLE]
  repeat' (first | refine WK_go ?_ | refine W_seqL ?_ | refine W_seq ?_ | refine W_block ?_ | refine W_scp ?_ | ((first | refine W_regL ?_ | refine W_skip ?_ | refine W_exit ?_); simp (maxSteps := 400000) (disch := omega) only [push_cast, ↓reduceIte, reduceCtorEq, Nat.reduceAdd, Nat.reduceSub, Nat.reduceEqDiff, Nat.reduceLeDiff, Nat.reduceLT, Nat.reduceBEq, Nat.reduceDiv, Nat.reduceMod, Nat.reducePow, Nat.reduceMul, Int.reduceToNat, Int.reduceLT, Int.reduceLE]) | refine And.intro (by omega) ?_ | refine And.intro (by intro hq; (try simp only [Bool.and_eq_true, Bool.or_eq_true, Bool.and_eq_false_iff, Bool.or_eq_false_iff, decide_eq_true_eq, decide_eq_false_iff_not, Bool.not_eq_true', Bool.not_eq_false', beq_iff_eq, beq_eq_false_iff_ne, ne_eq] at hq); omega) ?_ | fail)
  refine W_meet [(0, uw z), (2, iv k)] [] ?_ ?_
  · subst hz hk
    unfold lo nb
    refine W_condD (by rfl) (fun h => ?_) (fun h => ?_)
    · rw [if_pos h, if_pos h]
      repeat' (first | refine WK_go ?_ | refine W_seqL ?_ | refine W_seq ?_ | refine W_block ?_ | refine W_scp ?_ | ((first | refine W_regL ?_ | refine W_skip ?_ | refine W_exit ?_); simp (maxSteps := 400000) (disch := omega) only [push_cast, ↓reduceIte, reduceCtorEq, Nat.reduceAdd, Nat.reduceSub, Nat.reduceEqDiff, Nat.reduceLeDiff, Nat.reduceLT, Nat.reduceBEq, Nat.reduceDiv, Nat.reduceMod, Nat.reducePow, Nat.reduceMul, Int.reduceToNat, Int.reduceLT, Int.reduceLE, shr16]) | refine And.intro (by omega) ?_ | refine And.intro (by intro hq; (try simp only [Bool.and_eq_true, Bool.or_eq_true, Bool.and_eq_false_iff, Bool.or_eq_false_iff, decide_eq_true_eq, decide_eq_false_iff_not, Bool.not_eq_true', Bool.not_eq_false', beq_iff_eq, beq_eq_false_iff_ne, ne_eq] at hq); omega) ?_ | fail)
      refine ⟨by rfl, ?_⟩
      simp (maxSteps := 400000) (disch := omega) only [push_cast, ↓reduceIte, reduceCtorEq, Nat.reduceAdd, Nat.reduceSub, Nat.reduceEqDiff, Nat.reduceLeDiff, Nat.reduceLT, Nat.reduceBEq, Nat.reduceDiv, Nat.reduceMod, Nat.reducePow, Nat.reduceMul, Int.reduceToNat, Int.reduceLT, Int.reduceLE, S.mk.injEq, List.cons.injEq, Prod.mk.injEq, AV.v.injEq, Value.int.injEq, Value.bool.injEq, Blk.cells.injEq]
      all_goals omega
    · rw [if_neg h, if_neg h]
      repeat' (first | refine WK_go ?_ | refine W_seqL ?_ | refine W_seq ?_ | refine W_block ?_ | refine W_scp ?_ | ((first | refine W_regL ?_ | refine W_skip ?_ | refine W_exit ?_); simp (maxSteps := 400000) (disch := omega) only [push_cast, ↓reduceIte, reduceCtorEq, Nat.reduceAdd, Nat.reduceSub, Nat.reduceEqDiff, Nat.reduceLeDiff, Nat.reduceLT, Nat.reduceBEq, Nat.reduceDiv, Nat.reduceMod, Nat.reducePow, Nat.reduceMul, Int.reduceToNat, Int.reduceLT, Int.reduceLE]) | refine And.intro (by omega) ?_ | refine And.intro (by intro hq; (try simp only [Bool.and_eq_true, Bool.or_eq_true, Bool.and_eq_false_iff, Bool.or_eq_false_iff, decide_eq_true_eq, decide_eq_false_iff_not, Bool.not_eq_true', Bool.not_eq_false', beq_iff_eq, beq_eq_false_iff_ne, ne_eq] at hq); omega) ?_ | fail)
      rfl
  simp (maxSteps := 400000) (disch := omega) only [push_cast, ↓reduceIte, reduceCtorEq, Nat.reduceAdd, Nat.reduceSub, Nat.reduceEqDiff, Nat.reduceLeDiff, Nat.reduceLT, Nat.reduceBEq, Nat.reduceDiv, Nat.reduceMod, Nat.reducePow, Nat.reduceMul, Int.reduceToNat, Int.reduceLT, Int.reduceLE]
  repeat' (first | refine WK_go ?_ | refine W_seqL ?_ | refine W_seq ?_ | refine W_block ?_ | refine W_scp ?_ | ((first | refine W_regL ?_ | refine W_skip ?_ | refine W_exit ?_); simp (maxSteps := 400000) (disch := omega) only [push_cast, ↓reduceIte, reduceCtorEq, Nat.reduceAdd, Nat.reduceSub, Nat.reduceEqDiff, Nat.reduceLeDiff, Nat.reduceLT, Nat.reduceBEq, Nat.reduceDiv, Nat.reduceMod, Nat.reducePow, Nat.reduceMul, Int.reduceToNat, Int.reduceLT, Int.reduceLE]) | refine And.intro (by omega) ?_ | refine And.intro (by intro hq; (try simp only [Bool.and_eq_true, Bool.or_eq_true, Bool.and_eq_false_iff, Bool.or_eq_false_iff, decide_eq_true_eq, decide_eq_false_iff_not, Bool.not_eq_true', Bool.not_eq_false', beq_iff_eq, beq_eq_false_iff_ne, ne_eq] at hq); omega) ?_ | fail)
  refine W_meet [(0, uw u), (2, iv j)] [] ?_ ?_
  · subst hu hj
    unfold lo nb
    refine W_condD (by rfl) (fun h => ?_) (fun h => ?_)
    · rw [if_pos h, if_pos h]
      repeat' (first | refine WK_go ?_ | refine W_seqL ?_ | refine W_seq ?_ | refine W_block ?_ | refine W_scp ?_ | ((first | refine W_regL ?_ | refine W_skip ?_ | refine W_exit ?_); simp (maxSteps := 400000) (disch := omega) only [push_cast, ↓reduceIte, reduceCtorEq, Nat.reduceAdd, Nat.reduceSub, Nat.reduceEqDiff, Nat.reduceLeDiff, Nat.reduceLT, Nat.reduceBEq, Nat.reduceDiv, Nat.reduceMod, Nat.reducePow, Nat.reduceMul, Int.reduceToNat, Int.reduceLT, Int.reduceLE, shr8]) | refine And.intro (by omega) ?_ | refine And.intro (by intro hq; (try simp only [Bool.and_eq_true, Bool.or_eq_true, Bool.and_eq_false_iff, Bool.or_eq_false_iff, decide_eq_true_eq, decide_eq_false_iff_not, Bool.not_eq_true', Bool.not_eq_false', beq_iff_eq, beq_eq_false_iff_ne, ne_eq] at hq); omega) ?_ | fail)
      refine ⟨by rfl, ?_⟩
      simp (maxSteps := 400000) (disch := omega) only [push_cast, ↓reduceIte, reduceCtorEq, Nat.reduceAdd, Nat.reduceSub, Nat.reduceEqDiff, Nat.reduceLeDiff, Nat.reduceLT, Nat.reduceBEq, Nat.reduceDiv, Nat.reduceMod, Nat.reducePow, Nat.reduceMul, Int.reduceToNat, Int.reduceLT, Int.reduceLE, S.mk.injEq, List.cons.injEq, Prod.mk.injEq, AV.v.injEq, Value.int.injEq, Value.bool.injEq, Blk.cells.injEq]
      all_goals omega
    · rw [if_neg h, if_neg h]
      repeat' (first | refine WK_go ?_ | refine W_seqL ?_ | refine W_seq ?_ | refine W_block ?_ | refine W_scp ?_ | ((first | refine W_regL ?_ | refine W_skip ?_ | refine W_exit ?_); simp (maxSteps := 400000) (disch := omega) only [push_cast, ↓reduceIte, reduceCtorEq, Nat.reduceAdd, Nat.reduceSub, Nat.reduceEqDiff, Nat.reduceLeDiff, Nat.reduceLT, Nat.reduceBEq, Nat.reduceDiv, Nat.reduceMod, Nat.reducePow, Nat.reduceMul, Int.reduceToNat, Int.reduceLT, Int.reduceLE]) | refine And.intro (by omega) ?_ | refine And.intro (by intro hq; (try simp only [Bool.and_eq_true, Bool.or_eq_true, Bool.and_eq_false_iff, Bool.or_eq_false_iff, decide_eq_true_eq, decide_eq_false_iff_not, Bool.not_eq_true', Bool.not_eq_false', beq_iff_eq, beq_eq_false_iff_ne, ne_eq] at hq); omega) ?_ | fail)
      rfl
  simp (maxSteps := 400000) (disch := omega) only [push_cast, ↓reduceIte, reduceCtorEq, Nat.reduceAdd, Nat.reduceSub, Nat.reduceEqDiff, Nat.reduceLeDiff, Nat.reduceLT, Nat.reduceBEq, Nat.reduceDiv, Nat.reduceMod, Nat.reducePow, Nat.reduceMul, Int.reduceToNat, Int.reduceLT, Int.reduceLE]
  have hw : IntKind.u8.wrap u = u := by rw [IntKind.wrap_u8]; omega
  refine W_seq (W_regL ?_)
  rw [show ({ data := _ } : ByteArray) = tab from rfl]
  simp (maxSteps := 400000) (disch := omega) only [push_cast, ↓reduceIte, reduceCtorEq, Nat.reduceAdd, Nat.reduceSub, Nat.reduceEqDiff, Nat.reduceLeDiff, Nat.reduceLT, Nat.reduceBEq, Nat.reduceDiv, Nat.reduceMod, Nat.reducePow, Nat.reduceMul, Int.reduceToNat, Int.reduceLT, Int.reduceLE, hw, tab_size]
  refine ⟨⟨hub.1, hub.2⟩, ?_⟩
  exact W_ret ⟨[_], ⟨rfl, rfl⟩, rfl⟩
/-- LeadingZeros64 -/
theorem fn150 (x : Int) (h0 : 0 < x) (hx : x < 18446744073709551616) : ∃ n : Nat, n ≤ 64 ∧ Bits x n ∧ Sy.Fn Try.prog 150 [uw x] (iv (64 - n)) := by
  obtain ⟨n, hn, hb, c⟩ := fn153 x (by omega) hx
  refine ⟨n, hn, hb h0, ?_⟩
  refine Fn_of_W mixed Xt150 rfl ?_
  repeat' (first | refine WK_go ?_ | refine W_seqL ?_ | refine W_seq ?_ | refine W_block ?_ | refine W_scp ?_ | ((first | refine W_regL ?_ | refine W_skip ?_ | refine W_exit ?_ | refine CallC.now (c) ?_); simp (maxSteps := 400000) (disch := omega) only [push_cast, ↓reduceIte, reduceCtorEq, Nat.reduceAdd, Nat.reduceSub, Nat.reduceEqDiff, Nat.reduceLeDiff, Nat.reduceLT, Nat.reduceBEq, Nat.reduceDiv, Nat.reduceMod, Nat.reducePow, Nat.reduceMul, Int.reduceToNat, Int.reduceLT, Int.reduceLE]) | refine And.intro (by omega) ?_ | refine And.intro (by intro hq; (try simp only [Bool.and_eq_true, Bool.or_eq_true, Bool.and_eq_false_iff, Bool.or_eq_false_iff, decide_eq_true_eq, decide_eq_false_iff_not, Bool.not_eq_true', Bool.not_eq_false', beq_iff_eq, beq_eq_false_iff_ne, ne_eq] at hq); omega) ?_ | fail)
  exact W_ret ⟨[_], ⟨rfl, rfl⟩, rfl⟩
end Go.Proofs.Ytfkjdjlcaojedaa

/- The long division: the plain law. -/
namespace Go.Proofs.Ytfkjdjlcaojedaa
open Go Sy
set_option maxRecDepth 100000
set_option linter.unusedVariables false
/-- half of the division: a divisor of 64 bits, the upper part of what is divided, the next digit -/
structure Half (Y u d : Int) : Prop where
  y : 9223372036854775808 ≤ Y ∧ Y < 18446744073709551616
  u : 0 ≤ u ∧ u < Y
  d : 0 ≤ d ∧ d < 4294967296
def Half.q (Y u d : Int) : Int := (u * 4294967296 + d) / Y
theorem split_Y (Y q : Int) : q * Y = (q * (Y / 4294967296)) * 4294967296 + q * (Y % 4294967296) := by
  have h : Y = Y / 4294967296 * 4294967296 + Y % 4294967296 := by omega
  rw [Int.mul_assoc, ← Int.mul_add, ← h]
theorem Half.no {Y u d q r : Int} (h : Half Y u d) (e : q * (Y / 4294967296) + r = u) (hc : q * (Y % 4294967296) ≤ 4294967296 * r + d) : q ≤ Half.q Y u d := by
  unfold Half.q
  have := h.y
  rw [Int.le_ediv_iff_mul_le (by omega), split_Y Y q]
  omega
theorem Half.yes {Y u d q r : Int} (h : Half Y u d) (e : q * (Y / 4294967296) + r = u) (hc : 4294967296 * r + d < q * (Y % 4294967296)) : Half.q Y u d < q := by
  unfold Half.q
  have := h.y
  rw [Int.ediv_lt_iff_lt_mul (by omega), split_Y Y q]
  omega
theorem Half.lt {Y u d : Int} (h : Half Y u d) : 0 ≤ Half.q Y u d ∧ Half.q Y u d < 4294967296 := by
  have h1 := h.y; have h2 := h.u; have h3 := h.d
  unfold Half.q
  constructor
  · exact Int.ediv_nonneg (by omega) (by omega)
  · rw [Int.ediv_lt_iff_lt_mul (by omega)]
    omega
theorem Half.start {Y u d : Int} (h : Half Y u d) : u / (Y / 4294967296) * (Y / 4294967296) + u % (Y / 4294967296) = u ∧ Half.q Y u d ≤ u / (Y / 4294967296) ∧ u / (Y / 4294967296) ≤ 4294967297 ∧ 0 ≤ u % (Y / 4294967296) ∧ u % (Y / 4294967296) < 4294967296 := by
  have h1 := h.y; have h2 := h.u; have h3 := h.d
  have hlt := h.lt
  have hp : 0 < Y / 4294967296 := by omega
  have e := Int.ediv_mul_add_emod u (Y / 4294967296)
  have e1 := Int.emod_nonneg u (Int.ne_of_gt hp)
  have e2 := Int.emod_lt_of_pos u hp
  refine ⟨e, ?_, ?_, e1, by omega⟩
  · rw [Int.le_ediv_iff_mul_le hp]
    have h4 : Half.q Y u d * Y ≤ u * 4294967296 + d := Int.ediv_mul_le _ (by omega)
    rw [split_Y Y (Half.q Y u d)] at h4
    have h5 : 0 ≤ Half.q Y u d * (Y % 4294967296) := Int.mul_nonneg hlt.1 (by omega)
    omega
  · have h4 : u / (Y / 4294967296) < 4294967298 := by
      rw [Int.ediv_lt_iff_lt_mul hp]
      omega
    omega
/-- one step of the loop -/
theorem Half.step {Y u d q r : Int} (h : Half Y u d) (e : q * (Y / 4294967296) + r = u) (hq : Half.q Y u d ≤ q) (hc : 4294967296 ≤ q ∨ 4294967296 * r + d < q * (Y % 4294967296)) : (q - 1) * (Y / 4294967296) + (r + Y / 4294967296) = u ∧ Half.q Y u d ≤ q - 1 := by
  have hlt := h.lt
  refine ⟨by rw [Int.sub_mul, Int.one_mul]; omega, ?_⟩
  rcases hc with hc | hc
  · omega
  · have := h.yes e hc; omega
theorem Half.break {Y u d q r : Int} (h : Half Y u d) (e : q * (Y / 4294967296) + r = u) (hq : Half.q Y u d ≤ q) (hb : q ≤ 4294967296) (hr : 4294967296 ≤ r) : q = Half.q Y u d := by
  have h1 := h.y; have h2 := h.u; have h3 := h.d
  have hlt := h.lt
  have m : q * (Y % 4294967296) ≤ 4294967296 * 4294967295 := Int.mul_le_mul hb (by omega) (by omega) (by omega)
  have := h.no e (by omega)
  omega
theorem Half.stop {Y u d q r : Int} (h : Half Y u d) (e : q * (Y / 4294967296) + r = u) (hq : Half.q Y u d ≤ q) (hc : q * (Y % 4294967296) ≤ 4294967296 * r + d) : q = Half.q Y u d := by
  have := h.no e hc
  omega
/-- what is left -/
def Half.r (Y u d : Int) : Int := u * 4294967296 + d - Half.q Y u d * Y
theorem Half.r_lt {Y u d : Int} (h : Half Y u d) : 0 ≤ Half.r Y u d ∧ Half.r Y u d < Y := by
  have h1 := h.y
  have e := Int.ediv_mul_add_emod (u * 4294967296 + d) Y
  have e1 := Int.emod_nonneg (u * 4294967296 + d) (show Y ≠ 0 by omega)
  have e2 := Int.emod_lt_of_pos (u * 4294967296 + d) (show 0 < Y by omega)
  unfold Half.r Half.q
  omega
/-- both halves -/
theorem long_div {y P N u d1 d0 : Int} (hy : 0 < y) (hP : 0 < P) (e : N * P = u * 18446744073709551616 + d1 * 4294967296 + d0) (h : Half (y * P) u d1) (h0 : Half (y * P) (Half.r (y * P) u d1) d0) :
    Half.q (y * P) u d1 * 4294967296 + Half.q (y * P) (Half.r (y * P) u d1) d0 = N / y ∧ Half.r (y * P) (Half.r (y * P) u d1) d0 / P = N % y := by
  have hr := h0.r_lt
  have e1 : Half.r (y * P) u d1 = u * 4294967296 + d1 - Half.q (y * P) u d1 * (y * P) := rfl
  have e2 : Half.r (y * P) (Half.r (y * P) u d1) d0 = Half.r (y * P) u d1 * 4294967296 + d0 - Half.q (y * P) (Half.r (y * P) u d1) d0 * (y * P) := rfl
  generalize hR0 : Half.r (y * P) (Half.r (y * P) u d1) d0 = R0 at *
  generalize hR1 : Half.r (y * P) u d1 = R1 at *
  generalize hq1 : Half.q (y * P) u d1 = q1 at *
  generalize hq0 : Half.q (y * P) R1 d0 = q0 at *
  have e3 : (q1 * 4294967296 + q0) * (y * P) = q1 * (y * P) * 4294967296 + q0 * (y * P) := by
    rw [Int.add_mul, Int.mul_assoc, Int.mul_comm 4294967296, ← Int.mul_assoc]
  have e4 : R0 = (N - (q1 * 4294967296 + q0) * y) * P := by
    rw [Int.sub_mul, Int.mul_assoc, e3]
    omega
  have e5 : R0 / P = N - (q1 * 4294967296 + q0) * y := by
    rw [e4, Int.mul_ediv_cancel _ (Int.ne_of_gt hP)]
  have e6 : 0 ≤ N - (q1 * 4294967296 + q0) * y := by
    rw [e4] at hr
    exact Int.nonneg_of_mul_nonneg_left hr.1 hP
  have e7 : N - (q1 * 4294967296 + q0) * y < y := by
    rw [e4] at hr
    exact Int.lt_of_mul_lt_mul_right hr.2 (Int.le_of_lt hP)
  have e8 : N / y = q1 * 4294967296 + q0 := by
    have h1 : q1 * 4294967296 + q0 ≤ N / y := by rw [Int.le_ediv_iff_mul_le hy]; omega
    have h2 : N / y < q1 * 4294967296 + q0 + 1 := by rw [Int.ediv_lt_iff_lt_mul hy, Int.add_mul]; omega
    omega
  refine ⟨e8.symm, ?_⟩
  rw [e5, Int.emod_def, e8, Int.mul_comm]
/-- the shift to a divisor of 64 bits -/
theorem shift_up {y : Int} {n : Nat} (h : Bits y n) (hn : n ≤ 64) : 9223372036854775808 ≤ y * 2 ^ (64 - n) ∧ y * 2 ^ (64 - n) < 18446744073709551616 := by
  obtain ⟨h1, h2⟩ := h
  have hk : (0 : Int) < 2 ^ (64 - n) := Int.pow_pos (by omega)
  have e : (2 : Int) ^ n * 2 ^ (64 - n) = 18446744073709551616 := by
    rw [← Int.pow_add, show n + (64 - n) = 64 by omega]; rfl
  have m1 := Int.mul_le_mul_of_nonneg_right h1 (Int.le_of_lt hk)
  have m2 := Int.mul_lt_mul_of_pos_right h2 hk
  rw [Int.mul_assoc] at m1
  omega
theorem shift_parts {hi lo y : Int} {n : Nat} (hn : n ≤ 64) (h : 0 ≤ hi ∧ hi < y) (hl : 0 ≤ lo ∧ lo < 18446744073709551616) :
    (hi * 18446744073709551616 + lo) * 2 ^ (64 - n) = (hi * 2 ^ (64 - n) + lo / 2 ^ n) * 18446744073709551616 + lo * 2 ^ (64 - n) % 18446744073709551616 ∧
    0 ≤ hi * 2 ^ (64 - n) + lo / 2 ^ n ∧ hi * 2 ^ (64 - n) + lo / 2 ^ n < y * 2 ^ (64 - n) ∧ 0 ≤ lo / 2 ^ n ∧ lo / 2 ^ n < 2 ^ (64 - n) := by
  have hk : (0 : Int) < 2 ^ (64 - n) := Int.pow_pos (by omega)
  have hk2 : (0 : Int) < 2 ^ n := Int.pow_pos (by omega)
  have e : (2 : Int) ^ n * 2 ^ (64 - n) = 18446744073709551616 := by
    rw [← Int.pow_add, show n + (64 - n) = 64 by omega]; rfl
  have e2 : lo * 2 ^ (64 - n) / 18446744073709551616 = lo / 2 ^ n := by
    rw [← e]; exact Int.mul_ediv_mul_of_pos_left _ _ hk
  have h1 : 0 ≤ lo / 2 ^ n := Int.ediv_nonneg hl.1 (Int.le_of_lt hk2)
  have h2 : lo / 2 ^ n < 2 ^ (64 - n) := by
    rw [Int.ediv_lt_iff_lt_mul hk2, Int.mul_comm, e]; exact hl.2
  have h3 : 0 ≤ hi * 2 ^ (64 - n) := Int.mul_nonneg h.1 (Int.le_of_lt hk)
  have h4 := Int.mul_le_mul_of_nonneg_right (show hi + 1 ≤ y by omega) (Int.le_of_lt hk)
  rw [Int.add_mul, Int.one_mul] at h4
  refine ⟨?_, by omega, by omega, h1, h2⟩
  rw [Int.add_mul, Int.mul_assoc, Int.mul_comm 18446744073709551616, ← Int.mul_assoc]
  omega
/-- a sum without a carry -/
theorem or_add {a b : Int} {k : Nat} (ha : 0 ≤ a) (hb : 0 ≤ b) (hlt : b < 2 ^ k) (h : a * 2 ^ k + b < 18446744073709551616) : bits .or .u64 (a * 2 ^ k) b = a * 2 ^ k + b := by
  obtain ⟨x, rfl⟩ : ∃ x : Nat, a = x := ⟨a.toNat, by omega⟩
  obtain ⟨y, rfl⟩ : ∃ y : Nat, b = y := ⟨b.toNat, by omega⟩
  have e : (x : Int) * 2 ^ k = ((x * 2 ^ k : Nat) : Int) := by rw [Int.natCast_mul, Int.natCast_pow]; rfl
  have hl : y < 2 ^ k := by
    have : ((2 ^ k : Nat) : Int) = (2 : Int) ^ k := Int.natCast_pow 2 k
    omega
  rw [e] at h ⊢
  rw [bits_or_u64_nat _ _ (by omega) (by omega), ← Nat.shiftLeft_eq, ← Nat.shiftLeft_add_eq_or_of_lt hl]
  omega
end Go.Proofs.Ytfkjdjlcaojedaa

/- The long division: the walk. -/
namespace Go.Proofs.Ytfkjdjlcaojedaa
open Go Sy
set_option maxRecDepth 100000
set_option maxHeartbeats 4000000
set_option linter.unusedVariables false
set_option linter.unusedSimpArgs false
theorem wrapU {x : Int} (h : 0 ≤ x ∧ x < 18446744073709551616) : IntKind.u64.wrap x = x := by rw [IntKind.wrap_u64]; omega
theorem maskI {a : Int} (h : 0 ≤ a ∧ a < 18446744073709551616) : bits .and .u64 a 4294967295 = a % 4294967296 := by
  obtain ⟨n, rfl⟩ : ∃ n : Nat, a = n := ⟨a.toNat, by omega⟩
  rw [maskN n (by omega)]; omega
theorem wrap_rem {a b c r : Int} (h : a + b - c = r) (hr : 0 ≤ r ∧ r < 18446744073709551616) : IntKind.u64.wrap (IntKind.u64.wrap (IntKind.u64.wrap a + b) - IntKind.u64.wrap c) = r := by
  simp only [IntKind.wrap_u64]; omega
theorem fn144 (hi lo y : Int) (h : 0 ≤ hi ∧ hi < y) (hl : 0 ≤ lo ∧ lo < 18446744073709551616) (hy : y < 18446744073709551616) : Sy.Fn Try.prog 144 [uw hi, uw lo, uw y] (.tup [uw ((hi * 18446744073709551616 + lo) / y), uw ((hi * 18446744073709551616 + lo) % y)]) := by
  refine Fn_of_W mixed Xt144 rfl ?_
  obtain ⟨n, hn, hb, c⟩ := fn150 y (by omega) hy
  have hsu := shift_up hb hn
  obtain ⟨hp1, hp2, hp3, hp4, hp5⟩ := shift_parts hn h hl
  repeat' (first | refine WK_go ?_ | refine W_seqL ?_ | refine W_seq ?_ | refine W_block ?_ | refine W_scp ?_ | ((first | refine W_regL ?_ | refine W_skip ?_ | refine W_exit ?_); simp (maxSteps := 400000) (disch := omega) only [push_cast, ↓reduceIte, reduceCtorEq, Nat.reduceAdd, Nat.reduceSub, Nat.reduceEqDiff, Nat.reduceLeDiff, Nat.reduceLT, Nat.reduceBEq, Nat.reduceDiv, Nat.reduceMod, Nat.reducePow, Nat.reduceMul, Int.reduceToNat, Int.reduceLT, Int.reduceLE]) | refine And.intro (by omega) ?_ | refine And.intro (by intro hq; (try simp only [Bool.and_eq_true, Bool.or_eq_true, Bool.and_eq_false_iff, Bool.or_eq_false_iff, decide_eq_true_eq, decide_eq_false_iff_not, Bool.not_eq_true', Bool.not_eq_false', beq_iff_eq, beq_eq_false_iff_ne, ne_eq] at hq); omega) ?_ | fail)
  refine W_cond (by rfl) (fun h1 => by rw [beq_iff_eq] at h1; omega) (fun _ => ?_)
  repeat' (first | refine WK_go ?_ | refine W_seqL ?_ | refine W_seq ?_ | refine W_block ?_ | refine W_scp ?_ | ((first | refine W_regL ?_ | refine W_skip ?_ | refine W_exit ?_); simp (maxSteps := 400000) (disch := omega) only [push_cast, ↓reduceIte, reduceCtorEq, Nat.reduceAdd, Nat.reduceSub, Nat.reduceEqDiff, Nat.reduceLeDiff, Nat.reduceLT, Nat.reduceBEq, Nat.reduceDiv, Nat.reduceMod, Nat.reducePow, Nat.reduceMul, Int.reduceToNat, Int.reduceLT, Int.reduceLE]) | refine And.intro (by omega) ?_ | refine And.intro (by intro hq; (try simp only [Bool.and_eq_true, Bool.or_eq_true, Bool.and_eq_false_iff, Bool.or_eq_false_iff, decide_eq_true_eq, decide_eq_false_iff_not, Bool.not_eq_true', Bool.not_eq_false', beq_iff_eq, beq_eq_false_iff_ne, ne_eq] at hq); omega) ?_ | fail)
  refine W_condD (by rfl) (fun h1 => by omega) (fun _ => ?_)
  repeat' (first | refine WK_go ?_ | refine W_seqL ?_ | refine W_seq ?_ | refine W_block ?_ | refine W_scp ?_ | ((first | refine W_regL ?_ | refine W_skip ?_ | refine W_exit ?_); simp (maxSteps := 400000) (disch := omega) only [push_cast, ↓reduceIte, reduceCtorEq, Nat.reduceAdd, Nat.reduceSub, Nat.reduceEqDiff, Nat.reduceLeDiff, Nat.reduceLT, Nat.reduceBEq, Nat.reduceDiv, Nat.reduceMod, Nat.reducePow, Nat.reduceMul, Int.reduceToNat, Int.reduceLT, Int.reduceLE]) | refine And.intro (by omega) ?_ | refine And.intro (by intro hq; (try simp only [Bool.and_eq_true, Bool.or_eq_true, Bool.and_eq_false_iff, Bool.or_eq_false_iff, decide_eq_true_eq, decide_eq_false_iff_not, Bool.not_eq_true', Bool.not_eq_false', beq_iff_eq, beq_eq_false_iff_ne, ne_eq] at hq); omega) ?_ | fail)
  refine W_cond (by rfl) (fun h1 => ?_) (fun h1 => ?_)
  · rw [beq_iff_eq] at h1
    subst h1
    have e1 := Int.ediv_nonneg hl.1 (show 0 ≤ y by omega)
    have e2 : lo / y ≤ lo := Int.ediv_le_self _ hl.1
    repeat' (first | refine WK_go ?_ | refine W_seqL ?_ | refine W_seq ?_ | refine W_block ?_ | refine W_scp ?_ | ((first | refine W_regL ?_ | refine W_skip ?_ | refine W_exit ?_); simp (maxSteps := 400000) (disch := omega) only [push_cast, ↓reduceIte, reduceCtorEq, Nat.reduceAdd, Nat.reduceSub, Nat.reduceEqDiff, Nat.reduceLeDiff, Nat.reduceLT, Nat.reduceBEq, Nat.reduceDiv, Nat.reduceMod, Nat.reducePow, Nat.reduceMul, Int.reduceToNat, Int.reduceLT, Int.reduceLE, Int.tdiv_eq_ediv_of_nonneg, Int.tmod_eq_emod_of_nonneg, wrapU]) | refine And.intro (by omega) ?_ | refine And.intro (by intro hq; (try simp only [Bool.and_eq_true, Bool.or_eq_true, Bool.and_eq_false_iff, Bool.or_eq_false_iff, decide_eq_true_eq, decide_eq_false_iff_not, Bool.not_eq_true', Bool.not_eq_false', beq_iff_eq, beq_eq_false_iff_ne, ne_eq] at hq); omega) ?_ | fail)
    exact W_ret ⟨[_, _], ⟨rfl, rfl, rfl⟩, by simp; rfl⟩
  have w1 : IntKind.u64.wrap (64 - (n : Int)) = 64 - n := wrapU ⟨by omega, by omega⟩
  have w2 : min (64 - (n : Int)).toNat IntKind.u64.bits = 64 - n := by show min _ 64 = _; omega
  have w3 : min n IntKind.u64.bits = n := by show min _ 64 = _; omega
  have w4 : IntKind.u64.wrap (n : Int) = n := wrapU ⟨by omega, by omega⟩
  have hk : (0 : Int) < 2 ^ (64 - n) := Int.pow_pos (by omega)
  have hh : 0 ≤ hi * 2 ^ (64 - n) := Int.mul_nonneg h.1 (Int.le_of_lt hk)
  have w5 : IntKind.u64.wrap (64 - (64 - (n : Int))) = n := by rw [show 64 - (64 - (n : Int)) = n by omega]; exact w4
  have w6 : IntKind.u64.wrap (y * 2 ^ (64 - n)) = y * 2 ^ (64 - n) := wrapU (by omega)
  have w7 : IntKind.u64.wrap (hi * 2 ^ (64 - n)) = hi * 2 ^ (64 - n) := wrapU (by omega)
  have w8 : lo.fdiv (2 ^ n) = lo / 2 ^ n := Int.fdiv_eq_ediv_of_nonneg _ (Int.le_of_lt (Int.pow_pos (by omega)))
  have w9 := or_add (a := hi) (b := lo / 2 ^ n) (k := 64 - n) h.1 hp4 hp5 (by omega)
  have w10 : IntKind.u64.wrap (lo * 2 ^ (64 - n)) = lo * 2 ^ (64 - n) % 18446744073709551616 := IntKind.wrap_u64 _
  have wm := maskI (a := y * 2 ^ (64 - n)) (by omega)
  have wm2 := maskI (a := lo * 2 ^ (64 - n) % 18446744073709551616) (by omega)
  have hld := fun d1 d0 => long_div (y := y) (P := 2 ^ (64 - n)) (N := hi * 18446744073709551616 + lo) (u := hi * 2 ^ (64 - n) + lo / 2 ^ n) (d1 := d1) (d0 := d0) (by omega) hk
  repeat' (first | refine WK_go ?_ | refine W_seqL ?_ | refine W_seq ?_ | refine W_block ?_ | refine W_scp ?_ | ((first | refine W_regL ?_ | refine W_skip ?_ | refine W_exit ?_ | refine CallC.now (c) ?_); simp (maxSteps := 400000) (disch := omega) only [push_cast, ↓reduceIte, reduceCtorEq, Nat.reduceAdd, Nat.reduceSub, Nat.reduceEqDiff, Nat.reduceLeDiff, Nat.reduceLT, Nat.reduceBEq, Nat.reduceDiv, Nat.reduceMod, Nat.reducePow, Nat.reduceMul, Int.reduceToNat, Int.reduceLT, Int.reduceLE, w1, w2, w3, w4, w5, w6, w7, w8, w9, w10, wm, wm2, shr32]) | refine And.intro (by omega) ?_ | refine And.intro (by intro hq; (try simp only [Bool.and_eq_true, Bool.or_eq_true, Bool.and_eq_false_iff, Bool.or_eq_false_iff, decide_eq_true_eq, decide_eq_false_iff_not, Bool.not_eq_true', Bool.not_eq_false', beq_iff_eq, beq_eq_false_iff_ne, ne_eq] at hq); omega) ?_ | fail)
  generalize hD : y * 2 ^ (64 - n) = Y at *
  generalize hU : hi * 2 ^ (64 - n) + lo / 2 ^ n = u at *
  generalize hE : lo * 2 ^ (64 - n) % 18446744073709551616 = e at *
  have heb : 0 ≤ e ∧ e < 18446744073709551616 := by subst hE; omega
  have H1 : Half Y u (e / 4294967296) := ⟨hsu, ⟨hp2, hp3⟩, by omega⟩
  obtain ⟨s1, s2, s3, s4, s5⟩ := H1.start
  have v1 : u.tdiv (Y / 4294967296) = u / (Y / 4294967296) := Int.tdiv_eq_ediv_of_nonneg hp2
  have s0 : 0 ≤ u / (Y / 4294967296) := Int.ediv_nonneg hp2 (by omega)
  have v2 : IntKind.u64.wrap (u / (Y / 4294967296)) = u / (Y / 4294967296) := wrapU (by omega)
  have s00 : 0 ≤ u / (Y / 4294967296) * (Y / 4294967296) := Int.mul_nonneg s0 (by omega)
  have v3 : IntKind.u64.wrap (u / (Y / 4294967296) * (Y / 4294967296)) = u / (Y / 4294967296) * (Y / 4294967296) := wrapU (by omega)
  have v4 : IntKind.u64.wrap (u - u / (Y / 4294967296) * (Y / 4294967296)) = u % (Y / 4294967296) := by
    rw [show u - u / (Y / 4294967296) * (Y / 4294967296) = u % (Y / 4294967296) by omega]; exact wrapU (by omega)
  rw [v1, v2, v3, v4]
  generalize hq0 : u / (Y / 4294967296) = q0 at *
  generalize hr0 : u % (Y / 4294967296) = r0 at *
  generalize hQ : Half.q Y u (e / 4294967296) = Q1 at *
  have wd : 0 ≤ e / 4294967296 ∧ e / 4294967296 < 4294967296 := by omega
  have we : 0 ≤ e % 4294967296 ∧ e % 4294967296 < 4294967296 := by omega
  have hQb := H1.lt
  refine W_meetB [(15, uw Q1)] [] ?_ ?_
  · refine W_loopU (fun p : Int × Int => [(15, uw p.1), (16, uw p.2)]) (fun i => []) (fun p => p.1 * (Y / 4294967296) + p.2 = u ∧ Q1 ≤ p.1 ∧ p.1 ≤ 4294967297 ∧ 0 ≤ p.2 ∧ p.2 < 4294967296) (fun p => p.1.toNat) (q0, r0) ⟨s1, s2, s3, s4, s5⟩ (by rfl) (by rfl) (fun p hp => ?_)
    obtain ⟨q, r⟩ := p
    obtain ⟨i1, i2, i3, i4, i5⟩ := hp
    simp only at i1 i2 i3 i4 i5
    have m0 : 0 ≤ q * (Y % 4294967296) := Int.mul_nonneg (by omega) (by omega)
    have v5 : IntKind.u64.wrap (4294967296 * r) = 4294967296 * r := wrapU (by omega)
    have v6 : IntKind.u64.wrap (4294967296 * r + e / 4294967296) = 4294967296 * r + e / 4294967296 := wrapU (by omega)
    have m1 : q < 4294967296 → q * (Y % 4294967296) ≤ 4294967295 * 4294967295 := fun hq => Int.mul_le_mul (by omega) (by omega) (by omega) (by omega)
    have v7 : q < 4294967296 → IntKind.u64.wrap (q * (Y % 4294967296)) = q * (Y % 4294967296) := fun hq => wrapU ⟨m0, by have := m1 hq; omega⟩
    simp (maxSteps := 400000) (disch := omega) only [push_cast, ↓reduceIte, reduceCtorEq, Nat.reduceAdd, Nat.reduceSub, Nat.reduceEqDiff, Nat.reduceLeDiff, Nat.reduceLT, Nat.reduceBEq, Nat.reduceDiv, Nat.reduceMod, Nat.reducePow, Nat.reduceMul, Int.reduceToNat, Int.reduceLT, Int.reduceLE]
    repeat' (first | refine WK_go ?_ | refine W_seqL ?_ | refine W_seq ?_ | refine W_block ?_ | refine W_scp ?_ | ((first | refine W_regL ?_ | refine W_skip ?_ | refine W_exit ?_); simp (maxSteps := 400000) (disch := omega) only [push_cast, ↓reduceIte, reduceCtorEq, Nat.reduceAdd, Nat.reduceSub, Nat.reduceEqDiff, Nat.reduceLeDiff, Nat.reduceLT, Nat.reduceBEq, Nat.reduceDiv, Nat.reduceMod, Nat.reducePow, Nat.reduceMul, Int.reduceToNat, Int.reduceLT, Int.reduceLE, v5, v6]) | refine And.intro (by omega) ?_ | refine And.intro (by intro hq; (try simp only [Bool.and_eq_true, Bool.or_eq_true, Bool.and_eq_false_iff, Bool.or_eq_false_iff, decide_eq_true_eq, decide_eq_false_iff_not, Bool.not_eq_true', Bool.not_eq_false', beq_iff_eq, beq_eq_false_iff_ne, ne_eq] at hq); omega) ?_ | fail)
    refine W_cond (by rfl) (fun hb => ?_) (fun hb => ?_)
    · have hc : 4294967296 ≤ q ∨ 4294967296 * r + e / 4294967296 < q * (Y % 4294967296) := by
        rw [Bool.or_eq_true, decide_eq_true_eq, decide_eq_true_eq] at hb
        by_cases hq : 4294967296 ≤ q
        · exact .inl hq
        · rw [v7 (by omega)] at hb
          exact .inr (hb.resolve_left hq)
      obtain ⟨t1, t2⟩ := H1.step i1 (by rw [hQ]; exact i2) hc
      rw [hQ] at t2
      have v8 : IntKind.u64.wrap (q - 1) = q - 1 := wrapU (by omega)
      have v9 : IntKind.u64.wrap (r + Y / 4294967296) = r + Y / 4294967296 := wrapU (by omega)
      repeat' (first | refine WK_go ?_ | refine W_seqL ?_ | refine W_seq ?_ | refine W_block ?_ | refine W_scp ?_ | ((first | refine W_regL ?_ | refine W_skip ?_ | refine W_exit ?_); simp (maxSteps := 400000) (disch := omega) only [push_cast, ↓reduceIte, reduceCtorEq, Nat.reduceAdd, Nat.reduceSub, Nat.reduceEqDiff, Nat.reduceLeDiff, Nat.reduceLT, Nat.reduceBEq, Nat.reduceDiv, Nat.reduceMod, Nat.reducePow, Nat.reduceMul, Int.reduceToNat, Int.reduceLT, Int.reduceLE, v8, v9]) | refine And.intro (by omega) ?_ | refine And.intro (by intro hq; (try simp only [Bool.and_eq_true, Bool.or_eq_true, Bool.and_eq_false_iff, Bool.or_eq_false_iff, decide_eq_true_eq, decide_eq_false_iff_not, Bool.not_eq_true', Bool.not_eq_false', beq_iff_eq, beq_eq_false_iff_ne, ne_eq] at hq); omega) ?_ | fail)
      refine W_condD (by rfl) (fun hr => ?_) (fun hr => ?_)
      · have hbr := H1.break t1 (by rw [hQ]; exact t2) (by omega) hr
        rw [hQ] at hbr
        repeat' (first | refine WK_go ?_ | refine W_seqL ?_ | refine W_seq ?_ | refine W_block ?_ | refine W_scp ?_ | ((first | refine W_regL ?_ | refine W_skip ?_ | refine W_exit ?_); simp (maxSteps := 400000) (disch := omega) only [push_cast, ↓reduceIte, reduceCtorEq, Nat.reduceAdd, Nat.reduceSub, Nat.reduceEqDiff, Nat.reduceLeDiff, Nat.reduceLT, Nat.reduceBEq, Nat.reduceDiv, Nat.reduceMod, Nat.reducePow, Nat.reduceMul, Int.reduceToNat, Int.reduceLT, Int.reduceLE]) | refine And.intro (by omega) ?_ | refine And.intro (by intro hq; (try simp only [Bool.and_eq_true, Bool.or_eq_true, Bool.and_eq_false_iff, Bool.or_eq_false_iff, decide_eq_true_eq, decide_eq_false_iff_not, Bool.not_eq_true', Bool.not_eq_false', beq_iff_eq, beq_eq_false_iff_ne, ne_eq] at hq); omega) ?_ | fail)
        refine ⟨by rfl, ?_⟩
        simp (maxSteps := 400000) (disch := omega) only [push_cast, ↓reduceIte, reduceCtorEq, Nat.reduceAdd, Nat.reduceSub, Nat.reduceEqDiff, Nat.reduceLeDiff, Nat.reduceLT, Nat.reduceBEq, Nat.reduceDiv, Nat.reduceMod, Nat.reducePow, Nat.reduceMul, Int.reduceToNat, Int.reduceLT, Int.reduceLE, S.mk.injEq, List.cons.injEq, Prod.mk.injEq, AV.v.injEq, Value.int.injEq, Value.bool.injEq, Blk.cells.injEq, hbr]
      · repeat' (first | refine WK_go ?_ | refine W_seqL ?_ | refine W_seq ?_ | refine W_block ?_ | refine W_scp ?_ | ((first | refine W_regL ?_ | refine W_skip ?_ | refine W_exit ?_); simp (maxSteps := 400000) (disch := omega) only [push_cast, ↓reduceIte, reduceCtorEq, Nat.reduceAdd, Nat.reduceSub, Nat.reduceEqDiff, Nat.reduceLeDiff, Nat.reduceLT, Nat.reduceBEq, Nat.reduceDiv, Nat.reduceMod, Nat.reducePow, Nat.reduceMul, Int.reduceToNat, Int.reduceLT, Int.reduceLE]) | refine And.intro (by omega) ?_ | refine And.intro (by intro hq; (try simp only [Bool.and_eq_true, Bool.or_eq_true, Bool.and_eq_false_iff, Bool.or_eq_false_iff, decide_eq_true_eq, decide_eq_false_iff_not, Bool.not_eq_true', Bool.not_eq_false', beq_iff_eq, beq_eq_false_iff_ne, ne_eq] at hq); omega) ?_ | fail)
        refine ⟨(q - 1, r + Y / 4294967296), ⟨t1, t2, by simp only []; omega, by simp only []; omega, by simp only []; omega⟩, by simp only []; omega, by rfl, ?_⟩
        simp (maxSteps := 400000) (disch := omega) only [push_cast, ↓reduceIte, reduceCtorEq, Nat.reduceAdd, Nat.reduceSub, Nat.reduceEqDiff, Nat.reduceLeDiff, Nat.reduceLT, Nat.reduceBEq, Nat.reduceDiv, Nat.reduceMod, Nat.reducePow, Nat.reduceMul, Int.reduceToNat, Int.reduceLT, Int.reduceLE, S.mk.injEq, List.cons.injEq, Prod.mk.injEq, AV.v.injEq, Value.int.injEq, Value.bool.injEq, Blk.cells.injEq]
    · rw [Bool.or_eq_false_iff, decide_eq_false_iff_not, decide_eq_false_iff_not] at hb
      have hst := H1.stop i1 (by rw [hQ]; exact i2) (by rw [v7 (by omega)] at hb; omega)
      rw [hQ] at hst
      repeat' (first | refine WK_go ?_ | refine W_seqL ?_ | refine W_seq ?_ | refine W_block ?_ | refine W_scp ?_ | ((first | refine W_regL ?_ | refine W_skip ?_ | refine W_exit ?_); simp (maxSteps := 400000) (disch := omega) only [push_cast, ↓reduceIte, reduceCtorEq, Nat.reduceAdd, Nat.reduceSub, Nat.reduceEqDiff, Nat.reduceLeDiff, Nat.reduceLT, Nat.reduceBEq, Nat.reduceDiv, Nat.reduceMod, Nat.reducePow, Nat.reduceMul, Int.reduceToNat, Int.reduceLT, Int.reduceLE]) | refine And.intro (by omega) ?_ | refine And.intro (by intro hq; (try simp only [Bool.and_eq_true, Bool.or_eq_true, Bool.and_eq_false_iff, Bool.or_eq_false_iff, decide_eq_true_eq, decide_eq_false_iff_not, Bool.not_eq_true', Bool.not_eq_false', beq_iff_eq, beq_eq_false_iff_ne, ne_eq] at hq); omega) ?_ | fail)
      refine ⟨by rfl, ?_⟩
      simp (maxSteps := 400000) (disch := omega) only [push_cast, ↓reduceIte, reduceCtorEq, Nat.reduceAdd, Nat.reduceSub, Nat.reduceEqDiff, Nat.reduceLeDiff, Nat.reduceLT, Nat.reduceBEq, Nat.reduceDiv, Nat.reduceMod, Nat.reducePow, Nat.reduceMul, Int.reduceToNat, Int.reduceLT, Int.reduceLE, S.mk.injEq, List.cons.injEq, Prod.mk.injEq, AV.v.injEq, Value.int.injEq, Value.bool.injEq, Blk.cells.injEq, hst]
  generalize hR : Half.r Y u (e / 4294967296) = R1 at *
  have hRb := H1.r_lt
  rw [hR] at hRb
  have H0 : Half Y R1 (e % 4294967296) := ⟨hsu, hRb, we⟩
  have hR' : u * 4294967296 + e / 4294967296 - Q1 * Y = R1 := by rw [← hR, ← hQ]; rfl
  have x1 : IntKind.u64.wrap (IntKind.u64.wrap (IntKind.u64.wrap (u * 4294967296) + e / 4294967296) - IntKind.u64.wrap (Q1 * Y)) = R1 := wrap_rem hR' (by omega)
  obtain ⟨s1', s2', s3', s4', s5'⟩ := H0.start
  have v1' : R1.tdiv (Y / 4294967296) = R1 / (Y / 4294967296) := Int.tdiv_eq_ediv_of_nonneg hRb.1
  have s0' : 0 ≤ R1 / (Y / 4294967296) := Int.ediv_nonneg hRb.1 (by omega)
  have v2' : IntKind.u64.wrap (R1 / (Y / 4294967296)) = R1 / (Y / 4294967296) := wrapU (by omega)
  have s00' : 0 ≤ R1 / (Y / 4294967296) * (Y / 4294967296) := Int.mul_nonneg s0' (by omega)
  have v3' : IntKind.u64.wrap (R1 / (Y / 4294967296) * (Y / 4294967296)) = R1 / (Y / 4294967296) * (Y / 4294967296) := wrapU (by omega)
  have v4' : IntKind.u64.wrap (R1 - R1 / (Y / 4294967296) * (Y / 4294967296)) = R1 % (Y / 4294967296) := by
    rw [show R1 - R1 / (Y / 4294967296) * (Y / 4294967296) = R1 % (Y / 4294967296) by omega]; exact wrapU (by omega)
  simp (maxSteps := 400000) (disch := omega) only [push_cast, ↓reduceIte, reduceCtorEq, Nat.reduceAdd, Nat.reduceSub, Nat.reduceEqDiff, Nat.reduceLeDiff, Nat.reduceLT, Nat.reduceBEq, Nat.reduceDiv, Nat.reduceMod, Nat.reducePow, Nat.reduceMul, Int.reduceToNat, Int.reduceLT, Int.reduceLE]
  repeat' (first | refine WK_go ?_ | refine W_seqL ?_ | refine W_seq ?_ | refine W_block ?_ | refine W_scp ?_ | ((first | refine W_regL ?_ | refine W_skip ?_ | refine W_exit ?_); simp (maxSteps := 400000) (disch := omega) only [push_cast, ↓reduceIte, reduceCtorEq, Nat.reduceAdd, Nat.reduceSub, Nat.reduceEqDiff, Nat.reduceLeDiff, Nat.reduceLT, Nat.reduceBEq, Nat.reduceDiv, Nat.reduceMod, Nat.reducePow, Nat.reduceMul, Int.reduceToNat, Int.reduceLT, Int.reduceLE, x1, v1', v2', v3', v4']) | refine And.intro (by omega) ?_ | refine And.intro (by intro hq; (try simp only [Bool.and_eq_true, Bool.or_eq_true, Bool.and_eq_false_iff, Bool.or_eq_false_iff, decide_eq_true_eq, decide_eq_false_iff_not, Bool.not_eq_true', Bool.not_eq_false', beq_iff_eq, beq_eq_false_iff_ne, ne_eq] at hq); omega) ?_ | fail)
  generalize hq0' : R1 / (Y / 4294967296) = q0' at *
  generalize hr0' : R1 % (Y / 4294967296) = r0' at *
  generalize hQ' : Half.q Y R1 (e % 4294967296) = Q0 at *
  have hQb' := H0.lt
  rw [hQ] at hQb
  rw [hQ'] at hQb'
  refine W_meetB [(18, uw Q0)] [] ?_ ?_
  · refine W_loopU (fun p : Int × Int => [(18, uw p.1), (16, uw p.2)]) (fun i => []) (fun p => p.1 * (Y / 4294967296) + p.2 = R1 ∧ Q0 ≤ p.1 ∧ p.1 ≤ 4294967297 ∧ 0 ≤ p.2 ∧ p.2 < 4294967296) (fun p => p.1.toNat) (q0', r0') ⟨s1', s2', s3', s4', s5'⟩ (by rfl) (by rfl) (fun p hp => ?_)
    obtain ⟨q, r⟩ := p
    obtain ⟨i1, i2, i3, i4, i5⟩ := hp
    simp only at i1 i2 i3 i4 i5
    have m0 : 0 ≤ q * (Y % 4294967296) := Int.mul_nonneg (by omega) (by omega)
    have v5 : IntKind.u64.wrap (4294967296 * r) = 4294967296 * r := wrapU (by omega)
    have v6 : IntKind.u64.wrap (4294967296 * r + e % 4294967296) = 4294967296 * r + e % 4294967296 := wrapU (by omega)
    have m1 : q < 4294967296 → q * (Y % 4294967296) ≤ 4294967295 * 4294967295 := fun hq => Int.mul_le_mul (by omega) (by omega) (by omega) (by omega)
    have v7 : q < 4294967296 → IntKind.u64.wrap (q * (Y % 4294967296)) = q * (Y % 4294967296) := fun hq => wrapU ⟨m0, by have := m1 hq; omega⟩
    simp (maxSteps := 400000) (disch := omega) only [push_cast, ↓reduceIte, reduceCtorEq, Nat.reduceAdd, Nat.reduceSub, Nat.reduceEqDiff, Nat.reduceLeDiff, Nat.reduceLT, Nat.reduceBEq, Nat.reduceDiv, Nat.reduceMod, Nat.reducePow, Nat.reduceMul, Int.reduceToNat, Int.reduceLT, Int.reduceLE]
    repeat' (first | refine WK_go ?_ | refine W_seqL ?_ | refine W_seq ?_ | refine W_block ?_ | refine W_scp ?_ | ((first | refine W_regL ?_ | refine W_skip ?_ | refine W_exit ?_); simp (maxSteps := 400000) (disch := omega) only [push_cast, ↓reduceIte, reduceCtorEq, Nat.reduceAdd, Nat.reduceSub, Nat.reduceEqDiff, Nat.reduceLeDiff, Nat.reduceLT, Nat.reduceBEq, Nat.reduceDiv, Nat.reduceMod, Nat.reducePow, Nat.reduceMul, Int.reduceToNat, Int.reduceLT, Int.reduceLE, v5, v6]) | refine And.intro (by omega) ?_ | refine And.intro (by intro hq; (try simp only [Bool.and_eq_true, Bool.or_eq_true, Bool.and_eq_false_iff, Bool.or_eq_false_iff, decide_eq_true_eq, decide_eq_false_iff_not, Bool.not_eq_true', Bool.not_eq_false', beq_iff_eq, beq_eq_false_iff_ne, ne_eq] at hq); omega) ?_ | fail)
    refine W_cond (by rfl) (fun hb => ?_) (fun hb => ?_)
    · have hc : 4294967296 ≤ q ∨ 4294967296 * r + e % 4294967296 < q * (Y % 4294967296) := by
        rw [Bool.or_eq_true, decide_eq_true_eq, decide_eq_true_eq] at hb
        by_cases hq : 4294967296 ≤ q
        · exact .inl hq
        · rw [v7 (by omega)] at hb
          exact .inr (hb.resolve_left hq)
      obtain ⟨t1, t2⟩ := H0.step i1 (by rw [hQ']; exact i2) hc
      rw [hQ'] at t2
      have v8 : IntKind.u64.wrap (q - 1) = q - 1 := wrapU (by omega)
      have v9 : IntKind.u64.wrap (r + Y / 4294967296) = r + Y / 4294967296 := wrapU (by omega)
      repeat' (first | refine WK_go ?_ | refine W_seqL ?_ | refine W_seq ?_ | refine W_block ?_ | refine W_scp ?_ | ((first | refine W_regL ?_ | refine W_skip ?_ | refine W_exit ?_); simp (maxSteps := 400000) (disch := omega) only [push_cast, ↓reduceIte, reduceCtorEq, Nat.reduceAdd, Nat.reduceSub, Nat.reduceEqDiff, Nat.reduceLeDiff, Nat.reduceLT, Nat.reduceBEq, Nat.reduceDiv, Nat.reduceMod, Nat.reducePow, Nat.reduceMul, Int.reduceToNat, Int.reduceLT, Int.reduceLE, v8, v9]) | refine And.intro (by omega) ?_ | refine And.intro (by intro hq; (try simp only [Bool.and_eq_true, Bool.or_eq_true, Bool.and_eq_false_iff, Bool.or_eq_false_iff, decide_eq_true_eq, decide_eq_false_iff_not, Bool.not_eq_true', Bool.not_eq_false', beq_iff_eq, beq_eq_false_iff_ne, ne_eq] at hq); omega) ?_ | fail)
      refine W_condD (by rfl) (fun hr => ?_) (fun hr => ?_)
      · have hbr := H0.break t1 (by rw [hQ']; exact t2) (by omega) hr
        rw [hQ'] at hbr
        repeat' (first | refine WK_go ?_ | refine W_seqL ?_ | refine W_seq ?_ | refine W_block ?_ | refine W_scp ?_ | ((first | refine W_regL ?_ | refine W_skip ?_ | refine W_exit ?_); simp (maxSteps := 400000) (disch := omega) only [push_cast, ↓reduceIte, reduceCtorEq, Nat.reduceAdd, Nat.reduceSub, Nat.reduceEqDiff, Nat.reduceLeDiff, Nat.reduceLT, Nat.reduceBEq, Nat.reduceDiv, Nat.reduceMod, Nat.reducePow, Nat.reduceMul, Int.reduceToNat, Int.reduceLT, Int.reduceLE]) | refine And.intro (by omega) ?_ | refine And.intro (by intro hq; (try simp only [Bool.and_eq_true, Bool.or_eq_true, Bool.and_eq_false_iff, Bool.or_eq_false_iff, decide_eq_true_eq, decide_eq_false_iff_not, Bool.not_eq_true', Bool.not_eq_false', beq_iff_eq, beq_eq_false_iff_ne, ne_eq] at hq); omega) ?_ | fail)
        refine ⟨by rfl, ?_⟩
        simp (maxSteps := 400000) (disch := omega) only [push_cast, ↓reduceIte, reduceCtorEq, Nat.reduceAdd, Nat.reduceSub, Nat.reduceEqDiff, Nat.reduceLeDiff, Nat.reduceLT, Nat.reduceBEq, Nat.reduceDiv, Nat.reduceMod, Nat.reducePow, Nat.reduceMul, Int.reduceToNat, Int.reduceLT, Int.reduceLE, S.mk.injEq, List.cons.injEq, Prod.mk.injEq, AV.v.injEq, Value.int.injEq, Value.bool.injEq, Blk.cells.injEq, hbr]
      · repeat' (first | refine WK_go ?_ | refine W_seqL ?_ | refine W_seq ?_ | refine W_block ?_ | refine W_scp ?_ | ((first | refine W_regL ?_ | refine W_skip ?_ | refine W_exit ?_); simp (maxSteps := 400000) (disch := omega) only [push_cast, ↓reduceIte, reduceCtorEq, Nat.reduceAdd, Nat.reduceSub, Nat.reduceEqDiff, Nat.reduceLeDiff, Nat.reduceLT, Nat.reduceBEq, Nat.reduceDiv, Nat.reduceMod, Nat.reducePow, Nat.reduceMul, Int.reduceToNat, Int.reduceLT, Int.reduceLE]) | refine And.intro (by omega) ?_ | refine And.intro (by intro hq; (try simp only [Bool.and_eq_true, Bool.or_eq_true, Bool.and_eq_false_iff, Bool.or_eq_false_iff, decide_eq_true_eq, decide_eq_false_iff_not, Bool.not_eq_true', Bool.not_eq_false', beq_iff_eq, beq_eq_false_iff_ne, ne_eq] at hq); omega) ?_ | fail)
        refine ⟨(q - 1, r + Y / 4294967296), ⟨t1, t2, by simp only []; omega, by simp only []; omega, by simp only []; omega⟩, by simp only []; omega, by rfl, ?_⟩
        simp (maxSteps := 400000) (disch := omega) only [push_cast, ↓reduceIte, reduceCtorEq, Nat.reduceAdd, Nat.reduceSub, Nat.reduceEqDiff, Nat.reduceLeDiff, Nat.reduceLT, Nat.reduceBEq, Nat.reduceDiv, Nat.reduceMod, Nat.reducePow, Nat.reduceMul, Int.reduceToNat, Int.reduceLT, Int.reduceLE, S.mk.injEq, List.cons.injEq, Prod.mk.injEq, AV.v.injEq, Value.int.injEq, Value.bool.injEq, Blk.cells.injEq]
    · rw [Bool.or_eq_false_iff, decide_eq_false_iff_not, decide_eq_false_iff_not] at hb
      have hst := H0.stop i1 (by rw [hQ']; exact i2) (by rw [v7 (by omega)] at hb; omega)
      rw [hQ'] at hst
      repeat' (first | refine WK_go ?_ | refine W_seqL ?_ | refine W_seq ?_ | refine W_block ?_ | refine W_scp ?_ | ((first | refine W_regL ?_ | refine W_skip ?_ | refine W_exit ?_); simp (maxSteps := 400000) (disch := omega) only [push_cast, ↓reduceIte, reduceCtorEq, Nat.reduceAdd, Nat.reduceSub, Nat.reduceEqDiff, Nat.reduceLeDiff, Nat.reduceLT, Nat.reduceBEq, Nat.reduceDiv, Nat.reduceMod, Nat.reducePow, Nat.reduceMul, Int.reduceToNat, Int.reduceLT, Int.reduceLE]) | refine And.intro (by omega) ?_ | refine And.intro (by intro hq; (try simp only [Bool.and_eq_true, Bool.or_eq_true, Bool.and_eq_false_iff, Bool.or_eq_false_iff, decide_eq_true_eq, decide_eq_false_iff_not, Bool.not_eq_true', Bool.not_eq_false', beq_iff_eq, beq_eq_false_iff_ne, ne_eq] at hq); omega) ?_ | fail)
      refine ⟨by rfl, ?_⟩
      simp (maxSteps := 400000) (disch := omega) only [push_cast, ↓reduceIte, reduceCtorEq, Nat.reduceAdd, Nat.reduceSub, Nat.reduceEqDiff, Nat.reduceLeDiff, Nat.reduceLT, Nat.reduceBEq, Nat.reduceDiv, Nat.reduceMod, Nat.reducePow, Nat.reduceMul, Int.reduceToNat, Int.reduceLT, Int.reduceLE, S.mk.injEq, List.cons.injEq, Prod.mk.injEq, AV.v.injEq, Value.int.injEq, Value.bool.injEq, Blk.cells.injEq, hst]
  have hQR := hld (e / 4294967296) (e % 4294967296) (by omega) H1 (by rw [hR]; exact H0)
  rw [hR, hQ, hQ'] at hQR
  have hR0 : R1 * 4294967296 + e % 4294967296 - Q0 * Y = Half.r Y R1 (e % 4294967296) := by rw [← hQ']; rfl
  have hRb0 := H0.r_lt
  have x2 := wrap_rem hR0 (by omega)
  have x3 : IntKind.u64.wrap (Q1 * 4294967296) = Q1 * 4294967296 := wrapU (by omega)
  have x4 : IntKind.u64.wrap (Q1 * 4294967296 + Q0) = Q1 * 4294967296 + Q0 := wrapU (by omega)
  have x5 : (Half.r Y R1 (e % 4294967296)).fdiv (2 ^ (64 - n)) = Half.r Y R1 (e % 4294967296) / 2 ^ (64 - n) := Int.fdiv_eq_ediv_of_nonneg _ (Int.le_of_lt hk)
  simp (maxSteps := 400000) (disch := omega) only [push_cast, ↓reduceIte, reduceCtorEq, Nat.reduceAdd, Nat.reduceSub, Nat.reduceEqDiff, Nat.reduceLeDiff, Nat.reduceLT, Nat.reduceBEq, Nat.reduceDiv, Nat.reduceMod, Nat.reducePow, Nat.reduceMul, Int.reduceToNat, Int.reduceLT, Int.reduceLE]
  repeat' (first | refine WK_go ?_ | refine W_seqL ?_ | refine W_seq ?_ | refine W_block ?_ | refine W_scp ?_ | ((first | refine W_regL ?_ | refine W_skip ?_ | refine W_exit ?_); simp (maxSteps := 400000) (disch := omega) only [push_cast, ↓reduceIte, reduceCtorEq, Nat.reduceAdd, Nat.reduceSub, Nat.reduceEqDiff, Nat.reduceLeDiff, Nat.reduceLT, Nat.reduceBEq, Nat.reduceDiv, Nat.reduceMod, Nat.reducePow, Nat.reduceMul, Int.reduceToNat, Int.reduceLT, Int.reduceLE, x2, x3, x4, w2, x5]) | refine And.intro (by omega) ?_ | refine And.intro (by intro hq; (try simp only [Bool.and_eq_true, Bool.or_eq_true, Bool.and_eq_false_iff, Bool.or_eq_false_iff, decide_eq_true_eq, decide_eq_false_iff_not, Bool.not_eq_true', Bool.not_eq_false', beq_iff_eq, beq_eq_false_iff_ne, ne_eq] at hq); omega) ?_ | fail)
  rw [hQR.1, hQR.2]
  exact W_ret ⟨[_, _], ⟨rfl, rfl, rfl⟩, rfl⟩
end Go.Proofs.Ytfkjdjlcaojedaa

/- Fractions: split, down, up. -/
namespace Go.Proofs.Ytfkjdjlcaojedaa
open Go Sy
set_option maxRecDepth 100000
set_option maxHeartbeats 4000000
set_option linter.unusedVariables false
set_option linter.unusedSimpArgs false
theorem c143 (x y : Int) (hx : 0 ≤ x ∧ x < 18446744073709551616) (hy : 0 ≤ y ∧ y < 18446744073709551616) : Sy.Fn Try.prog 143 [uw x, uw y] (.tup [uw (x * y / 18446744073709551616), uw (x * y % 18446744073709551616)]) := by
  obtain ⟨n, rfl⟩ : ∃ n : Nat, x = n := ⟨x.toNat, by omega⟩
  obtain ⟨m, rfl⟩ : ∃ m : Nat, y = m := ⟨y.toNat, by omega⟩
  have h := fn143 n m (by omega) (by omega)
  have e : (n : Int) * m = ((n * m : Nat) : Int) := (Int.natCast_mul n m).symm
  rw [e]
  exact h
/-- the amount -/
def ab (a : Int) : Int := max a (0 - a)
theorem ab_mul (a b : Int) : ab a * ab b = if decide (a < 0) != decide (b < 0) then -(a * b) else a * b := by
  unfold ab
  by_cases ha : a < 0 <;> by_cases hb : b < 0
  · rw [show max a (0 - a) = -a by omega, show max b (0 - b) = -b by omega, Int.neg_mul_neg]; simp [ha, hb]
  · rw [show max a (0 - a) = -a by omega, show max b (0 - b) = b by omega, Int.neg_mul]; simp [ha, hb]
  · rw [show max a (0 - a) = a by omega, show max b (0 - b) = -b by omega, Int.mul_neg]; simp [ha, hb]
  · rw [show max a (0 - a) = a by omega, show max b (0 - b) = b by omega]; simp [ha, hb]
abbrev aFr (a b d : Int) : AV := .agg [iv a, iv b, iv d]
structure FrOK (a b d : Int) : Prop where
  ha : -9223372036854775807 ≤ a ∧ a ≤ 9223372036854775807
  hb : -9223372036854775807 ≤ b ∧ b ≤ 9223372036854775807
  hd : 0 < d ∧ d ≤ 9223372036854775807
  hq : ab a * ab b < d * 4611686018427387904
theorem fn123 (a b d : Int) (h : FrOK a b d) : Sy.Fn Try.prog 123 [aFr a b d] (.tup [iv (ab a * ab b / d), bv (decide (0 < ab a * ab b % d)), bv (decide (a < 0) != decide (b < 0))]) := by
  refine Fn_of_W mixed Xt123 rfl ?_
  have ha := h.ha; have hb := h.hb; have hd := h.hd; have hq := h.hq
  have hA : 0 ≤ ab a ∧ ab a ≤ 9223372036854775807 := by unfold ab; omega
  have hB : 0 ≤ ab b ∧ ab b ≤ 9223372036854775807 := by unfold ab; omega
  have ea : max a (0 - a) = ab a := rfl
  have eb : max b (0 - b) = ab b := rfl
  generalize ab a = A at *
  generalize ab b = B at *
  have hAB : 0 ≤ A * B := Int.mul_nonneg hA.1 hB.1
  have wa : IntKind.u64.wrap A = A := wrapU (by omega)
  have wb : IntKind.u64.wrap B = B := wrapU (by omega)
  have wd : IntKind.u64.wrap d = d := wrapU (by omega)
  have c1 := c143 A B (by omega) (by omega)
  generalize A * B = M at *
  have c2 := fn144 (M / 18446744073709551616) (M % 18446744073709551616) d ⟨by omega, by omega⟩ (by omega) (by omega)
  rw [show M / 18446744073709551616 * 18446744073709551616 + M % 18446744073709551616 = M by omega] at c2
  have q1 : M / d < 4611686018427387904 := by rw [Int.ediv_lt_iff_lt_mul hd.1, Int.mul_comm]; exact hq
  have q0 : 0 ≤ M / d := Int.ediv_nonneg hAB (by omega)
  have wq : IntKind.i64.wrap (M / d) = M / d := wrap64 ⟨by omega, by omega⟩
  repeat' (first | refine WK_go ?_ | refine W_seqL ?_ | refine W_seq ?_ | refine W_block ?_ | refine W_scp ?_ | ((first | refine W_regL ?_ | refine W_skip ?_ | refine W_exit ?_ | refine CallC.now (c1) ?_ | refine CallC.now (c2) ?_); simp (maxSteps := 400000) (disch := omega) only [push_cast, ↓reduceIte, reduceCtorEq, Nat.reduceAdd, Nat.reduceSub, Nat.reduceEqDiff, Nat.reduceLeDiff, Nat.reduceLT, Nat.reduceBEq, Nat.reduceDiv, Nat.reduceMod, Nat.reducePow, Nat.reduceMul, Int.reduceToNat, Int.reduceLT, Int.reduceLE, ea, eb, wa, wb, wd, wq]) | refine And.intro (by omega) ?_ | refine And.intro (by intro hq; (try simp only [Bool.and_eq_true, Bool.or_eq_true, Bool.and_eq_false_iff, Bool.or_eq_false_iff, decide_eq_true_eq, decide_eq_false_iff_not, Bool.not_eq_true', Bool.not_eq_false', beq_iff_eq, beq_eq_false_iff_ne, ne_eq] at hq); omega) ?_ | fail)
  exact W_ret ⟨[_, _, _], ⟨rfl, rfl, rfl, rfl⟩, rfl⟩
theorem fn94 (a b d : Int) (h : FrOK a b d) : Sy.Fn Try.prog 94 [aFr a b d] (iv (a * b / d)) := by
  refine Fn_of_W mixed Xt94 rfl ?_
  have hd := h.hd; have hq := h.hq
  have c1 := fn123 a b d h
  have hm := ab_mul a b
  have q1 : ab a * ab b / d < 4611686018427387904 := by rw [Int.ediv_lt_iff_lt_mul hd.1]; omega
  have q0 : 0 ≤ ab a * ab b / d := Int.ediv_nonneg (Int.mul_nonneg (by unfold ab; omega) (by unfold ab; omega)) (by omega)
  generalize ab a * ab b = M at *
  have e := Int.ediv_mul_add_emod M d
  have e1 := Int.emod_nonneg M (Int.ne_of_gt hd.1)
  have e2 := Int.emod_lt_of_pos M hd.1
  repeat' (first | refine WK_go ?_ | refine W_seqL ?_ | refine W_seq ?_ | refine W_block ?_ | refine W_scp ?_ | ((first | refine W_regL ?_ | refine W_skip ?_ | refine W_exit ?_ | refine CallC.now (c1) ?_); simp (maxSteps := 400000) (disch := omega) only [push_cast, ↓reduceIte, reduceCtorEq, Nat.reduceAdd, Nat.reduceSub, Nat.reduceEqDiff, Nat.reduceLeDiff, Nat.reduceLT, Nat.reduceBEq, Nat.reduceDiv, Nat.reduceMod, Nat.reducePow, Nat.reduceMul, Int.reduceToNat, Int.reduceLT, Int.reduceLE]) | refine And.intro (by omega) ?_ | refine And.intro (by intro hq; (try simp only [Bool.and_eq_true, Bool.or_eq_true, Bool.and_eq_false_iff, Bool.or_eq_false_iff, decide_eq_true_eq, decide_eq_false_iff_not, Bool.not_eq_true', Bool.not_eq_false', beq_iff_eq, beq_eq_false_iff_ne, ne_eq] at hq); omega) ?_ | fail)
  refine W_cond (by rfl) (fun h1 => ?_) (fun h1 => ?_)
  · rw [Bool.not_eq_true'] at h1
    rw [h1] at hm
    simp only [Bool.false_eq_true, if_false] at hm
    repeat' (first | refine WK_go ?_ | refine W_seqL ?_ | refine W_seq ?_ | refine W_block ?_ | refine W_scp ?_ | ((first | refine W_regL ?_ | refine W_skip ?_ | refine W_exit ?_); simp (maxSteps := 400000) (disch := omega) only [push_cast, ↓reduceIte, reduceCtorEq, Nat.reduceAdd, Nat.reduceSub, Nat.reduceEqDiff, Nat.reduceLeDiff, Nat.reduceLT, Nat.reduceBEq, Nat.reduceDiv, Nat.reduceMod, Nat.reducePow, Nat.reduceMul, Int.reduceToNat, Int.reduceLT, Int.reduceLE]) | refine And.intro (by omega) ?_ | refine And.intro (by intro hq; (try simp only [Bool.and_eq_true, Bool.or_eq_true, Bool.and_eq_false_iff, Bool.or_eq_false_iff, decide_eq_true_eq, decide_eq_false_iff_not, Bool.not_eq_true', Bool.not_eq_false', beq_iff_eq, beq_eq_false_iff_ne, ne_eq] at hq); omega) ?_ | fail)
    exact W_ret ⟨[_], ⟨rfl, rfl⟩, by rw [hm]; rfl⟩
  · rw [Bool.not_eq_false'] at h1
    rw [h1, if_pos rfl] at hm
    have hm' : a * b = -M := by omega
    rw [hm']
    repeat' (first | refine WK_go ?_ | refine W_seqL ?_ | refine W_seq ?_ | refine W_block ?_ | refine W_scp ?_ | ((first | refine W_regL ?_ | refine W_skip ?_ | refine W_exit ?_); simp (maxSteps := 400000) (disch := omega) only [push_cast, ↓reduceIte, reduceCtorEq, Nat.reduceAdd, Nat.reduceSub, Nat.reduceEqDiff, Nat.reduceLeDiff, Nat.reduceLT, Nat.reduceBEq, Nat.reduceDiv, Nat.reduceMod, Nat.reducePow, Nat.reduceMul, Int.reduceToNat, Int.reduceLT, Int.reduceLE]) | refine And.intro (by omega) ?_ | refine And.intro (by intro hq; (try simp only [Bool.and_eq_true, Bool.or_eq_true, Bool.and_eq_false_iff, Bool.or_eq_false_iff, decide_eq_true_eq, decide_eq_false_iff_not, Bool.not_eq_true', Bool.not_eq_false', beq_iff_eq, beq_eq_false_iff_ne, ne_eq] at hq); omega) ?_ | fail)
    refine W_condD (by rfl) (fun h2 => ?_) (fun h2 => ?_)
    · have e3 : -M / d = -(M / d + 1) := by
        have h1 : -(M / d + 1) ≤ -M / d := by rw [Int.le_ediv_iff_mul_le hd.1, Int.neg_mul, Int.add_mul]; omega
        have h3 : -M / d < -(M / d + 1) + 1 := by
          rw [Int.ediv_lt_iff_lt_mul hd.1, Int.add_mul, Int.neg_mul, Int.add_mul]; omega
        omega
      repeat' (first | refine WK_go ?_ | refine W_seqL ?_ | refine W_seq ?_ | refine W_block ?_ | refine W_scp ?_ | ((first | refine W_regL ?_ | refine W_skip ?_ | refine W_exit ?_); simp (maxSteps := 400000) (disch := omega) only [push_cast, ↓reduceIte, reduceCtorEq, Nat.reduceAdd, Nat.reduceSub, Nat.reduceEqDiff, Nat.reduceLeDiff, Nat.reduceLT, Nat.reduceBEq, Nat.reduceDiv, Nat.reduceMod, Nat.reducePow, Nat.reduceMul, Int.reduceToNat, Int.reduceLT, Int.reduceLE]) | refine And.intro (by omega) ?_ | refine And.intro (by intro hq; (try simp only [Bool.and_eq_true, Bool.or_eq_true, Bool.and_eq_false_iff, Bool.or_eq_false_iff, decide_eq_true_eq, decide_eq_false_iff_not, Bool.not_eq_true', Bool.not_eq_false', beq_iff_eq, beq_eq_false_iff_ne, ne_eq] at hq); omega) ?_ | fail)
      exact W_ret ⟨[_], ⟨rfl, rfl⟩, by rw [e3]; simp; rfl⟩
    · have e3 : -M / d = -(M / d) := by
        have h1 : -(M / d) ≤ -M / d := by rw [Int.le_ediv_iff_mul_le hd.1, Int.neg_mul]; omega
        have h3 : -M / d < -(M / d) + 1 := by
          rw [Int.ediv_lt_iff_lt_mul hd.1, Int.add_mul, Int.neg_mul]; omega
        omega
      repeat' (first | refine WK_go ?_ | refine W_seqL ?_ | refine W_seq ?_ | refine W_block ?_ | refine W_scp ?_ | ((first | refine W_regL ?_ | refine W_skip ?_ | refine W_exit ?_); simp (maxSteps := 400000) (disch := omega) only [push_cast, ↓reduceIte, reduceCtorEq, Nat.reduceAdd, Nat.reduceSub, Nat.reduceEqDiff, Nat.reduceLeDiff, Nat.reduceLT, Nat.reduceBEq, Nat.reduceDiv, Nat.reduceMod, Nat.reducePow, Nat.reduceMul, Int.reduceToNat, Int.reduceLT, Int.reduceLE]) | refine And.intro (by omega) ?_ | refine And.intro (by intro hq; (try simp only [Bool.and_eq_true, Bool.or_eq_true, Bool.and_eq_false_iff, Bool.or_eq_false_iff, decide_eq_true_eq, decide_eq_false_iff_not, Bool.not_eq_true', Bool.not_eq_false', beq_iff_eq, beq_eq_false_iff_ne, ne_eq] at hq); omega) ?_ | fail)
      exact W_ret ⟨[_], ⟨rfl, rfl⟩, by rw [e3]; simp; rfl⟩
/-- a quotient, rounded up -/
def cdiv (n d : Int) : Int := -(-n / d)
theorem fn55 (a b d : Int) (h : FrOK a b d) : Sy.Fn Try.prog 55 [aFr a b d] (iv (cdiv (a * b) d)) := by
  refine Fn_of_W mixed Xt55 rfl ?_
  have ha := h.ha; have hd := h.hd
  have h' : FrOK (0 - a) b d := ⟨by omega, h.hb, h.hd, by rw [show ab (0 - a) = ab a by unfold ab; omega]; exact h.hq⟩
  have c1 := fn94 (0 - a) b d h'
  have e : (0 - a) * b = -(a * b) := by rw [Int.zero_sub, Int.neg_mul]
  rw [e] at c1
  have hq := h.hq
  have hm := ab_mul a b
  have hAB : 0 ≤ ab a * ab b := Int.mul_nonneg (by unfold ab; omega) (by unfold ab; omega)
  have hb : -(d * 4611686018427387904) ≤ -(a * b) ∧ -(a * b) ≤ d * 4611686018427387904 := by
    split at hm <;> omega
  have b1 : -4611686018427387904 ≤ -(a * b) / d := by rw [Int.le_ediv_iff_mul_le hd.1, Int.neg_mul, Int.mul_comm]; exact hb.1
  have b2 : -(a * b) / d < 4611686018427387905 := by rw [Int.ediv_lt_iff_lt_mul hd.1]; omega
  repeat' (first | refine WK_go ?_ | refine W_seqL ?_ | refine W_seq ?_ | refine W_block ?_ | refine W_scp ?_ | ((first | refine W_regL ?_ | refine W_skip ?_ | refine W_exit ?_ | refine CallC.now (c1) ?_); simp (maxSteps := 400000) (disch := omega) only [push_cast, ↓reduceIte, reduceCtorEq, Nat.reduceAdd, Nat.reduceSub, Nat.reduceEqDiff, Nat.reduceLeDiff, Nat.reduceLT, Nat.reduceBEq, Nat.reduceDiv, Nat.reduceMod, Nat.reducePow, Nat.reduceMul, Int.reduceToNat, Int.reduceLT, Int.reduceLE]) | refine And.intro (by omega) ?_ | refine And.intro (by intro hq; (try simp only [Bool.and_eq_true, Bool.or_eq_true, Bool.and_eq_false_iff, Bool.or_eq_false_iff, decide_eq_true_eq, decide_eq_false_iff_not, Bool.not_eq_true', Bool.not_eq_false', beq_iff_eq, beq_eq_false_iff_ne, ne_eq] at hq); omega) ?_ | fail)
  exact W_ret ⟨[_], ⟨rfl, rfl⟩, by unfold cdiv; simp; rfl⟩
end Go.Proofs.Ytfkjdjlcaojedaa

/- Platforms: small functions, determinants. -/
namespace Go.Proofs.Ytfkjdjlcaojedaa
open Go Sy
set_option maxRecDepth 100000
set_option maxHeartbeats 4000000
set_option linter.unusedVariables false
set_option linter.unusedSimpArgs false
def inR (x lo hi : Int) : Bool := decide (lo ≤ x) && decide (x ≤ hi)
theorem inR_iff {x lo hi : Int} : inR x lo hi = true ↔ lo ≤ x ∧ x ≤ hi := by simp [inR]
theorem fn53 (x lo hi : Int) : Sy.Fn Try.prog 53 [iv x, iv lo, iv hi] (bv (inR x lo hi)) := by
  refine Fn_of_W mixed Xt53 rfl ?_
  repeat' (first | refine WK_go ?_ | refine W_seqL ?_ | refine W_seq ?_ | refine W_block ?_ | refine W_scp ?_ | ((first | refine W_regL ?_ | refine W_skip ?_ | refine W_exit ?_); simp (maxSteps := 400000) (disch := omega) only [push_cast, ↓reduceIte, reduceCtorEq, Nat.reduceAdd, Nat.reduceSub, Nat.reduceEqDiff, Nat.reduceLeDiff, Nat.reduceLT, Nat.reduceBEq, Nat.reduceDiv, Nat.reduceMod, Nat.reducePow, Nat.reduceMul, Int.reduceToNat, Int.reduceLT, Int.reduceLE]) | refine And.intro (by omega) ?_ | refine And.intro (by intro hq; (try simp only [Bool.and_eq_true, Bool.or_eq_true, Bool.and_eq_false_iff, Bool.or_eq_false_iff, decide_eq_true_eq, decide_eq_false_iff_not, Bool.not_eq_true', Bool.not_eq_false', beq_iff_eq, beq_eq_false_iff_ne, ne_eq] at hq); omega) ?_ | fail)
  exact W_ret ⟨[_], ⟨rfl, rfl⟩, rfl⟩
def okMass (m : Int) : Bool := inR m 1 16777216
theorem fn54 (m : Int) : Sy.Fn Try.prog 54 [iv m] (bv (okMass m)) := by
  refine Fn_of_W mixed Xt54 rfl ?_
  repeat' (first | refine WK_go ?_ | refine W_seqL ?_ | refine W_seq ?_ | refine W_block ?_ | refine W_scp ?_ | ((first | refine W_regL ?_ | refine W_skip ?_ | refine W_exit ?_ | refine CallC.now (fn53 _ _ _) ?_); simp (maxSteps := 400000) (disch := omega) only [push_cast, ↓reduceIte, reduceCtorEq, Nat.reduceAdd, Nat.reduceSub, Nat.reduceEqDiff, Nat.reduceLeDiff, Nat.reduceLT, Nat.reduceBEq, Nat.reduceDiv, Nat.reduceMod, Nat.reducePow, Nat.reduceMul, Int.reduceToNat, Int.reduceLT, Int.reduceLE]) | refine And.intro (by omega) ?_ | refine And.intro (by intro hq; (try simp only [Bool.and_eq_true, Bool.or_eq_true, Bool.and_eq_false_iff, Bool.or_eq_false_iff, decide_eq_true_eq, decide_eq_false_iff_not, Bool.not_eq_true', Bool.not_eq_false', beq_iff_eq, beq_eq_false_iff_ne, ne_eq] at hq); omega) ?_ | fail)
  exact W_ret ⟨[_], ⟨rfl, rfl⟩, rfl⟩
structure Pt where
  x : Int
  y : Int
abbrev cPt (p : Pt) : List AV := [iv p.x, iv p.y]
def okPt (p : Pt) : Bool := inR p.x (-262144) 262144 && inR p.y (-262144) 262144
theorem fn57 (p : Pt) : Sy.Fn Try.prog 57 [.agg (cPt p)] (bv (okPt p)) := by
  refine Fn_of_W mixed Xt57 rfl ?_
  repeat' (first | refine WK_go ?_ | refine W_seqL ?_ | refine W_seq ?_ | refine W_block ?_ | refine W_scp ?_ | ((first | refine W_regL ?_ | refine W_skip ?_ | refine W_exit ?_ | refine CallC.now (fn53 _ _ _) ?_ | refine CallC.go _ (fun _ => ⟨trivial, fn53 _ _ _⟩) rfl ?_); simp (maxSteps := 400000) (disch := omega) only [push_cast, ↓reduceIte, reduceCtorEq, Nat.reduceAdd, Nat.reduceSub, Nat.reduceEqDiff, Nat.reduceLeDiff, Nat.reduceLT, Nat.reduceBEq, Nat.reduceDiv, Nat.reduceMod, Nat.reducePow, Nat.reduceMul, Int.reduceToNat, Int.reduceLT, Int.reduceLE]) | refine And.intro (by omega) ?_ | refine And.intro (by intro hq; (try simp only [Bool.and_eq_true, Bool.or_eq_true, Bool.and_eq_false_iff, Bool.or_eq_false_iff, decide_eq_true_eq, decide_eq_false_iff_not, Bool.not_eq_true', Bool.not_eq_false', beq_iff_eq, beq_eq_false_iff_ne, ne_eq] at hq); omega) ?_ | fail)
  exact W_ret ⟨[_], ⟨rfl, rfl⟩, rfl⟩
def okPlace (x : Int) : Bool := inR x (-16777216) 16777216
theorem fn52 (x : Int) : Sy.Fn Try.prog 52 [iv x] (bv (okPlace x)) := by
  refine Fn_of_W mixed Xt52 rfl ?_
  repeat' (first | refine WK_go ?_ | refine W_seqL ?_ | refine W_seq ?_ | refine W_block ?_ | refine W_scp ?_ | ((first | refine W_regL ?_ | refine W_skip ?_ | refine W_exit ?_ | refine CallC.now (fn53 _ _ _) ?_); simp (maxSteps := 400000) (disch := omega) only [push_cast, ↓reduceIte, reduceCtorEq, Nat.reduceAdd, Nat.reduceSub, Nat.reduceEqDiff, Nat.reduceLeDiff, Nat.reduceLT, Nat.reduceBEq, Nat.reduceDiv, Nat.reduceMod, Nat.reducePow, Nat.reduceMul, Int.reduceToNat, Int.reduceLT, Int.reduceLE]) | refine And.intro (by omega) ?_ | refine And.intro (by intro hq; (try simp only [Bool.and_eq_true, Bool.or_eq_true, Bool.and_eq_false_iff, Bool.or_eq_false_iff, decide_eq_true_eq, decide_eq_false_iff_not, Bool.not_eq_true', Bool.not_eq_false', beq_iff_eq, beq_eq_false_iff_ne, ne_eq] at hq); omega) ?_ | fail)
  exact W_ret ⟨[_], ⟨rfl, rfl⟩, rfl⟩
def levE (m a b x : Int) : Int := if (!okMass m || !okPlace a || !okPlace b || !okPlace x) = true then 3 else if b ≤ a then 9 else if inR x a b = false then 19 else 0
def levL (m a b x : Int) : Int := if levE m a b x = 0 then cdiv (m * (b - x)) (b - a) else 0
def levR (m a b x : Int) : Int := if levE m a b x = 0 then cdiv (m * (x - a)) (b - a) else 0
theorem levE_ok {m a b x : Int} (h : levE m a b x = 0) : (1 ≤ m ∧ m ≤ 16777216) ∧ (-16777216 ≤ a ∧ a < b ∧ b ≤ 16777216) ∧ a ≤ x ∧ x ≤ b := by
  unfold levE at h
  split at h
  · omega
  · rename_i h1
    split at h
    · omega
    · split at h
      · omega
      · rename_i h2 h3
        simp only [Bool.or_eq_true, Bool.not_eq_true', okMass, okPlace] at h1
        rw [Bool.not_eq_false, inR_iff] at h3
        simp only [not_or, Bool.not_eq_false, inR_iff] at h1
        omega
theorem ab_pos {a : Int} (h : 0 ≤ a) : ab a = a := by unfold ab; omega
theorem mulP {a b c d : Int} (h0 : 0 ≤ b) (h1 : a ≤ c) (h2 : b ≤ d) (h3 : 0 ≤ c) : a * b ≤ c * d := Int.mul_le_mul h1 h2 h0 h3
theorem frac_ok {m p w : Int} (hm : 1 ≤ m ∧ m ≤ 16777216) (hp : 0 ≤ p ∧ p ≤ w) (hw : 0 < w ∧ w ≤ 9223372036854775807) : FrOK m p w := by
  refine ⟨by omega, by omega, hw, ?_⟩
  rw [ab_pos (by omega), ab_pos hp.1]
  have := mulP (a := m) (b := p) (c := 16777216) (d := w) hp.1 hm.2 hp.2 (by omega)
  omega
theorem fn16 (m a b x : Int) : Sy.Fn Try.prog 16 [iv m, iv a, iv b, iv x] (.tup [iv (levL m a b x), iv (levR m a b x), iv (levE m a b x)]) := by
  refine Fn_of_W mixed Xt16 rfl ?_
  repeat' (first | refine WK_go ?_ | refine W_seqL ?_ | refine W_seq ?_ | refine W_block ?_ | refine W_scp ?_ | ((first | refine W_regL ?_ | refine W_skip ?_ | refine W_exit ?_ | refine CallC.now (fn54 _) ?_ | refine CallC.go _ (fun _ => ⟨trivial, fn52 _⟩) rfl ?_); simp (maxSteps := 400000) (disch := omega) only [push_cast, ↓reduceIte, reduceCtorEq, Nat.reduceAdd, Nat.reduceSub, Nat.reduceEqDiff, Nat.reduceLeDiff, Nat.reduceLT, Nat.reduceBEq, Nat.reduceDiv, Nat.reduceMod, Nat.reducePow, Nat.reduceMul, Int.reduceToNat, Int.reduceLT, Int.reduceLE]) | refine And.intro (by omega) ?_ | refine And.intro (by intro hq; (try simp only [Bool.and_eq_true, Bool.or_eq_true, Bool.and_eq_false_iff, Bool.or_eq_false_iff, decide_eq_true_eq, decide_eq_false_iff_not, Bool.not_eq_true', Bool.not_eq_false', beq_iff_eq, beq_eq_false_iff_ne, ne_eq] at hq); omega) ?_ | fail)
  refine W_cond (by rfl) (fun h1 => ?_) (fun h1 => ?_)
  · have e : levE m a b x = 3 := by unfold levE; rw [if_pos h1]
    unfold levL levR
    rw [if_neg (by omega), if_neg (by omega), e]
    repeat' (first | refine WK_go ?_ | refine W_seqL ?_ | refine W_seq ?_ | refine W_block ?_ | refine W_scp ?_ | ((first | refine W_regL ?_ | refine W_skip ?_ | refine W_exit ?_); simp (maxSteps := 400000) (disch := omega) only [push_cast, ↓reduceIte, reduceCtorEq, Nat.reduceAdd, Nat.reduceSub, Nat.reduceEqDiff, Nat.reduceLeDiff, Nat.reduceLT, Nat.reduceBEq, Nat.reduceDiv, Nat.reduceMod, Nat.reducePow, Nat.reduceMul, Int.reduceToNat, Int.reduceLT, Int.reduceLE]) | refine And.intro (by omega) ?_ | refine And.intro (by intro hq; (try simp only [Bool.and_eq_true, Bool.or_eq_true, Bool.and_eq_false_iff, Bool.or_eq_false_iff, decide_eq_true_eq, decide_eq_false_iff_not, Bool.not_eq_true', Bool.not_eq_false', beq_iff_eq, beq_eq_false_iff_ne, ne_eq] at hq); omega) ?_ | fail)
    exact W_ret ⟨[_, _, _], ⟨rfl, rfl, rfl, rfl⟩, rfl⟩
  repeat' (first | refine WK_go ?_ | refine W_seqL ?_ | refine W_seq ?_ | refine W_block ?_ | refine W_scp ?_ | ((first | refine W_regL ?_ | refine W_skip ?_ | refine W_exit ?_); simp (maxSteps := 400000) (disch := omega) only [push_cast, ↓reduceIte, reduceCtorEq, Nat.reduceAdd, Nat.reduceSub, Nat.reduceEqDiff, Nat.reduceLeDiff, Nat.reduceLT, Nat.reduceBEq, Nat.reduceDiv, Nat.reduceMod, Nat.reducePow, Nat.reduceMul, Int.reduceToNat, Int.reduceLT, Int.reduceLE]) | refine And.intro (by omega) ?_ | refine And.intro (by intro hq; (try simp only [Bool.and_eq_true, Bool.or_eq_true, Bool.and_eq_false_iff, Bool.or_eq_false_iff, decide_eq_true_eq, decide_eq_false_iff_not, Bool.not_eq_true', Bool.not_eq_false', beq_iff_eq, beq_eq_false_iff_ne, ne_eq] at hq); omega) ?_ | fail)
  refine W_condD (by rfl) (fun h2 => ?_) (fun h2 => ?_)
  · have e : levE m a b x = 9 := by unfold levE; rw [if_neg (by rw [h1]; decide), if_pos h2]
    unfold levL levR
    rw [if_neg (by omega), if_neg (by omega), e]
    repeat' (first | refine WK_go ?_ | refine W_seqL ?_ | refine W_seq ?_ | refine W_block ?_ | refine W_scp ?_ | ((first | refine W_regL ?_ | refine W_skip ?_ | refine W_exit ?_); simp (maxSteps := 400000) (disch := omega) only [push_cast, ↓reduceIte, reduceCtorEq, Nat.reduceAdd, Nat.reduceSub, Nat.reduceEqDiff, Nat.reduceLeDiff, Nat.reduceLT, Nat.reduceBEq, Nat.reduceDiv, Nat.reduceMod, Nat.reducePow, Nat.reduceMul, Int.reduceToNat, Int.reduceLT, Int.reduceLE]) | refine And.intro (by omega) ?_ | refine And.intro (by intro hq; (try simp only [Bool.and_eq_true, Bool.or_eq_true, Bool.and_eq_false_iff, Bool.or_eq_false_iff, decide_eq_true_eq, decide_eq_false_iff_not, Bool.not_eq_true', Bool.not_eq_false', beq_iff_eq, beq_eq_false_iff_ne, ne_eq] at hq); omega) ?_ | fail)
    exact W_ret ⟨[_, _, _], ⟨rfl, rfl, rfl, rfl⟩, rfl⟩
  repeat' (first | refine WK_go ?_ | refine W_seqL ?_ | refine W_seq ?_ | refine W_block ?_ | refine W_scp ?_ | ((first | refine W_regL ?_ | refine W_skip ?_ | refine W_exit ?_ | refine CallC.now (fn53 _ _ _) ?_); simp (maxSteps := 400000) (disch := omega) only [push_cast, ↓reduceIte, reduceCtorEq, Nat.reduceAdd, Nat.reduceSub, Nat.reduceEqDiff, Nat.reduceLeDiff, Nat.reduceLT, Nat.reduceBEq, Nat.reduceDiv, Nat.reduceMod, Nat.reducePow, Nat.reduceMul, Int.reduceToNat, Int.reduceLT, Int.reduceLE]) | refine And.intro (by omega) ?_ | refine And.intro (by intro hq; (try simp only [Bool.and_eq_true, Bool.or_eq_true, Bool.and_eq_false_iff, Bool.or_eq_false_iff, decide_eq_true_eq, decide_eq_false_iff_not, Bool.not_eq_true', Bool.not_eq_false', beq_iff_eq, beq_eq_false_iff_ne, ne_eq] at hq); omega) ?_ | fail)
  refine W_cond (by rfl) (fun h3 => ?_) (fun h3 => ?_)
  · have e : levE m a b x = 19 := by unfold levE; rw [if_neg (by rw [h1]; decide), if_neg h2, if_pos (by simpa using h3)]
    unfold levL levR
    rw [if_neg (by omega), if_neg (by omega), e]
    repeat' (first | refine WK_go ?_ | refine W_seqL ?_ | refine W_seq ?_ | refine W_block ?_ | refine W_scp ?_ | ((first | refine W_regL ?_ | refine W_skip ?_ | refine W_exit ?_); simp (maxSteps := 400000) (disch := omega) only [push_cast, ↓reduceIte, reduceCtorEq, Nat.reduceAdd, Nat.reduceSub, Nat.reduceEqDiff, Nat.reduceLeDiff, Nat.reduceLT, Nat.reduceBEq, Nat.reduceDiv, Nat.reduceMod, Nat.reducePow, Nat.reduceMul, Int.reduceToNat, Int.reduceLT, Int.reduceLE]) | refine And.intro (by omega) ?_ | refine And.intro (by intro hq; (try simp only [Bool.and_eq_true, Bool.or_eq_true, Bool.and_eq_false_iff, Bool.or_eq_false_iff, decide_eq_true_eq, decide_eq_false_iff_not, Bool.not_eq_true', Bool.not_eq_false', beq_iff_eq, beq_eq_false_iff_ne, ne_eq] at hq); omega) ?_ | fail)
    exact W_ret ⟨[_, _, _], ⟨rfl, rfl, rfl, rfl⟩, rfl⟩
  have e : levE m a b x = 0 := by unfold levE; rw [if_neg (by rw [h1]; decide), if_neg h2, if_neg (by simpa using h3)]
  have ho := levE_ok e
  have c1 := fn55 m (b - x) (b - a) (frac_ok ho.1 (by omega) (by omega))
  have c2 := fn55 m (x - a) (b - a) (frac_ok ho.1 (by omega) (by omega))
  unfold levL levR
  rw [if_pos e, if_pos e, e]
  repeat' (first | refine WK_go ?_ | refine W_seqL ?_ | refine W_seq ?_ | refine W_block ?_ | refine W_scp ?_ | ((first | refine W_regL ?_ | refine W_skip ?_ | refine W_exit ?_ | refine CallC.now (c1) ?_ | refine CallC.now (c2) ?_); simp (maxSteps := 400000) (disch := omega) only [push_cast, ↓reduceIte, reduceCtorEq, Nat.reduceAdd, Nat.reduceSub, Nat.reduceEqDiff, Nat.reduceLeDiff, Nat.reduceLT, Nat.reduceBEq, Nat.reduceDiv, Nat.reduceMod, Nat.reducePow, Nat.reduceMul, Int.reduceToNat, Int.reduceLT, Int.reduceLE]) | refine And.intro (by omega) ?_ | refine And.intro (by intro hq; (try simp only [Bool.and_eq_true, Bool.or_eq_true, Bool.and_eq_false_iff, Bool.or_eq_false_iff, decide_eq_true_eq, decide_eq_false_iff_not, Bool.not_eq_true', Bool.not_eq_false', beq_iff_eq, beq_eq_false_iff_ne, ne_eq] at hq); omega) ?_ | fail)
  exact W_ret ⟨[_, _, _], ⟨rfl, rfl, rfl, rfl⟩, rfl⟩
end Go.Proofs.Ytfkjdjlcaojedaa

/- Determinants. -/
namespace Go.Proofs.Ytfkjdjlcaojedaa
open Go Sy
set_option maxRecDepth 100000
set_option maxHeartbeats 4000000
set_option linter.unusedVariables false
set_option linter.unusedSimpArgs false
/-- three rows of three numbers -/
def c9 (f : Nat → Int) : List AV := [iv (f 0), iv (f 1), iv (f 2), iv (f 3), iv (f 4), iv (f 5), iv (f 6), iv (f 7), iv (f 8)]
theorem nth9 (f : Nat → Int) (i : Nat) (h : i < 9) : nth (c9 f) i = iv (f i) := by
  rcases i with _ | _ | _ | _ | _ | _ | _ | _ | _ | i <;> first | rfl | omega
theorem len9 (f : Nat → Int) : (c9 f).length = 9 := rfl
theorem frz9 (f : Nat → Int) : frzAll (c9 f) = true := rfl
theorem ids9 {m : Nat → Option Blk} {n : Nat} (f : Nat → Int) : List.flatMap (ids m n) (c9 f) = [] := flat_frz n _ (frz9 f)
theorem take9 (f : Nat → Int) : List.take 9 (c9 f) = c9 f := rfl
theorem vw9 {m : Nat → Option Blk} {n : Nat} (f : Nat → Int) : List.map (view m n) (c9 f) = c9 f := by cases n <;> rfl
attribute [push_cast] nth9 len9 frz9 ids9 take9 vw9
def det (f : Nat → Int) : Int := f 0 * (f 4 * f 8 - f 7 * f 5) - f 1 * (f 3 * f 8 - f 6 * f 5) + f 2 * (f 3 * f 7 - f 6 * f 4)
/-- the numbers are small -/
structure Tab (f : Nat → Int) : Prop where
  n : ∀ g, g < 3 → 0 ≤ f (3 * g) ∧ f (3 * g) ≤ 48
  a : ∀ j, j < 9 → -6291456 ≤ f j ∧ f j ≤ 6291456
theorem mulB {a b A B C : Int} (ha : -A ≤ a ∧ a ≤ A) (hb : -B ≤ b ∧ b ≤ B) (hC : A * B = C) : -C ≤ a * b ∧ a * b ≤ C := by
  have h1 : (a * b).natAbs = a.natAbs * b.natAbs := Int.natAbs_mul ..
  have h2 : a.natAbs * b.natAbs ≤ A.natAbs * B.natAbs := Nat.mul_le_mul (by omega) (by omega)
  have h3 : A.natAbs * B.natAbs = C.natAbs := by rw [← hC, Int.natAbs_mul]
  have h4 : 0 ≤ C := by rw [← hC]; exact Int.mul_nonneg (by omega) (by omega)
  omega
theorem fn124 (f : Nat → Int) (a b : Nat) (ha : a < 3) (hb : b < 3) (h : Tab f) : Sy.Fn Try.prog 124 [iv a, iv b, .fp (c9 f) 0] (iv (f (3 + a) * f (6 + b) - f (6 + a) * f (3 + b))) := by
  refine Fn_of_W mixed Xt124 rfl ?_
  have h1 := mulB (h.a (3 + a) (by omega)) (h.a (6 + b) (by omega)) rfl
  have h2 := mulB (h.a (6 + a) (by omega)) (h.a (3 + b) (by omega)) rfl
  simp only [Int.reduceMul] at h1 h2
  repeat' (first | refine WK_go ?_ | refine W_seqL ?_ | refine W_seq ?_ | refine W_block ?_ | refine W_scp ?_ | ((first | refine W_regL ?_ | refine W_skip ?_ | refine W_exit ?_); simp (maxSteps := 400000) (disch := omega) only [push_cast, ↓reduceIte, reduceCtorEq, Nat.reduceAdd, Nat.reduceSub, Nat.reduceEqDiff, Nat.reduceLeDiff, Nat.reduceLT, Nat.reduceBEq, Nat.reduceDiv, Nat.reduceMod, Nat.reducePow, Nat.reduceMul, Int.reduceToNat, Int.reduceLT, Int.reduceLE, Nat.mul_one]) | refine And.intro (by omega) ?_ | refine And.intro (by intro hq; (try simp only [Bool.and_eq_true, Bool.or_eq_true, Bool.and_eq_false_iff, Bool.or_eq_false_iff, decide_eq_true_eq, decide_eq_false_iff_not, Bool.not_eq_true', Bool.not_eq_false', beq_iff_eq, beq_eq_false_iff_ne, ne_eq] at hq); omega) ?_ | fail)
  exact W_ret ⟨[_], ⟨rfl, rfl⟩, rfl⟩
theorem det_parts {f : Nat → Int} (h : Tab f) :
    (-3799912185593856 ≤ f 0 * (f 4 * f 8 - f 7 * f 5) ∧ f 0 * (f 4 * f 8 - f 7 * f 5) ≤ 3799912185593856) ∧
    (-3799912185593856 ≤ f 1 * (f 3 * f 8 - f 6 * f 5) ∧ f 1 * (f 3 * f 8 - f 6 * f 5) ≤ 3799912185593856) ∧
    (-3799912185593856 ≤ f 2 * (f 3 * f 7 - f 6 * f 4) ∧ f 2 * (f 3 * f 7 - f 6 * f 4) ≤ 3799912185593856) := by
  have n0 := h.n 0 (by omega)
  have n1 := h.n 1 (by omega)
  have n2 := h.n 2 (by omega)
  simp only [Nat.reduceMul] at n0 n1 n2
  have m1 := mulB (C := 39582418599936) (h.a 4 (by omega)) (h.a 8 (by omega)) (by decide)
  have m2 := mulB (C := 39582418599936) (h.a 7 (by omega)) (h.a 5 (by omega)) (by decide)
  have m3 := mulB (C := 301989888) (A := 48) (show -48 ≤ f 3 ∧ f 3 ≤ 48 by omega) (h.a 8 (by omega)) (by decide)
  have m4 := mulB (C := 301989888) (A := 48) (show -48 ≤ f 6 ∧ f 6 ≤ 48 by omega) (h.a 5 (by omega)) (by decide)
  have m5 := mulB (C := 301989888) (A := 48) (show -48 ≤ f 3 ∧ f 3 ≤ 48 by omega) (h.a 7 (by omega)) (by decide)
  have m6 := mulB (C := 301989888) (A := 48) (show -48 ≤ f 6 ∧ f 6 ≤ 48 by omega) (h.a 4 (by omega)) (by decide)
  exact ⟨mulB (A := 48) (B := 79164837199872) (by omega) (by omega) (by decide), mulB (A := 6291456) (B := 603979776) (h.a 1 (by omega)) (by omega) (by decide), mulB (A := 6291456) (B := 603979776) (h.a 2 (by omega)) (by omega) (by decide)⟩
theorem det_B {f : Nat → Int} (h : Tab f) : -11399736556781568 ≤ det f ∧ det f ≤ 11399736556781568 := by
  have := det_parts h
  unfold det
  omega
theorem fn95 (f : Nat → Int) (h : Tab f) : Sy.Fn Try.prog 95 [.agg (c9 f)] (iv (det f)) := by
  refine Fn_of_W mixed Xt95 rfl ?_
  have c12 := fn124 f 1 2 (by omega) (by omega) h
  have c02 := fn124 f 0 2 (by omega) (by omega) h
  have c01 := fn124 f 0 1 (by omega) (by omega) h
  obtain ⟨b1, b2, b3⟩ := det_parts h
  repeat' (first | refine WK_go ?_ | refine W_seqL ?_ | refine W_seq ?_ | refine W_block ?_ | refine W_scp ?_ | ((first | refine W_regL ?_ | refine W_skip ?_ | refine W_exit ?_ | refine CallC.now (c12) ?_ | refine CallC.now (c02) ?_ | refine CallC.now (c01) ?_); simp (maxSteps := 400000) (disch := omega) only [push_cast, ↓reduceIte, reduceCtorEq, Nat.reduceAdd, Nat.reduceSub, Nat.reduceEqDiff, Nat.reduceLeDiff, Nat.reduceLT, Nat.reduceBEq, Nat.reduceDiv, Nat.reduceMod, Nat.reducePow, Nat.reduceMul, Int.reduceToNat, Int.reduceLT, Int.reduceLE]) | refine And.intro (by omega) ?_ | refine And.intro (by intro hq; (try simp only [Bool.and_eq_true, Bool.or_eq_true, Bool.and_eq_false_iff, Bool.or_eq_false_iff, decide_eq_true_eq, decide_eq_false_iff_not, Bool.not_eq_true', Bool.not_eq_false', beq_iff_eq, beq_eq_false_iff_ne, ne_eq] at hq); omega) ?_ | fail)
  exact W_ret ⟨[_], ⟨rfl, rfl⟩, rfl⟩
end Go.Proofs.Ytfkjdjlcaojedaa

/- Platforms: the deck. -/
namespace Go.Proofs.Ytfkjdjlcaojedaa
open Go Sy
set_option maxRecDepth 100000
set_option maxHeartbeats 4000000
set_option linter.unusedVariables false
set_option linter.unusedSimpArgs false
structure Sup where
  x : Int
  y : Int
  g : Int
  limit : Int
  least : Int
  most : Int
def cS (s : Sup) : List AV := [iv s.x, iv s.y, iv s.g, iv s.limit, iv s.least, iv s.most]
theorem nS0 (s : Sup) : nth (cS s) 0 = iv s.x := rfl
theorem nS1 (s : Sup) : nth (cS s) 1 = iv s.y := rfl
theorem nS2 (s : Sup) : nth (cS s) 2 = iv s.g := rfl
theorem nS3 (s : Sup) : nth (cS s) 3 = iv s.limit := rfl
theorem nS4 (s : Sup) : nth (cS s) 4 = iv s.least := rfl
theorem nS5 (s : Sup) : nth (cS s) 5 = iv s.most := rfl
theorem lS (s : Sup) : (cS s).length = 6 := rfl
theorem tS (s : Sup) : List.take 6 (cS s) = cS s := rfl
theorem frS (s : Sup) : frzAll (cS s) = true := rfl
theorem iS {m : Nat → Option Blk} {n : Nat} (s : Sup) : List.flatMap (ids m n) (cS s) = [] := flat_frz n _ (frS s)
attribute [push_cast] nS0 nS1 nS2 nS3 nS4 nS5 lS tS frS iS
def dS : Sup := ⟨0, 0, 0, 0, 0, 0⟩
abbrev aP (ps : List Sup) : AV := .sl 6 dS cS ps
def sp (ps : List Sup) (i : Nat) : Sup := ps.getD i dS
def supB (s : Sup) : Bool := inR s.x (-131072) 131072 && inR s.y (-131072) 131072 && decide (0 ≤ s.g) && decide (s.g ≤ 2) && inR s.limit 1 1048576 && decide (0 ≤ s.least) && decide (s.least ≤ s.most) && decide (s.most ≤ 4096)
def pick (s : Sup) : Nat → Int
  | 0 => 1
  | 1 => s.x
  | _ => s.y
def addK (f : Nat → Int) (s : Sup) (k : Nat) (j : Nat) : Int := f j + if j / 3 = s.g.toNat ∧ j % 3 < k then pick s (j % 3) else 0
def addS (f : Nat → Int) (s : Sup) : Nat → Int := addK f s 3
def sumsL (ps : List Sup) : Nat → Int := ps.foldl addS (fun _ => 0)
theorem sumsL_append (ps : List Sup) (s : Sup) : sumsL (ps ++ [s]) = addS (sumsL ps) s := by simp [sumsL, List.foldl_append]
theorem take_sp (ps : List Sup) (i : Nat) (h : i < ps.length) : ps.take (i + 1) = ps.take i ++ [sp ps i] := by
  rw [List.take_succ_eq_append_getElem h]
  simp [sp, h]
def cDk (ps : List Sup) (f : Nat → Int) (w : Int) : List AV := [.sl 6 dS cS ps, iv (f 0), iv (f 1), iv (f 2), iv (f 3), iv (f 4), iv (f 5), iv (f 6), iv (f 7), iv (f 8), iv w]
theorem nD0 (ps : List Sup) (f : Nat → Int) (w : Int) : nth (cDk ps f w) 0 = .sl 6 dS cS ps := rfl
theorem nDw (ps : List Sup) (f : Nat → Int) (w : Int) : nth (cDk ps f w) 10 = iv w := rfl
theorem nDf (ps : List Sup) (f : Nat → Int) (w : Int) (j : Nat) (h : j < 9) : nth (cDk ps f w) (1 + j) = iv (f j) := by
  rcases j with _ | _ | _ | _ | _ | _ | _ | _ | _ | j <;> first | rfl | omega
theorem lD (ps : List Sup) (f : Nat → Int) (w : Int) : (cDk ps f w).length = 11 := rfl
theorem frD (ps : List Sup) (f : Nat → Int) (w : Int) : frzAll (cDk ps f w) = true := rfl
theorem iD {m : Nat → Option Blk} {n : Nat} (ps : List Sup) (f : Nat → Int) (w : Int) : List.flatMap (ids m n) (cDk ps f w) = [] := flat_frz n _ (frD ps f w)
theorem cutD (ps : List Sup) (f : Nat → Int) (w : Int) : List.take 9 (List.drop 1 (cDk ps f w)) = c9 f := rfl
attribute [push_cast] nD0 nDw nDf lD frD iD cutD
abbrev upd9 (f : Nat → Int) (j : Nat) (v : Int) : Nat → Int := fun i => if i = j then v else f i
theorem setD (ps : List Sup) (f : Nat → Int) (w : Int) (j : Nat) (h : j < 9) (v : Int) : List.take (1 + j) (cDk ps f w) ++ [iv v] ++ List.drop (1 + j + 1) (cDk ps f w) = cDk ps (upd9 f j v) w := by
  rcases j with _ | _ | _ | _ | _ | _ | _ | _ | _ | j <;> first | rfl | omega
theorem setDw (ps : List Sup) (f : Nat → Int) (w v : Int) : List.take 10 (cDk ps f w) ++ [iv v] ++ List.drop 11 (cDk ps f w) = cDk ps f v := rfl
noncomputable def chkP (ps : List Sup) : Int := if ps.length < 3 ∨ 48 < ps.length then 6 else if ps.all supB = false then 2 else if det (sumsL ps) = 0 then 9 else 0
abbrev aDk (ps : List Sup) : AV := .fp (cDk ps (sumsL ps) (det (sumsL ps))) 0
noncomputable def dkR (ps : List Sup) : AV := if chkP ps = 0 then .tup [aDk ps, iv 0] else .tup [.v (.pointer none), iv (chkP ps)]
/-- the sums are small -/
structure Small (f : Nat → Int) (i : Nat) : Prop where
  n : ∀ g, g < 3 → 0 ≤ f (3 * g) ∧ f (3 * g) ≤ i
  a : ∀ j, j < 9 → -(131072 * (i : Int)) ≤ f j ∧ f j ≤ 131072 * i
  r : ∀ g k, g < 3 → k < 3 → -(131072 * f (3 * g)) ≤ f (3 * g + k) ∧ f (3 * g + k) ≤ 131072 * f (3 * g)
theorem Small.tab {f : Nat → Int} {i : Nat} (h : Small f i) (hi : i ≤ 48) : Tab f :=
  ⟨fun g hg => by have := h.n g hg; omega, fun j hj => by have := h.a j hj; omega⟩
theorem supB_iff {s : Sup} : supB s = true ↔ (-131072 ≤ s.x ∧ s.x ≤ 131072) ∧ (-131072 ≤ s.y ∧ s.y ≤ 131072) ∧ (0 ≤ s.g ∧ s.g ≤ 2) ∧ (1 ≤ s.limit ∧ s.limit ≤ 1048576) ∧ 0 ≤ s.least ∧ s.least ≤ s.most ∧ s.most ≤ 4096 := by
  simp only [supB, Bool.and_eq_true, inR_iff, decide_eq_true_eq]
  omega
theorem pick_small {s : Sup} (h : supB s = true) (k : Nat) : -131072 ≤ pick s k ∧ pick s k ≤ 131072 := by
  have := supB_iff.1 h
  rcases k with _ | _ | k <;> simp only [pick] <;> omega
theorem Small.add {f : Nat → Int} {i : Nat} {s : Sup} (h : Small f i) (hs : supB s = true) : Small (addS f s) (i + 1) := by
  refine ⟨fun g hg => ?_, fun j hj => ?_, fun g k hg hk => ?_⟩
  · have h1 := h.n g hg
    unfold addS addK
    have e : 3 * g % 3 = 0 := by omega
    rw [e]
    simp only [pick]
    split <;> omega
  · have h1 := h.a j hj
    have h2 := pick_small hs (j % 3)
    unfold addS addK
    split <;> omega
  · have h1 := h.r g k hg hk
    have h2 := pick_small hs k
    unfold addS addK
    rw [show 3 * g / 3 = g by omega, show 3 * g % 3 = 0 by omega, show (3 * g + k) / 3 = g by omega, show (3 * g + k) % 3 = k by omega]
    by_cases e : g = s.g.toNat
    · rw [if_pos ⟨e, by omega⟩, if_pos ⟨e, hk⟩]
      simp only [pick] at h2 ⊢
      omega
    · rw [if_neg (fun q => e q.1), if_neg (fun q => e q.1)]
      omega
theorem small0 : Small (fun _ => 0) 0 := ⟨fun g hg => by omega, fun j hj => by omega, fun g k hg hk => by omega⟩
theorem addK_zero (f : Nat → Int) (s : Sup) : addK f s 0 = f := by
  funext j; unfold addK; rw [if_neg (by omega)]; omega
theorem addK_succ (f : Nat → Int) (s : Sup) (k g : Nat) (hg : s.g = g) (hk : k < 3) : upd9 (addK f s k) (g * 3 + k) (f (g * 3 + k) + pick s k) = addK f s (k + 1) := by
  funext j
  unfold upd9 addK
  have e : s.g.toNat = g := by omega
  rw [e]
  by_cases h : j = g * 3 + k
  · rw [if_pos h, if_pos (by omega), h, show (g * 3 + k) % 3 = k by omega]
  · rw [if_neg h]
    by_cases h2 : j / 3 = g ∧ j % 3 < k
    · rw [if_pos h2, if_pos (by omega)]
    · rw [if_neg h2, if_neg (by omega)]
theorem addK_here (f : Nat → Int) (s : Sup) (k g : Nat) (hg : s.g = g) (hk : k < 3) : addK f s k (g * 3 + k) = f (g * 3 + k) := by
  unfold addK; rw [if_neg (by omega)]; omega
end Go.Proofs.Ytfkjdjlcaojedaa

/- Platforms: newDeck. -/
namespace Go.Proofs.Ytfkjdjlcaojedaa
open Go Sy
set_option maxRecDepth 100000
set_option maxHeartbeats 4000000
set_option linter.unusedVariables false
set_option linter.unusedSimpArgs false
theorem dkR_bad {ps : List Sup} {e : Int} (h : chkP ps = e) (he : e ≠ 0) : dkR ps = .tup [.v (.pointer none), iv e] := by
  unfold dkR; rw [if_neg (by omega), h]
theorem all_bad {ps : List Sup} {i : Nat} (hi : i < ps.length) (h : supB (sp ps i) = false) : ps.all supB = false := by
  rw [← Bool.not_eq_true, List.all_eq_true]
  intro hx
  have : sp ps i ∈ ps := by simp only [sp, List.getD, List.getElem?_eq_getElem hi, Option.getD_some]; exact List.getElem_mem hi
  rw [hx _ this] at h; cases h
theorem all_good {ps : List Sup} (h : ∀ i, i < ps.length → supB (sp ps i) = true) : ps.all supB = true := by
  rw [List.all_eq_true]
  intro x hx
  obtain ⟨i, hi⟩ := List.mem_iff_getElem?.1 hx
  have h1 := (List.getElem?_eq_some_iff.1 hi).1
  have := h i h1
  simp only [sp, List.getD, hi, Option.getD_some] at this
  exact this
theorem npick (s : Sup) (k : Nat) (h : k < 3) : nth [iv 1, iv s.x, iv s.y] (k * 1) = iv (pick s k) := by
  rcases k with _ | _ | _ | k <;> first | rfl | omega
theorem fn56 (ps : List Sup) (hl : ps.length ≤ 140737488355328) : Sy.Fn Try.prog 56 [aP ps] (dkR ps) := by
  refine Fn_of_W mixed Xt56 rfl ?_
  repeat' (first | refine WK_go ?_ | refine W_seqL ?_ | refine W_seq ?_ | refine W_block ?_ | refine W_scp ?_ | ((first | refine W_regL ?_ | refine W_skip ?_ | refine W_exit ?_); simp (maxSteps := 400000) (disch := omega) only [push_cast, ↓reduceIte, reduceCtorEq, Nat.reduceAdd, Nat.reduceSub, Nat.reduceEqDiff, Nat.reduceLeDiff, Nat.reduceLT, Nat.reduceBEq, Nat.reduceDiv, Nat.reduceMod, Nat.reducePow, Nat.reduceMul, Int.reduceToNat, Int.reduceLT, Int.reduceLE]) | refine And.intro (by omega) ?_ | refine And.intro (by intro hq; (try simp only [Bool.and_eq_true, Bool.or_eq_true, Bool.and_eq_false_iff, Bool.or_eq_false_iff, decide_eq_true_eq, decide_eq_false_iff_not, Bool.not_eq_true', Bool.not_eq_false', beq_iff_eq, beq_eq_false_iff_ne, ne_eq] at hq); omega) ?_ | fail)
  refine W_cond (by rfl) (fun h => ?_) (fun h => ?_)
  · have e : chkP ps = 6 := by
      unfold chkP
      rw [if_pos (by simp only [Bool.or_eq_true, decide_eq_true_eq] at h; omega)]
    rw [dkR_bad e (by decide)]
    repeat' (first | refine WK_go ?_ | refine W_seqL ?_ | refine W_seq ?_ | refine W_block ?_ | refine W_scp ?_ | ((first | refine W_regL ?_ | refine W_skip ?_ | refine W_exit ?_); simp (maxSteps := 400000) (disch := omega) only [push_cast, ↓reduceIte, reduceCtorEq, Nat.reduceAdd, Nat.reduceSub, Nat.reduceEqDiff, Nat.reduceLeDiff, Nat.reduceLT, Nat.reduceBEq, Nat.reduceDiv, Nat.reduceMod, Nat.reducePow, Nat.reduceMul, Int.reduceToNat, Int.reduceLT, Int.reduceLE]) | refine And.intro (by omega) ?_ | refine And.intro (by intro hq; (try simp only [Bool.and_eq_true, Bool.or_eq_true, Bool.and_eq_false_iff, Bool.or_eq_false_iff, decide_eq_true_eq, decide_eq_false_iff_not, Bool.not_eq_true', Bool.not_eq_false', beq_iff_eq, beq_eq_false_iff_ne, ne_eq] at hq); omega) ?_ | fail)
    exact W_ret ⟨[_, _], ⟨rfl, rfl, rfl⟩, rfl⟩
  simp only [Bool.or_eq_false_iff, decide_eq_false_iff_not] at h
  have hlen : 3 ≤ ps.length ∧ ps.length ≤ 48 := by omega
  repeat' (first | refine WK_go ?_ | refine W_seqL ?_ | refine W_seq ?_ | refine W_block ?_ | refine W_scp ?_ | ((first | refine W_regL ?_ | refine W_skip ?_ | refine W_exit ?_); simp (maxSteps := 400000) (disch := omega) only [push_cast, ↓reduceIte, reduceCtorEq, Nat.reduceAdd, Nat.reduceSub, Nat.reduceEqDiff, Nat.reduceLeDiff, Nat.reduceLT, Nat.reduceBEq, Nat.reduceDiv, Nat.reduceMod, Nat.reducePow, Nat.reduceMul, Int.reduceToNat, Int.reduceLT, Int.reduceLE]) | refine And.intro (by omega) ?_ | refine And.intro (by intro hq; (try simp only [Bool.and_eq_true, Bool.or_eq_true, Bool.and_eq_false_iff, Bool.or_eq_false_iff, decide_eq_true_eq, decide_eq_false_iff_not, Bool.not_eq_true', Bool.not_eq_false', beq_iff_eq, beq_eq_false_iff_ne, ne_eq] at hq); omega) ?_ | fail)
  refine W_loopU (fun i : Nat => [(23, iv i)]) (fun i => [(12, .cells (cDk ps (sumsL (ps.take i)) 0))]) (fun i => i ≤ ps.length ∧ (∀ j, j < i → supB (sp ps j) = true) ∧ Small (sumsL (ps.take i)) i) (fun i => ps.length - i) 0 ⟨by omega, fun j hj => by omega, by rw [List.take_zero]; exact small0⟩ (by rfl) (by rw [List.take_zero]; rfl) (fun i hi => ?_)
  obtain ⟨hi, hall, hsm⟩ := hi
  generalize hf : sumsL (ps.take i) = f at *
  simp (maxSteps := 400000) (disch := omega) only [push_cast, ↓reduceIte, reduceCtorEq, Nat.reduceAdd, Nat.reduceSub, Nat.reduceEqDiff, Nat.reduceLeDiff, Nat.reduceLT, Nat.reduceBEq, Nat.reduceDiv, Nat.reduceMod, Nat.reducePow, Nat.reduceMul, Int.reduceToNat, Int.reduceLT, Int.reduceLE]
  repeat' (first | refine WK_go ?_ | refine W_seqL ?_ | refine W_seq ?_ | refine W_block ?_ | refine W_scp ?_ | ((first | refine W_regL ?_ | refine W_skip ?_ | refine W_exit ?_); simp (maxSteps := 400000) (disch := omega) only [push_cast, ↓reduceIte, reduceCtorEq, Nat.reduceAdd, Nat.reduceSub, Nat.reduceEqDiff, Nat.reduceLeDiff, Nat.reduceLT, Nat.reduceBEq, Nat.reduceDiv, Nat.reduceMod, Nat.reducePow, Nat.reduceMul, Int.reduceToNat, Int.reduceLT, Int.reduceLE]) | refine And.intro (by omega) ?_ | refine And.intro (by intro hq; (try simp only [Bool.and_eq_true, Bool.or_eq_true, Bool.and_eq_false_iff, Bool.or_eq_false_iff, decide_eq_true_eq, decide_eq_false_iff_not, Bool.not_eq_true', Bool.not_eq_false', beq_iff_eq, beq_eq_false_iff_ne, ne_eq] at hq); omega) ?_ | fail)
  refine W_condD (by rfl) (fun h5 => ?_) (fun h5 => ?_)
  · have hlt : i < ps.length := by omega
    have hsp : ps.getD i dS = sp ps i := rfl
    generalize hs : sp ps i = s at *
    repeat' (first | refine WK_go ?_ | refine W_seqL ?_ | refine W_seq ?_ | refine W_block ?_ | refine W_scp ?_ | ((first | refine W_regL ?_ | refine W_skip ?_ | refine W_exit ?_ | refine CallC.now (fn53 _ _ _) ?_ | refine CallC.go _ (fun _ => ⟨trivial, fn53 _ _ _⟩) rfl ?_); simp (maxSteps := 400000) (disch := omega) only [push_cast, ↓reduceIte, reduceCtorEq, Nat.reduceAdd, Nat.reduceSub, Nat.reduceEqDiff, Nat.reduceLeDiff, Nat.reduceLT, Nat.reduceBEq, Nat.reduceDiv, Nat.reduceMod, Nat.reducePow, Nat.reduceMul, Int.reduceToNat, Int.reduceLT, Int.reduceLE, hsp]) | refine And.intro (by omega) ?_ | refine And.intro (by intro hq; (try simp only [Bool.and_eq_true, Bool.or_eq_true, Bool.and_eq_false_iff, Bool.or_eq_false_iff, decide_eq_true_eq, decide_eq_false_iff_not, Bool.not_eq_true', Bool.not_eq_false', beq_iff_eq, beq_eq_false_iff_ne, ne_eq] at hq); omega) ?_ | fail)
    have key : (!(inR s.x (-131072) 131072 && inR s.y (-131072) 131072 && decide (0 ≤ s.g) && decide (s.g ≤ 2)) || !inR s.limit 1 1048576 || decide (s.least < 0) || decide (s.most < s.least) || decide (4096 < s.most)) = !supB s := by
      rw [Bool.eq_iff_iff]
      simp only [supB, Bool.or_eq_true, Bool.not_eq_true', Bool.and_eq_false_iff, Bool.and_eq_true, decide_eq_true_eq, decide_eq_false_iff_not]
      generalize inR s.x (-131072) 131072 = b1
      generalize inR s.y (-131072) 131072 = b2
      generalize inR s.limit 1 1048576 = b3
      cases b1 <;> cases b2 <;> cases b3 <;> simp only [true_or, or_true, false_or, or_false, reduceCtorEq] <;> omega
    rw [key]
    refine W_cond (by rfl) (fun hb => ?_) (fun hb => ?_)
    · have e : chkP ps = 2 := by
        unfold chkP
        rw [if_neg (by omega), if_pos (all_bad hlt (by rw [hs]; simpa using hb))]
      rw [dkR_bad e (by decide)]
      repeat' (first | refine WK_go ?_ | refine W_seqL ?_ | refine W_seq ?_ | refine W_block ?_ | refine W_scp ?_ | ((first | refine W_regL ?_ | refine W_skip ?_ | refine W_exit ?_); simp (maxSteps := 400000) (disch := omega) only [push_cast, ↓reduceIte, reduceCtorEq, Nat.reduceAdd, Nat.reduceSub, Nat.reduceEqDiff, Nat.reduceLeDiff, Nat.reduceLT, Nat.reduceBEq, Nat.reduceDiv, Nat.reduceMod, Nat.reducePow, Nat.reduceMul, Int.reduceToNat, Int.reduceLT, Int.reduceLE]) | refine And.intro (by omega) ?_ | refine And.intro (by intro hq; (try simp only [Bool.and_eq_true, Bool.or_eq_true, Bool.and_eq_false_iff, Bool.or_eq_false_iff, decide_eq_true_eq, decide_eq_false_iff_not, Bool.not_eq_true', Bool.not_eq_false', beq_iff_eq, beq_eq_false_iff_ne, ne_eq] at hq); omega) ?_ | fail)
      exact W_ret ⟨[_, _], ⟨rfl, rfl, rfl⟩, rfl⟩
    have hok : supB s = true := by simpa using hb
    obtain ⟨k1, k2, k3, k4, k5, k6, k7⟩ := supB_iff.1 hok
    obtain ⟨g, hg⟩ : ∃ g : Nat, s.g = g := ⟨s.g.toNat, by omega⟩
    have hg3 : g < 3 := by omega
    repeat' (first | refine WK_go ?_ | refine W_seqL ?_ | refine W_seq ?_ | refine W_block ?_ | refine W_scp ?_ | ((first | refine W_regL ?_ | refine W_skip ?_ | refine W_exit ?_); simp (maxSteps := 400000) (disch := omega) only [push_cast, ↓reduceIte, reduceCtorEq, Nat.reduceAdd, Nat.reduceSub, Nat.reduceEqDiff, Nat.reduceLeDiff, Nat.reduceLT, Nat.reduceBEq, Nat.reduceDiv, Nat.reduceMod, Nat.reducePow, Nat.reduceMul, Int.reduceToNat, Int.reduceLT, Int.reduceLE]) | refine And.intro (by omega) ?_ | refine And.intro (by intro hq; (try simp only [Bool.and_eq_true, Bool.or_eq_true, Bool.and_eq_false_iff, Bool.or_eq_false_iff, decide_eq_true_eq, decide_eq_false_iff_not, Bool.not_eq_true', Bool.not_eq_false', beq_iff_eq, beq_eq_false_iff_ne, ne_eq] at hq); omega) ?_ | fail)
    refine W_loopU (fun k : Nat => [(75, iv k)]) (fun k => [(12, .cells (cDk ps (addK f s k) 0))]) (fun k => k ≤ 3) (fun k => 3 - k) 0 (by omega) (by rfl) (by rw [addK_zero]; rfl) (fun k hk => ?_)
    simp (maxSteps := 400000) (disch := omega) only [push_cast, ↓reduceIte, reduceCtorEq, Nat.reduceAdd, Nat.reduceSub, Nat.reduceEqDiff, Nat.reduceLeDiff, Nat.reduceLT, Nat.reduceBEq, Nat.reduceDiv, Nat.reduceMod, Nat.reducePow, Nat.reduceMul, Int.reduceToNat, Int.reduceLT, Int.reduceLE]
    repeat' (first | refine WK_go ?_ | refine W_seqL ?_ | refine W_seq ?_ | refine W_block ?_ | refine W_scp ?_ | ((first | refine W_regL ?_ | refine W_skip ?_ | refine W_exit ?_); simp (maxSteps := 400000) (disch := omega) only [push_cast, ↓reduceIte, reduceCtorEq, Nat.reduceAdd, Nat.reduceSub, Nat.reduceEqDiff, Nat.reduceLeDiff, Nat.reduceLT, Nat.reduceBEq, Nat.reduceDiv, Nat.reduceMod, Nat.reducePow, Nat.reduceMul, Int.reduceToNat, Int.reduceLT, Int.reduceLE]) | refine And.intro (by omega) ?_ | refine And.intro (by intro hq; (try simp only [Bool.and_eq_true, Bool.or_eq_true, Bool.and_eq_false_iff, Bool.or_eq_false_iff, decide_eq_true_eq, decide_eq_false_iff_not, Bool.not_eq_true', Bool.not_eq_false', beq_iff_eq, beq_eq_false_iff_ne, ne_eq] at hq); omega) ?_ | fail)
    refine W_condD (by rfl) (fun h6 => ?_) (fun h6 => ?_)
    · have hk3 : k < 3 := by omega
      have hnp := npick s k hk3
      have hj : g * 3 + k < 9 := by omega
      have ep : 1 + g * 3 + k * 1 = 1 + (g * 3 + k) := by omega
      have hget : nth (cDk ps (addK f s k) 0) (1 + g * 3 + k * 1) = iv (f (g * 3 + k)) := by rw [ep, nDf _ _ _ _ hj, addK_here f s k g hg hk3]
      have hset : List.take (1 + g * 3 + k * 1) (cDk ps (addK f s k) 0) ++ [iv (f (g * 3 + k) + pick s k)] ++ List.drop (1 + g * 3 + k * 1 + 1) (cDk ps (addK f s k) 0) = cDk ps (addK f s (k + 1)) 0 := by
        rw [ep, setD _ _ _ _ hj, addK_succ f s k g hg hk3]
      have hb1 := hsm.a _ hj
      have hb2 := pick_small hok k
      repeat' (first | refine WK_go ?_ | refine W_seqL ?_ | refine W_seq ?_ | refine W_block ?_ | refine W_scp ?_ | ((first | refine W_regL ?_ | refine W_skip ?_ | refine W_exit ?_); simp (maxSteps := 400000) (disch := omega) only [push_cast, ↓reduceIte, reduceCtorEq, Nat.reduceAdd, Nat.reduceSub, Nat.reduceEqDiff, Nat.reduceLeDiff, Nat.reduceLT, Nat.reduceBEq, Nat.reduceDiv, Nat.reduceMod, Nat.reducePow, Nat.reduceMul, Int.reduceToNat, Int.reduceLT, Int.reduceLE, hnp, hg, hget, hset]) | refine And.intro (by omega) ?_ | refine And.intro (by intro hq; (try simp only [Bool.and_eq_true, Bool.or_eq_true, Bool.and_eq_false_iff, Bool.or_eq_false_iff, decide_eq_true_eq, decide_eq_false_iff_not, Bool.not_eq_true', Bool.not_eq_false', beq_iff_eq, beq_eq_false_iff_ne, ne_eq] at hq); omega) ?_ | fail)
      refine ⟨k + 1, by omega, by omega, by rfl, ?_⟩
      simp (maxSteps := 400000) (disch := omega) only [push_cast, ↓reduceIte, reduceCtorEq, Nat.reduceAdd, Nat.reduceSub, Nat.reduceEqDiff, Nat.reduceLeDiff, Nat.reduceLT, Nat.reduceBEq, Nat.reduceDiv, Nat.reduceMod, Nat.reducePow, Nat.reduceMul, Int.reduceToNat, Int.reduceLT, Int.reduceLE, S.mk.injEq, List.cons.injEq, Prod.mk.injEq, AV.v.injEq, Value.int.injEq, Value.bool.injEq, Blk.cells.injEq]
    · obtain rfl : k = 3 := by omega
      have hsu : supB (sp ps i) = true := by rw [hs]; exact hok
      have hnew : sumsL (ps.take (i + 1)) = addK f s 3 := by rw [take_sp ps i hlt, sumsL_append, hf, hs]; rfl
      repeat' (first | refine WK_go ?_ | refine W_seqL ?_ | refine W_seq ?_ | refine W_block ?_ | refine W_scp ?_ | ((first | refine W_regL ?_ | refine W_skip ?_ | refine W_exit ?_); simp (maxSteps := 400000) (disch := omega) only [push_cast, ↓reduceIte, reduceCtorEq, Nat.reduceAdd, Nat.reduceSub, Nat.reduceEqDiff, Nat.reduceLeDiff, Nat.reduceLT, Nat.reduceBEq, Nat.reduceDiv, Nat.reduceMod, Nat.reducePow, Nat.reduceMul, Int.reduceToNat, Int.reduceLT, Int.reduceLE]) | refine And.intro (by omega) ?_ | refine And.intro (by intro hq; (try simp only [Bool.and_eq_true, Bool.or_eq_true, Bool.and_eq_false_iff, Bool.or_eq_false_iff, decide_eq_true_eq, decide_eq_false_iff_not, Bool.not_eq_true', Bool.not_eq_false', beq_iff_eq, beq_eq_false_iff_ne, ne_eq] at hq); omega) ?_ | fail)
      refine ⟨i + 1, ⟨by omega, fun j hj => ?_, by rw [hnew]; exact hsm.add hok⟩, by omega, by rfl, ?_⟩
      · rcases Nat.lt_succ_iff_lt_or_eq.1 hj with hj | rfl
        · exact hall j hj
        · exact hsu
      rw [hnew]
      simp (maxSteps := 400000) (disch := omega) only [push_cast, ↓reduceIte, reduceCtorEq, Nat.reduceAdd, Nat.reduceSub, Nat.reduceEqDiff, Nat.reduceLeDiff, Nat.reduceLT, Nat.reduceBEq, Nat.reduceDiv, Nat.reduceMod, Nat.reducePow, Nat.reduceMul, Int.reduceToNat, Int.reduceLT, Int.reduceLE, S.mk.injEq, List.cons.injEq, Prod.mk.injEq, AV.v.injEq, Value.int.injEq, Value.bool.injEq, Blk.cells.injEq]
  · have hfull : ps.take i = ps := by rw [show i = ps.length by omega, List.take_length]
    rw [hfull] at hf
    have hgood := all_good (fun j hj => hall j (by omega))
    have htab := hsm.tab (by omega)
    have c95 := fn95 f htab
    repeat' (first | refine WK_go ?_ | refine W_seqL ?_ | refine W_seq ?_ | refine W_block ?_ | refine W_scp ?_ | ((first | refine W_regL ?_ | refine W_skip ?_ | refine W_exit ?_ | refine CallC.now (c95) ?_); simp (maxSteps := 400000) (disch := omega) only [push_cast, ↓reduceIte, reduceCtorEq, Nat.reduceAdd, Nat.reduceSub, Nat.reduceEqDiff, Nat.reduceLeDiff, Nat.reduceLT, Nat.reduceBEq, Nat.reduceDiv, Nat.reduceMod, Nat.reducePow, Nat.reduceMul, Int.reduceToNat, Int.reduceLT, Int.reduceLE, setDw]) | refine And.intro (by omega) ?_ | refine And.intro (by intro hq; (try simp only [Bool.and_eq_true, Bool.or_eq_true, Bool.and_eq_false_iff, Bool.or_eq_false_iff, decide_eq_true_eq, decide_eq_false_iff_not, Bool.not_eq_true', Bool.not_eq_false', beq_iff_eq, beq_eq_false_iff_ne, ne_eq] at hq); omega) ?_ | fail)
    have hch : chkP ps = if det f = 0 then 9 else 0 := by
      unfold chkP; rw [if_neg (by omega), hgood, if_neg (by decide), hf]
    refine W_cond (by rfl) (fun hb => ?_) (fun hb => ?_)
    · rw [beq_iff_eq] at hb
      rw [if_pos hb] at hch
      rw [dkR_bad hch (by decide)]
      repeat' (first | refine WK_go ?_ | refine W_seqL ?_ | refine W_seq ?_ | refine W_block ?_ | refine W_scp ?_ | ((first | refine W_regL ?_ | refine W_skip ?_ | refine W_exit ?_); simp (maxSteps := 400000) (disch := omega) only [push_cast, ↓reduceIte, reduceCtorEq, Nat.reduceAdd, Nat.reduceSub, Nat.reduceEqDiff, Nat.reduceLeDiff, Nat.reduceLT, Nat.reduceBEq, Nat.reduceDiv, Nat.reduceMod, Nat.reducePow, Nat.reduceMul, Int.reduceToNat, Int.reduceLT, Int.reduceLE]) | refine And.intro (by omega) ?_ | refine And.intro (by intro hq; (try simp only [Bool.and_eq_true, Bool.or_eq_true, Bool.and_eq_false_iff, Bool.or_eq_false_iff, decide_eq_true_eq, decide_eq_false_iff_not, Bool.not_eq_true', Bool.not_eq_false', beq_iff_eq, beq_eq_false_iff_ne, ne_eq] at hq); omega) ?_ | fail)
      exact W_ret ⟨[_, _], ⟨rfl, rfl, rfl⟩, rfl⟩
    · rw [beq_eq_false_iff_ne] at hb
      rw [if_neg hb] at hch
      have hR : dkR ps = .tup [.fp (cDk ps f (det f)) 0, iv 0] := by unfold dkR aDk; rw [if_pos hch, hf]
      rw [hR]
      repeat' (first | refine WK_go ?_ | refine W_seqL ?_ | refine W_seq ?_ | refine W_block ?_ | refine W_scp ?_ | ((first | refine W_regL ?_ | refine W_skip ?_ | refine W_exit ?_); simp (maxSteps := 400000) (disch := omega) only [push_cast, ↓reduceIte, reduceCtorEq, Nat.reduceAdd, Nat.reduceSub, Nat.reduceEqDiff, Nat.reduceLeDiff, Nat.reduceLT, Nat.reduceBEq, Nat.reduceDiv, Nat.reduceMod, Nat.reducePow, Nat.reduceMul, Int.reduceToNat, Int.reduceLT, Int.reduceLE]) | refine And.intro (by omega) ?_ | refine And.intro (by intro hq; (try simp only [Bool.and_eq_true, Bool.or_eq_true, Bool.and_eq_false_iff, Bool.or_eq_false_iff, decide_eq_true_eq, decide_eq_false_iff_not, Bool.not_eq_true', Bool.not_eq_false', beq_iff_eq, beq_eq_false_iff_ne, ne_eq] at hq); omega) ?_ | fail)
      refine W_ret ⟨[_, _], ⟨rfl, rfl, rfl⟩, ?_⟩
      simp (maxSteps := 400000) (disch := omega) only [push_cast, ↓reduceIte, reduceCtorEq, Nat.reduceAdd, Nat.reduceSub, Nat.reduceEqDiff, Nat.reduceLeDiff, Nat.reduceLT, Nat.reduceBEq, Nat.reduceDiv, Nat.reduceMod, Nat.reducePow, Nat.reduceMul, Int.reduceToNat, Int.reduceLT, Int.reduceLE, pack]
      rfl
theorem chkP_ok {ps : List Sup} (h : chkP ps = 0) : (3 ≤ ps.length ∧ ps.length ≤ 48) ∧ (∀ i, i < ps.length → supB (sp ps i) = true) ∧ det (sumsL ps) ≠ 0 := by
  unfold chkP at h
  split at h
  · omega
  · rename_i h1
    split at h
    · omega
    · rename_i h2
      split at h
      · omega
      · rename_i h3
        refine ⟨by omega, fun i hi => ?_, h3⟩
        rw [← Bool.not_eq_false]
        intro hb
        exact h2 (all_bad hi hb)
theorem sums_small (ps : List Sup) (h : ∀ i, i < ps.length → supB (sp ps i) = true) : ∀ n, n ≤ ps.length → Small (sumsL (ps.take n)) n
  | 0, _ => by rw [List.take_zero]; exact small0
  | n + 1, hn => by rw [take_sp ps n hn, sumsL_append]; exact (sums_small ps h n (by omega)).add (h n hn)
theorem sums_tab {ps : List Sup} (h : chkP ps = 0) : Tab (sumsL ps) := by
  obtain ⟨h1, h2, h3⟩ := chkP_ok h
  have := sums_small ps h2 ps.length (Nat.le_refl _)
  rw [List.take_length] at this
  exact this.tab (by omega)
theorem c56 (ps : List Sup) (hl : ps.length ≤ 140737488355328) (h : chkP ps = 0) : Sy.Fn Try.prog 56 [aP ps] (.tup [aDk ps, iv 0]) := by
  have := fn56 ps hl
  unfold dkR at this
  rw [if_pos h] at this
  exact this
theorem c56n (ps : List Sup) (hl : ps.length ≤ 140737488355328) (h : ¬ chkP ps = 0) : Sy.Fn Try.prog 56 [aP ps] (.tup [.v (.pointer none), iv (chkP ps)]) := by
  have := fn56 ps hl
  unfold dkR at this
  rw [if_neg h] at this
  exact this
end Go.Proofs.Ytfkjdjlcaojedaa

/- Platforms: parts. -/
namespace Go.Proofs.Ytfkjdjlcaojedaa
open Go Sy
set_option maxRecDepth 100000
set_option maxHeartbeats 4000000
set_option linter.unusedVariables false
set_option linter.unusedSimpArgs false
/-- three numbers -/
def c3 (f : Nat → Int) : List AV := [iv (f 0), iv (f 1), iv (f 2)]
theorem nth3 (f : Nat → Int) (i : Nat) (h : i < 3) : nth (c3 f) i = iv (f i) := by
  rcases i with _ | _ | _ | i <;> first | rfl | omega
theorem len3 (f : Nat → Int) : (c3 f).length = 3 := rfl
theorem frz3 (f : Nat → Int) : frzAll (c3 f) = true := rfl
theorem ids3 {m : Nat → Option Blk} {n : Nat} (f : Nat → Int) : List.flatMap (ids m n) (c3 f) = [] := flat_frz n _ (frz3 f)
theorem take3 (f : Nat → Int) : List.take 3 (c3 f) = c3 f := rfl
theorem vw3 {m : Nat → Option Blk} {n : Nat} (f : Nat → Int) : List.map (view m n) (c3 f) = c3 f := by cases n <;> rfl
theorem drop3 (f : Nat → Int) : List.drop 3 (c3 f) = [] := rfl
attribute [push_cast] nth3 len3 frz3 ids3 take3 vw3 drop3
/-- the first k of them -/
def upto (h : Nat → Int) (k : Nat) (j : Nat) : Int := if j < k then h j else 0
theorem set3 (h : Nat → Int) (k : Nat) (hk : k < 3) : List.take k (c3 (upto h k)) ++ [iv (h k)] ++ List.drop (k + 1) (c3 (upto h k)) = c3 (upto h (k + 1)) := by
  rcases k with _ | _ | _ | k <;> first | rfl | omega
theorem set3' (h : Nat → Int) (k : Nat) (hk : k < 3) : List.take (k * 1) (c3 (upto h k)) ++ [iv (h k)] ++ List.drop (k * 1 + 1) (c3 (upto h k)) = c3 (upto h (k + 1)) := by
  rw [Nat.mul_one]; exact set3 h k hk
theorem upto3 (h : Nat → Int) : c3 (upto h 3) = c3 h := rfl
def rowP (p : Pt) : Nat → Int
  | 0 => 1
  | 1 => p.x
  | _ => p.y
def putRow (f : Nat → Int) (g : Nat) (p : Pt) (j : Nat) : Int := if j / 3 = g then rowP p (j % 3) else f j
theorem put9 (f : Nat → Int) (g : Nat) (p : Pt) (h : g < 3) : List.take (g * 3) (c9 f) ++ [iv 1, iv p.x, iv p.y] ++ List.drop (g * 3 + 3) (c9 f) = c9 (putRow f g p) := by
  rcases g with _ | _ | _ | g <;> first | rfl | omega
theorem okPt_iff {p : Pt} : okPt p = true ↔ (-262144 ≤ p.x ∧ p.x ≤ 262144) ∧ -262144 ≤ p.y ∧ p.y ≤ 262144 := by
  simp only [okPt, Bool.and_eq_true, inR_iff]
theorem putRow_tab {f : Nat → Int} {p : Pt} (g : Nat) (h : Tab f) (hp : okPt p = true) : Tab (putRow f g p) := by
  have hp := okPt_iff.1 hp
  refine ⟨fun k hk => ?_, fun j hj => ?_⟩
  · unfold putRow
    have e : 3 * k % 3 = 0 := by omega
    rw [e]
    split
    · simp only [rowP]; omega
    · exact h.n k hk
  · unfold putRow
    split
    · rcases (j % 3) with _ | _ | k <;> simp only [rowP] <;> omega
    · exact h.a j hj
def sgn (w : Int) : Int := if w < 0 then -1 else 1
def part (ps : List Sup) (p : Pt) (g : Nat) : Int := sgn (det (sumsL ps)) * det (putRow (sumsL ps) g p)
def whole (ps : List Sup) : Int := sgn (det (sumsL ps)) * det (sumsL ps)
theorem sgn_mul (w x : Int) : sgn w * x = if w < 0 then -x else x := by unfold sgn; split <;> omega
theorem part_B {ps : List Sup} {p : Pt} (g : Nat) (h : chkP ps = 0) (hp : okPt p = true) : -11399736556781568 ≤ part ps p g ∧ part ps p g ≤ 11399736556781568 := by
  have := det_B (putRow_tab g (sums_tab h) hp)
  unfold part
  rw [sgn_mul]
  split <;> omega
theorem whole_B {ps : List Sup} (h : chkP ps = 0) : 0 < whole ps ∧ whole ps ≤ 11399736556781568 := by
  have h1 := det_B (sums_tab h)
  have h2 := (chkP_ok h).2.2
  unfold whole
  rw [sgn_mul]
  split <;> omega
theorem fn60 (ps : List Sup) (p : Pt) (h : chkP ps = 0) (hp : okPt p = true) : Sy.Fn Try.prog 60 [aDk ps, .agg (cPt p)] (.tup [.agg (c3 (part ps p)), iv (whole ps)]) := by
  refine Fn_of_W mixed Xt60 rfl ?_
  have hw := whole_B h
  have hd := det_B (sums_tab h)
  have c95 := fun g => fn95 (putRow (sumsL ps) g p) (putRow_tab g (sums_tab h) hp)
  have hpart : ∀ g, IntKind.i64.wrap (sgn (det (sumsL ps)) * det (putRow (sumsL ps) g p)) = part ps p g := fun g => by
    have := part_B g h hp
    exact wrap64 ⟨by unfold part at this; omega, by unfold part at this; omega⟩
  have hwh : IntKind.i64.wrap (sgn (det (sumsL ps)) * det (sumsL ps)) = whole ps := by
    exact wrap64 ⟨by unfold whole at hw; omega, by unfold whole at hw; omega⟩
  have htab := sums_tab h
  unfold aDk
  generalize hF : sumsL ps = F at *
  repeat' (first | refine WK_go ?_ | refine W_seqL ?_ | refine W_seq ?_ | refine W_block ?_ | refine W_scp ?_ | ((first | refine W_regL ?_ | refine W_skip ?_ | refine W_exit ?_); simp (maxSteps := 400000) (disch := omega) only [push_cast, ↓reduceIte, reduceCtorEq, Nat.reduceAdd, Nat.reduceSub, Nat.reduceEqDiff, Nat.reduceLeDiff, Nat.reduceLT, Nat.reduceBEq, Nat.reduceDiv, Nat.reduceMod, Nat.reducePow, Nat.reduceMul, Int.reduceToNat, Int.reduceLT, Int.reduceLE]) | refine And.intro (by omega) ?_ | refine And.intro (by intro hq; (try simp only [Bool.and_eq_true, Bool.or_eq_true, Bool.and_eq_false_iff, Bool.or_eq_false_iff, decide_eq_true_eq, decide_eq_false_iff_not, Bool.not_eq_true', Bool.not_eq_false', beq_iff_eq, beq_eq_false_iff_ne, ne_eq] at hq); omega) ?_ | fail)
  refine W_meet [(6, iv (sgn (det F)))] [] ?_ ?_
  · unfold sgn
    refine W_condD (by rfl) (fun h1 => ?_) (fun h1 => ?_)
    · rw [if_pos h1]
      repeat' (first | refine WK_go ?_ | refine W_seqL ?_ | refine W_seq ?_ | refine W_block ?_ | refine W_scp ?_ | ((first | refine W_regL ?_ | refine W_skip ?_ | refine W_exit ?_); simp (maxSteps := 400000) (disch := omega) only [push_cast, ↓reduceIte, reduceCtorEq, Nat.reduceAdd, Nat.reduceSub, Nat.reduceEqDiff, Nat.reduceLeDiff, Nat.reduceLT, Nat.reduceBEq, Nat.reduceDiv, Nat.reduceMod, Nat.reducePow, Nat.reduceMul, Int.reduceToNat, Int.reduceLT, Int.reduceLE]) | refine And.intro (by omega) ?_ | refine And.intro (by intro hq; (try simp only [Bool.and_eq_true, Bool.or_eq_true, Bool.and_eq_false_iff, Bool.or_eq_false_iff, decide_eq_true_eq, decide_eq_false_iff_not, Bool.not_eq_true', Bool.not_eq_false', beq_iff_eq, beq_eq_false_iff_ne, ne_eq] at hq); omega) ?_ | fail)
      rfl
    · rw [if_neg h1]
      repeat' (first | refine WK_go ?_ | refine W_seqL ?_ | refine W_seq ?_ | refine W_block ?_ | refine W_scp ?_ | ((first | refine W_regL ?_ | refine W_skip ?_ | refine W_exit ?_); simp (maxSteps := 400000) (disch := omega) only [push_cast, ↓reduceIte, reduceCtorEq, Nat.reduceAdd, Nat.reduceSub, Nat.reduceEqDiff, Nat.reduceLeDiff, Nat.reduceLT, Nat.reduceBEq, Nat.reduceDiv, Nat.reduceMod, Nat.reducePow, Nat.reduceMul, Int.reduceToNat, Int.reduceLT, Int.reduceLE]) | refine And.intro (by omega) ?_ | refine And.intro (by intro hq; (try simp only [Bool.and_eq_true, Bool.or_eq_true, Bool.and_eq_false_iff, Bool.or_eq_false_iff, decide_eq_true_eq, decide_eq_false_iff_not, Bool.not_eq_true', Bool.not_eq_false', beq_iff_eq, beq_eq_false_iff_ne, ne_eq] at hq); omega) ?_ | fail)
      rfl
  simp (maxSteps := 400000) (disch := omega) only [push_cast, ↓reduceIte, reduceCtorEq, Nat.reduceAdd, Nat.reduceSub, Nat.reduceEqDiff, Nat.reduceLeDiff, Nat.reduceLT, Nat.reduceBEq, Nat.reduceDiv, Nat.reduceMod, Nat.reducePow, Nat.reduceMul, Int.reduceToNat, Int.reduceLT, Int.reduceLE]
  repeat' (first | refine WK_go ?_ | refine W_seqL ?_ | refine W_seq ?_ | refine W_block ?_ | refine W_scp ?_ | ((first | refine W_regL ?_ | refine W_skip ?_ | refine W_exit ?_); simp (maxSteps := 400000) (disch := omega) only [push_cast, ↓reduceIte, reduceCtorEq, Nat.reduceAdd, Nat.reduceSub, Nat.reduceEqDiff, Nat.reduceLeDiff, Nat.reduceLT, Nat.reduceBEq, Nat.reduceDiv, Nat.reduceMod, Nat.reducePow, Nat.reduceMul, Int.reduceToNat, Int.reduceLT, Int.reduceLE]) | refine And.intro (by omega) ?_ | refine And.intro (by intro hq; (try simp only [Bool.and_eq_true, Bool.or_eq_true, Bool.and_eq_false_iff, Bool.or_eq_false_iff, decide_eq_true_eq, decide_eq_false_iff_not, Bool.not_eq_true', Bool.not_eq_false', beq_iff_eq, beq_eq_false_iff_ne, ne_eq] at hq); omega) ?_ | fail)
  refine W_loopU (fun k : Nat => [(14, iv k)]) (fun k => [(1, .cells (c3 (upto (part ps p) k)))]) (fun k => k ≤ 3) (fun k => 3 - k) 0 (by omega) (by rfl) (by rfl) (fun k hk => ?_)
  simp (maxSteps := 400000) (disch := omega) only [push_cast, ↓reduceIte, reduceCtorEq, Nat.reduceAdd, Nat.reduceSub, Nat.reduceEqDiff, Nat.reduceLeDiff, Nat.reduceLT, Nat.reduceBEq, Nat.reduceDiv, Nat.reduceMod, Nat.reducePow, Nat.reduceMul, Int.reduceToNat, Int.reduceLT, Int.reduceLE]
  repeat' (first | refine WK_go ?_ | refine W_seqL ?_ | refine W_seq ?_ | refine W_block ?_ | refine W_scp ?_ | ((first | refine W_regL ?_ | refine W_skip ?_ | refine W_exit ?_); simp (maxSteps := 400000) (disch := omega) only [push_cast, ↓reduceIte, reduceCtorEq, Nat.reduceAdd, Nat.reduceSub, Nat.reduceEqDiff, Nat.reduceLeDiff, Nat.reduceLT, Nat.reduceBEq, Nat.reduceDiv, Nat.reduceMod, Nat.reducePow, Nat.reduceMul, Int.reduceToNat, Int.reduceLT, Int.reduceLE]) | refine And.intro (by omega) ?_ | refine And.intro (by intro hq; (try simp only [Bool.and_eq_true, Bool.or_eq_true, Bool.and_eq_false_iff, Bool.or_eq_false_iff, decide_eq_true_eq, decide_eq_false_iff_not, Bool.not_eq_true', Bool.not_eq_false', beq_iff_eq, beq_eq_false_iff_ne, ne_eq] at hq); omega) ?_ | fail)
  refine W_condD (by rfl) (fun h6 => ?_) (fun h6 => ?_)
  · have hk3 : k < 3 := by omega
    have hput := put9 F k p hk3
    have hset := set3' (part ps p) k hk3
    repeat' (first | refine WK_go ?_ | refine W_seqL ?_ | refine W_seq ?_ | refine W_block ?_ | refine W_scp ?_ | ((first | refine W_regL ?_ | refine W_skip ?_ | refine W_exit ?_ | refine CallC.now (c95 k) ?_); simp (maxSteps := 400000) (disch := omega) only [push_cast, ↓reduceIte, reduceCtorEq, Nat.reduceAdd, Nat.reduceSub, Nat.reduceEqDiff, Nat.reduceLeDiff, Nat.reduceLT, Nat.reduceBEq, Nat.reduceDiv, Nat.reduceMod, Nat.reducePow, Nat.reduceMul, Int.reduceToNat, Int.reduceLT, Int.reduceLE, hput, hset, hpart]) | refine And.intro (by omega) ?_ | refine And.intro (by intro hq; (try simp only [Bool.and_eq_true, Bool.or_eq_true, Bool.and_eq_false_iff, Bool.or_eq_false_iff, decide_eq_true_eq, decide_eq_false_iff_not, Bool.not_eq_true', Bool.not_eq_false', beq_iff_eq, beq_eq_false_iff_ne, ne_eq] at hq); omega) ?_ | fail)
    refine ⟨k + 1, by omega, by omega, by rfl, ?_⟩
    simp (maxSteps := 400000) (disch := omega) only [push_cast, ↓reduceIte, reduceCtorEq, Nat.reduceAdd, Nat.reduceSub, Nat.reduceEqDiff, Nat.reduceLeDiff, Nat.reduceLT, Nat.reduceBEq, Nat.reduceDiv, Nat.reduceMod, Nat.reducePow, Nat.reduceMul, Int.reduceToNat, Int.reduceLT, Int.reduceLE, S.mk.injEq, List.cons.injEq, Prod.mk.injEq, AV.v.injEq, Value.int.injEq, Value.bool.injEq, Blk.cells.injEq]
  · obtain rfl : k = 3 := by omega
    repeat' (first | refine WK_go ?_ | refine W_seqL ?_ | refine W_seq ?_ | refine W_block ?_ | refine W_scp ?_ | ((first | refine W_regL ?_ | refine W_skip ?_ | refine W_exit ?_); simp (maxSteps := 400000) (disch := omega) only [push_cast, ↓reduceIte, reduceCtorEq, Nat.reduceAdd, Nat.reduceSub, Nat.reduceEqDiff, Nat.reduceLeDiff, Nat.reduceLT, Nat.reduceBEq, Nat.reduceDiv, Nat.reduceMod, Nat.reducePow, Nat.reduceMul, Int.reduceToNat, Int.reduceLT, Int.reduceLE, upto3, hwh]) | refine And.intro (by omega) ?_ | refine And.intro (by intro hq; (try simp only [Bool.and_eq_true, Bool.or_eq_true, Bool.and_eq_false_iff, Bool.or_eq_false_iff, decide_eq_true_eq, decide_eq_false_iff_not, Bool.not_eq_true', Bool.not_eq_false', beq_iff_eq, beq_eq_false_iff_ne, ne_eq] at hq); omega) ?_ | fail)
    refine W_ret ⟨[_, _], ⟨⟨by simp [len3], rfl⟩, rfl, rfl⟩, ?_⟩
    rfl
end Go.Proofs.Ytfkjdjlcaojedaa

