/- Part 3 of the proof of: For every platform, load, slope and acceleration the law StaticsStands returns true. -/
import Derived.Test.YtfkjdjlcaojedaaP2
import Derived.Test.YtfkjdjlcaojedaaChecked
import Derived.Lib.Mul64
import Derived.Laws.Bits64b
namespace Go.Proofs.Ytfkjdjlcaojedaa
open Go Sy
set_option maxRecDepth 100000
def Xn13_1 : C := regL [0, 5, 6, 7] none [⟨some 5, .box true 74 (.tmp 1), none⟩, ⟨some 6, .box true 46 (.tmp 2), none⟩, ⟨some 7, .box true 46 (.tmp 3), none⟩, ⟨some 8, .mv (.const (.bool false)), none⟩]
def Xn13_4 : C := regL [0, 5, 6, 7, 33] none [⟨some 13, .mv (.tmp 0), none⟩, ⟨some 14, .len (.tmp 13), none⟩, ⟨some 15, .bin 3 .gtr (.tmp 14) (.const (.int .i64 60)), none⟩, ⟨some 16, .mv (.tmp 15), none⟩, ⟨some 17, .fa 1 (.tmp 5), some (16, false)⟩, ⟨some 18, .ld 71 1 false (.tmp 17), some (16, false)⟩, ⟨some 19, .len (.tmp 18), some (16, false)⟩, ⟨some 20, .bin 3 .gtr (.tmp 19) (.const (.int .i64 40)), some (16, false)⟩, ⟨some 21, .pick 16 (.const (.bool true)) (.tmp 20), none⟩, ⟨some 22, .mv (.tmp 21), none⟩, ⟨some 23, .fa 2 (.tmp 5), some (22, false)⟩, ⟨some 24, .ld 72 1 false (.tmp 23), some (22, false)⟩, ⟨some 25, .len (.tmp 24), some (22, false)⟩, ⟨some 26, .bin 3 .gtr (.tmp 25) (.const (.int .i64 40)), some (22, false)⟩, ⟨some 27, .pick 22 (.const (.bool true)) (.tmp 26), none⟩, ⟨some 28, .mv (.tmp 27), none⟩, ⟨some 29, .fa 0 (.tmp 5), some (28, false)⟩, ⟨some 30, .ld 9 1 false (.tmp 29), some (28, false)⟩, ⟨some 31, .slen (.tmp 30), some (28, false)⟩, ⟨some 32, .bin 3 .gtr (.tmp 31) (.const (.int .i64 100)), some (28, false)⟩, ⟨some 33, .pick 28 (.const (.bool true)) (.tmp 32), none⟩]
def Xn13_7 : C := regL [8] none [⟨some 34, .call 17 [], none⟩, ⟨some 8, .mv (.tmp 34), none⟩]
def Xn13_6 : C := .seq Xn13_7 .ret
def Xn13_5 : C := .cond (.tmp 33) Xn13_6 .skip
def Xn13_3 : C := .seq Xn13_4 Xn13_5
def Xn13_11 : C := regL [0, 5, 6, 7, 9, 10] none [⟨some 36, .mv (.tmp 0), none⟩, ⟨some 37, .ld 74 4 true (.tmp 5), none⟩, ⟨some 38, .ld 46 2 true (.tmp 6), none⟩, ⟨some 39, .ld 46 2 true (.tmp 7), none⟩, ⟨some 40, .call 45 [.tmp 36, .tmp 37, .tmp 38, .tmp 39], none⟩, ⟨some 35, .mv (.tmp 40), none⟩, ⟨some 41, .ext 0 (.tmp 35), none⟩, ⟨some 42, .ext 1 (.tmp 35), none⟩, ⟨some 9, .alc 30 (.agg #[.int .i64 0, .int .i64 0, .int .i64 0]), none⟩, ⟨none, .st 30 3 (.tmp 9) (.tmp 41), none⟩, ⟨some 10, .mv (.tmp 42), none⟩]
def Xn13_13 : C := regL [9, 10, 11, 12] none [⟨some 44, .mv (.tmp 0), none⟩, ⟨some 45, .ld 74 4 true (.tmp 5), none⟩, ⟨some 46, .ld 46 2 true (.tmp 6), none⟩, ⟨some 47, .ld 46 2 true (.tmp 7), none⟩, ⟨some 48, .call 46 [.tmp 44, .tmp 45, .tmp 46, .tmp 47], none⟩, ⟨some 43, .mv (.tmp 48), none⟩, ⟨some 49, .ext 0 (.tmp 43), none⟩, ⟨some 50, .ext 1 (.tmp 43), none⟩, ⟨some 11, .alc 30 (.agg #[.int .i64 0, .int .i64 0, .int .i64 0]), none⟩, ⟨none, .st 30 3 (.tmp 11) (.tmp 49), none⟩, ⟨some 12, .mv (.tmp 50), none⟩]
def Xn13_15 : C := regL [8] none [⟨some 51, .ld 30 3 true (.tmp 9), none⟩, ⟨some 52, .ld 30 3 true (.tmp 11), none⟩, ⟨some 53, .eqb 21 false (.tmp 51) (.tmp 52), none⟩, ⟨some 54, .mv (.tmp 53), none⟩, ⟨some 55, .mv (.tmp 10), some (54, true)⟩, ⟨some 56, .mv (.tmp 12), some (54, true)⟩, ⟨some 57, .bin 22 .eql (.tmp 55) (.tmp 56), some (54, true)⟩, ⟨some 58, .pick 54 (.tmp 57) (.const (.bool false)), none⟩, ⟨some 59, .mv (.tmp 58), none⟩, ⟨some 60, .call 17 [], some (59, true)⟩, ⟨some 61, .pick 59 (.tmp 60) (.const (.bool false)), none⟩, ⟨some 8, .mv (.tmp 61), none⟩]
def Xn13_14 : C := .seq Xn13_15 .ret
def Xn13_12 : C := .seq Xn13_13 Xn13_14
def Xn13_10 : C := .seq Xn13_11 Xn13_12
def Xn13_2 : C := seqL [0, 5, 6, 7] Xn13_3 Xn13_10
def Xn13_0 : C := .seq Xn13_1 Xn13_2
theorem Xt13 : Text Try.prog 13 Xn13_0 62 4 [.t 8] := ⟨⟨Try.f13, [5, 6, 7], Try.func13, by kernel_rfl, by kernel_rfl, by kernel_rfl, by kernel_rfl⟩⟩
def Xn16_1 : C := regL [0, 1, 2, 3] none [⟨some 8, .mv (.const (.int .i64 0)), none⟩, ⟨some 9, .mv (.const (.int .i64 0)), none⟩, ⟨some 10, .mv (.const (.int .i64 0)), none⟩]
def Xn16_3 : C := regL [0, 1, 2, 3, 11] none [⟨some 11, .mv (.func 52), none⟩]
def Xn16_7 : C := regL [0, 1, 2, 3, 12] none [⟨some 13, .mv (.tmp 0), none⟩, ⟨some 14, .call 54 [.tmp 13], none⟩, ⟨some 15, .un .not (.tmp 14), none⟩, ⟨some 16, .mv (.tmp 15), none⟩, ⟨some 17, .mv (.tmp 11), some (16, false)⟩, ⟨some 18, .mv (.tmp 1), some (16, false)⟩, ⟨some 19, .callv (.tmp 17) [.tmp 18], some (16, false)⟩, ⟨some 20, .un .not (.tmp 19), some (16, false)⟩, ⟨some 21, .pick 16 (.const (.bool true)) (.tmp 20), none⟩, ⟨some 22, .mv (.tmp 21), none⟩, ⟨some 23, .mv (.tmp 11), some (22, false)⟩, ⟨some 24, .mv (.tmp 2), some (22, false)⟩, ⟨some 25, .callv (.tmp 23) [.tmp 24], some (22, false)⟩, ⟨some 26, .un .not (.tmp 25), some (22, false)⟩, ⟨some 27, .pick 22 (.const (.bool true)) (.tmp 26), none⟩, ⟨some 28, .mv (.tmp 27), none⟩, ⟨some 29, .mv (.tmp 11), some (28, false)⟩, ⟨some 30, .mv (.tmp 3), some (28, false)⟩, ⟨some 31, .callv (.tmp 29) [.tmp 30], some (28, false)⟩, ⟨some 32, .un .not (.tmp 31), some (28, false)⟩, ⟨some 33, .pick 28 (.const (.bool true)) (.tmp 32), none⟩, ⟨some 12, .mv (.tmp 33), none⟩]
def Xn16_10 : C := regL [8, 9, 10] none [⟨some 8, .mv (.const (.int .i64 0)), none⟩, ⟨some 9, .mv (.const (.int .i64 0)), none⟩, ⟨some 10, .mv (.const (.int .i64 3)), none⟩]
def Xn16_9 : C := .seq Xn16_10 .ret
def Xn16_13 : C := regL [0, 1, 2, 3, 34] none [⟨some 35, .mv (.tmp 1), none⟩, ⟨some 36, .mv (.tmp 2), none⟩, ⟨some 37, .bin 2 .geq (.tmp 35) (.tmp 36), none⟩, ⟨some 34, .mv (.tmp 37), none⟩]
def Xn16_16 : C := regL [8, 9, 10] none [⟨some 8, .mv (.const (.int .i64 0)), none⟩, ⟨some 9, .mv (.const (.int .i64 0)), none⟩, ⟨some 10, .mv (.const (.int .i64 9)), none⟩]
def Xn16_15 : C := .seq Xn16_16 .ret
def Xn16_19 : C := regL [0, 1, 2, 3, 38] none [⟨some 39, .mv (.tmp 3), none⟩, ⟨some 40, .mv (.tmp 1), none⟩, ⟨some 41, .mv (.tmp 2), none⟩, ⟨some 42, .call 53 [.tmp 39, .tmp 40, .tmp 41], none⟩, ⟨some 43, .un .not (.tmp 42), none⟩, ⟨some 38, .mv (.tmp 43), none⟩]
def Xn16_22 : C := regL [8, 9, 10] none [⟨some 8, .mv (.const (.int .i64 0)), none⟩, ⟨some 9, .mv (.const (.int .i64 0)), none⟩, ⟨some 10, .mv (.const (.int .i64 19)), none⟩]
def Xn16_21 : C := .seq Xn16_22 .ret
def Xn16_20 : C := .cond (.tmp 38) Xn16_21 .skip
def Xn16_18 : C := .seq Xn16_19 Xn16_20
def Xn16_14 : C := .cond (.tmp 34) Xn16_15 Xn16_18
def Xn16_12 : C := .seq Xn16_13 Xn16_14
def Xn16_8 : C := .cond (.tmp 12) Xn16_9 Xn16_12
def Xn16_6 : C := .seq Xn16_7 Xn16_8
def Xn16_5 : C := .block 0 Xn16_6
def Xn16_26 : C := regL [8, 9, 10] none [⟨some 44, .mv (.tmp 0), none⟩, ⟨some 45, .mv (.tmp 2), none⟩, ⟨some 46, .mv (.tmp 3), none⟩, ⟨some 47, .bin 2 .sub (.tmp 45) (.tmp 46), none⟩, ⟨some 48, .mv (.tmp 2), none⟩, ⟨some 49, .mv (.tmp 1), none⟩, ⟨some 50, .bin 2 .sub (.tmp 48) (.tmp 49), none⟩, ⟨some 51, .bld (.agg #[.int .i64 0, .int .i64 0, .int .i64 0]) [(0, 1, .tmp 44), (1, 1, .tmp 47), (2, 1, .tmp 50)], none⟩, ⟨some 52, .call 55 [.tmp 51], none⟩, ⟨some 53, .mv (.tmp 0), none⟩, ⟨some 54, .mv (.tmp 3), none⟩, ⟨some 55, .mv (.tmp 1), none⟩, ⟨some 56, .bin 2 .sub (.tmp 54) (.tmp 55), none⟩, ⟨some 57, .mv (.tmp 2), none⟩, ⟨some 58, .mv (.tmp 1), none⟩, ⟨some 59, .bin 2 .sub (.tmp 57) (.tmp 58), none⟩, ⟨some 60, .bld (.agg #[.int .i64 0, .int .i64 0, .int .i64 0]) [(0, 1, .tmp 53), (1, 1, .tmp 56), (2, 1, .tmp 59)], none⟩, ⟨some 61, .call 55 [.tmp 60], none⟩, ⟨some 8, .mv (.tmp 52), none⟩, ⟨some 9, .mv (.tmp 61), none⟩, ⟨some 10, .mv (.const (.int .i64 0)), none⟩]
def Xn16_25 : C := .seq Xn16_26 .ret
def Xn16_4 : C := seqL [0, 1, 2, 3] Xn16_5 Xn16_25
def Xn16_2 : C := .seq Xn16_3 Xn16_4
def Xn16_0 : C := .seq Xn16_1 Xn16_2
theorem Xt16 : Text Try.prog 16 Xn16_0 62 4 [.t 8, .t 9, .t 10] := ⟨⟨Try.f16, [], Try.func16, by kernel_rfl, by kernel_rfl, by kernel_rfl, by kernel_rfl⟩⟩
def Xn17_1 : C := regL [] none [⟨some 0, .mv (.const (.bool false)), none⟩]
def Xn17_3 : C := regL [1, 2] none [⟨some 9, .call 35 [], none⟩, ⟨some 10, .bld (.agg #[.int .i64 0, .int .i64 0]) [(0, 1, .const (.int .i64 2000))], none⟩, ⟨some 11, .call 21 [.tmp 9, .const (.int .i64 16000), .tmp 10], none⟩, ⟨some 8, .mv (.tmp 11), none⟩, ⟨some 12, .ext 0 (.tmp 8), none⟩, ⟨some 13, .ext 1 (.tmp 8), none⟩, ⟨some 1, .alc 30 (.agg #[.int .i64 0, .int .i64 0, .int .i64 0]), none⟩, ⟨none, .st 30 3 (.tmp 1) (.tmp 12), none⟩, ⟨some 2, .mv (.tmp 13), none⟩]
def Xn17_5 : C := regL [1, 2, 3, 4] none [⟨some 15, .call 35 [], none⟩, ⟨some 16, .bld (.agg #[.int .i64 0, .int .i64 0]) [(0, 1, .const (.int .i64 5000))], none⟩, ⟨some 17, .call 19 [.tmp 15, .tmp 16], none⟩, ⟨some 14, .mv (.tmp 17), none⟩, ⟨some 18, .ext 0 (.tmp 14), none⟩, ⟨some 19, .ext 1 (.tmp 14), none⟩, ⟨some 3, .mv (.tmp 18), none⟩, ⟨some 4, .mv (.tmp 19), none⟩]
def Xn17_7 : C := regL [1, 2, 3, 4, 5, 6, 7] none [⟨some 21, .call 16 [.const (.int .i64 1000), .const (.int .i64 0), .const (.int .i64 3), .const (.int .i64 1)], none⟩, ⟨some 20, .mv (.tmp 21), none⟩, ⟨some 22, .ext 0 (.tmp 20), none⟩, ⟨some 23, .ext 1 (.tmp 20), none⟩, ⟨some 24, .ext 2 (.tmp 20), none⟩, ⟨some 5, .mv (.tmp 22), none⟩, ⟨some 6, .mv (.tmp 23), none⟩, ⟨some 7, .mv (.tmp 24), none⟩]
def Xn17_9 : C := regL [0] none [⟨some 25, .mv (.tmp 2), none⟩, ⟨some 26, .mv (.tmp 4), none⟩, ⟨some 27, .bin 22 .add (.tmp 25) (.tmp 26), none⟩, ⟨some 28, .mv (.tmp 7), none⟩, ⟨some 29, .bin 22 .add (.tmp 27) (.tmp 28), none⟩, ⟨some 30, .bin 22 .eql (.tmp 29) (.const (.int .i64 0)), none⟩, ⟨some 31, .mv (.tmp 30), none⟩, ⟨some 32, .ld 30 3 true (.tmp 1), some (31, true)⟩, ⟨some 33, .bld (.agg #[.int .i64 0, .int .i64 0, .int .i64 0]) [(0, 1, .const (.int .i64 4000)), (1, 1, .const (.int .i64 3000)), (2, 1, .const (.int .i64 5000))], some (31, true)⟩, ⟨some 34, .eqb 21 false (.tmp 32) (.tmp 33), some (31, true)⟩, ⟨some 35, .pick 31 (.tmp 34) (.const (.bool false)), none⟩, ⟨some 36, .mv (.tmp 35), none⟩, ⟨some 37, .mv (.tmp 3), some (36, true)⟩, ⟨some 38, .bin 3 .eql (.tmp 37) (.const (.int .i64 0)), some (36, true)⟩, ⟨some 39, .pick 36 (.tmp 38) (.const (.bool false)), none⟩, ⟨some 40, .mv (.tmp 39), none⟩, ⟨some 41, .mv (.tmp 5), some (40, true)⟩, ⟨some 42, .bin 2 .eql (.tmp 41) (.const (.int .i64 667)), some (40, true)⟩, ⟨some 43, .pick 40 (.tmp 42) (.const (.bool false)), none⟩, ⟨some 44, .mv (.tmp 43), none⟩, ⟨some 45, .mv (.tmp 6), some (44, true)⟩, ⟨some 46, .bin 2 .eql (.tmp 45) (.const (.int .i64 334)), some (44, true)⟩, ⟨some 47, .pick 44 (.tmp 46) (.const (.bool false)), none⟩, ⟨some 0, .mv (.tmp 47), none⟩]
def Xn17_8 : C := .seq Xn17_9 .ret
def Xn17_6 : C := .seq Xn17_7 Xn17_8
def Xn17_4 : C := .seq Xn17_5 Xn17_6
def Xn17_2 : C := .seq Xn17_3 Xn17_4
def Xn17_0 : C := .seq Xn17_1 Xn17_2
theorem Xt17 : Text Try.prog 17 Xn17_0 48 0 [.t 0] := ⟨⟨Try.f17, [], Try.func17, by kernel_rfl, by kernel_rfl, by kernel_rfl, by kernel_rfl⟩⟩
def Xn19_1 : C := regL [0, 3] none [⟨some 3, .box true 29 (.tmp 1), none⟩, ⟨some 4, .mv (.const (.int .i64 0)), none⟩, ⟨some 5, .mv (.const (.int .i64 0)), none⟩]
def Xn19_3 : C := regL [3, 6, 7] none [⟨some 10, .mv (.tmp 0), none⟩, ⟨some 11, .call 56 [.tmp 10], none⟩, ⟨some 9, .mv (.tmp 11), none⟩, ⟨some 12, .ext 0 (.tmp 9), none⟩, ⟨some 13, .ext 1 (.tmp 9), none⟩, ⟨some 6, .mv (.tmp 12), none⟩, ⟨some 7, .mv (.tmp 13), none⟩]
def Xn19_6 : C := regL [3, 6, 7, 15] none [⟨some 14, .mv (.tmp 7), none⟩, ⟨some 15, .bin 22 .neq (.tmp 14) (.const (.int .i64 0)), none⟩]
def Xn19_9 : C := regL [4, 5] none [⟨some 16, .mv (.tmp 7), none⟩, ⟨some 4, .mv (.const (.int .i64 0)), none⟩, ⟨some 5, .mv (.tmp 16), none⟩]
def Xn19_8 : C := .seq Xn19_9 .ret
def Xn19_7 : C := .cond (.tmp 15) Xn19_8 .skip
def Xn19_5 : C := .seq Xn19_6 Xn19_7
def Xn19_14 : C := regL [3, 6, 19] none [⟨some 17, .ld 29 2 true (.tmp 3), none⟩, ⟨some 18, .call 57 [.tmp 17], none⟩, ⟨some 19, .un .not (.tmp 18), none⟩]
def Xn19_17 : C := regL [4, 5] none [⟨some 4, .mv (.const (.int .i64 0)), none⟩, ⟨some 5, .mv (.const (.int .i64 3)), none⟩]
def Xn19_16 : C := .seq Xn19_17 .ret
def Xn19_15 : C := .cond (.tmp 19) Xn19_16 .skip
def Xn19_13 : C := .seq Xn19_14 Xn19_15
def Xn19_22 : C := regL [8] none [⟨some 20, .mv (.tmp 6), none⟩, ⟨some 21, .ld 29 2 true (.tmp 3), none⟩, ⟨some 22, .call 58 [.tmp 20, .tmp 21], none⟩, ⟨some 8, .mv (.tmp 22), none⟩]
def Xn19_24 : C := regL [8, 24] none [⟨some 23, .mv (.tmp 8), none⟩, ⟨some 24, .bin 3 .geq (.tmp 23) (.const (.int .i64 0)), none⟩]
def Xn19_27 : C := regL [4, 5] none [⟨some 25, .mv (.tmp 8), none⟩, ⟨some 4, .mv (.tmp 25), none⟩, ⟨some 5, .mv (.const (.int .i64 0)), none⟩]
def Xn19_26 : C := .seq Xn19_27 .ret
def Xn19_25 : C := .cond (.tmp 24) Xn19_26 .skip
def Xn19_23 : C := .seq Xn19_24 Xn19_25
def Xn19_21 : C := .seq Xn19_22 Xn19_23
def Xn19_31 : C := regL [4, 5] none [⟨some 4, .mv (.const (.int .i64 0)), none⟩, ⟨some 5, .mv (.const (.int .i64 5)), none⟩]
def Xn19_30 : C := .seq Xn19_31 .ret
def Xn19_20 : C := seqL [] Xn19_21 Xn19_30
def Xn19_12 : C := seqL [3, 6] Xn19_13 Xn19_20
def Xn19_4 : C := seqL [3, 6] Xn19_5 Xn19_12
def Xn19_2 : C := .seq Xn19_3 Xn19_4
def Xn19_0 : C := .seq Xn19_1 Xn19_2
theorem Xt19 : Text Try.prog 19 Xn19_0 26 2 [.t 4, .t 5] := ⟨⟨Try.f19, [3], Try.func19, by kernel_rfl, by kernel_rfl, by kernel_rfl, by kernel_rfl⟩⟩
def Xn21_1 : C := regL [0, 1, 5, 6] none [⟨some 5, .box true 29 (.tmp 2), none⟩, ⟨some 6, .alc 30 (.agg #[.int .i64 0, .int .i64 0, .int .i64 0]), none⟩, ⟨some 7, .mv (.const (.int .i64 0)), none⟩]
def Xn21_3 : C := regL [1, 5, 6, 8, 9] none [⟨some 11, .mv (.tmp 0), none⟩, ⟨some 12, .call 56 [.tmp 11], none⟩, ⟨some 10, .mv (.tmp 12), none⟩, ⟨some 13, .ext 0 (.tmp 10), none⟩, ⟨some 14, .ext 1 (.tmp 10), none⟩, ⟨some 8, .mv (.tmp 13), none⟩, ⟨some 9, .mv (.tmp 14), none⟩]
def Xn21_6 : C := regL [1, 5, 6, 8, 9, 16] none [⟨some 15, .mv (.tmp 9), none⟩, ⟨some 16, .bin 22 .neq (.tmp 15) (.const (.int .i64 0)), none⟩]
def Xn21_9 : C := regL [6, 7] none [⟨some 17, .bld (.agg #[.int .i64 0, .int .i64 0, .int .i64 0]) [], none⟩, ⟨some 18, .mv (.tmp 9), none⟩, ⟨none, .st 30 3 (.tmp 6) (.tmp 17), none⟩, ⟨some 7, .mv (.tmp 18), none⟩]
def Xn21_8 : C := .seq Xn21_9 .ret
def Xn21_7 : C := .cond (.tmp 16) Xn21_8 .skip
def Xn21_5 : C := .seq Xn21_6 Xn21_7
def Xn21_13 : C := regL [6, 7] none [⟨some 19, .mv (.tmp 8), none⟩, ⟨some 20, .mv (.tmp 1), none⟩, ⟨some 21, .ld 29 2 true (.tmp 5), none⟩, ⟨some 22, .call 59 [.tmp 19, .tmp 20, .tmp 21], none⟩, ⟨some 23, .ext 0 (.tmp 22), none⟩, ⟨some 24, .ext 1 (.tmp 22), none⟩, ⟨none, .st 30 3 (.tmp 6) (.tmp 23), none⟩, ⟨some 7, .mv (.tmp 24), none⟩]
def Xn21_12 : C := .seq Xn21_13 .ret
def Xn21_4 : C := seqL [1, 5, 6, 8] Xn21_5 Xn21_12
def Xn21_2 : C := .seq Xn21_3 Xn21_4
def Xn21_0 : C := .seq Xn21_1 Xn21_2
theorem Xt21 : Text Try.prog 21 Xn21_0 25 3 [.c 6 3 true, .t 7] := ⟨⟨Try.f21, [5], Try.func21, by kernel_rfl, by kernel_rfl, by kernel_rfl, by kernel_rfl⟩⟩
def Xn28_1 : C := regL [0] none [⟨some 2, .mv (.const (.int .i64 0)), none⟩]
def Xn28_4 : C := regL [0, 11] none [⟨some 4, .mv (.tmp 0), none⟩, ⟨some 5, .len (.tmp 4), none⟩, ⟨some 6, .bin 3 .lss (.tmp 5) (.const (.int .i64 3)), none⟩, ⟨some 7, .mv (.tmp 6), none⟩, ⟨some 8, .mv (.tmp 0), some (7, false)⟩, ⟨some 9, .len (.tmp 8), some (7, false)⟩, ⟨some 10, .bin 3 .gtr (.tmp 9) (.const (.int .i64 48)), some (7, false)⟩, ⟨some 11, .pick 7 (.const (.bool true)) (.tmp 10), none⟩]
def Xn28_7 : C := regL [2] none [⟨some 2, .mv (.const (.int .i64 6)), none⟩]
def Xn28_6 : C := .seq Xn28_7 .ret
def Xn28_5 : C := .cond (.tmp 11) Xn28_6 .skip
def Xn28_3 : C := .seq Xn28_4 Xn28_5
def Xn28_12 : C := regL [0, 3] none [⟨some 3, .mv (.const (.int .i64 0)), none⟩]
def Xn28_17 : C := regL [0, 3, 15] none [⟨some 12, .mv (.tmp 3), none⟩, ⟨some 13, .mv (.tmp 0), none⟩, ⟨some 14, .len (.tmp 13), none⟩, ⟨some 15, .bin 3 .lss (.tmp 12) (.tmp 14), none⟩]
def Xn28_18 : C := .cond (.tmp 15) .skip (.exit 0)
def Xn28_16 : C := .seq Xn28_17 Xn28_18
def Xn28_24 : C := regL [0, 3, 23] none [⟨some 18, .mv (.tmp 0), none⟩, ⟨some 19, .mv (.tmp 3), none⟩, ⟨some 20, .ia 6 (.tmp 18) (.tmp 19), none⟩, ⟨some 21, .ld 62 6 true (.tmp 20), none⟩, ⟨some 22, .call 66 [.tmp 21], none⟩, ⟨some 23, .un .not (.tmp 22), none⟩]
def Xn28_27 : C := regL [2] none [⟨some 2, .mv (.const (.int .i64 2)), none⟩]
def Xn28_26 : C := .seq Xn28_27 .ret
def Xn28_25 : C := .cond (.tmp 23) Xn28_26 .skip
def Xn28_23 : C := .seq Xn28_24 Xn28_25
def Xn28_22 : C := .block 1 Xn28_23
def Xn28_30 : C := regL [0, 3] none [⟨some 16, .mv (.tmp 3), none⟩, ⟨some 17, .bin 3 .add (.tmp 16) (.const (.int .i64 1)), none⟩, ⟨some 3, .mv (.tmp 17), none⟩]
def Xn28_21 : C := seqL [0, 3] Xn28_22 Xn28_30
def Xn28_15 : C := seqL [0, 3] Xn28_16 Xn28_21
def Xn28_14 : C := loopL [0, 3] Xn28_15
def Xn28_13 : C := .block 0 Xn28_14
def Xn28_11 : C := .seq Xn28_12 Xn28_13
def Xn28_33 : C := regL [27] none [⟨some 24, .mv (.tmp 0), none⟩, ⟨some 25, .call 61 [.tmp 24], none⟩, ⟨some 26, .call 67 [.tmp 25], none⟩, ⟨some 27, .bin 2 .eql (.tmp 26) (.const (.int .i64 0)), none⟩]
def Xn28_36 : C := regL [2] none [⟨some 2, .mv (.const (.int .i64 9)), none⟩]
def Xn28_35 : C := .seq Xn28_36 .ret
def Xn28_34 : C := .cond (.tmp 27) Xn28_35 .skip
def Xn28_32 : C := .seq Xn28_33 Xn28_34
def Xn28_40 : C := regL [2] none [⟨some 2, .mv (.const (.int .i64 0)), none⟩]
def Xn28_39 : C := .seq Xn28_40 .ret
def Xn28_31 : C := seqL [] Xn28_32 Xn28_39
def Xn28_10 : C := seqL [0] Xn28_11 Xn28_31
def Xn28_2 : C := seqL [0] Xn28_3 Xn28_10
def Xn28_0 : C := .seq Xn28_1 Xn28_2
theorem Xt28 : Text Try.prog 28 Xn28_0 28 1 [.t 2] := ⟨⟨Try.f28, [], Try.func28, by kernel_rfl, by kernel_rfl, by kernel_rfl, by kernel_rfl⟩⟩
def Xn29_1 : C := regL [3, 4, 5, 6] none [⟨some 3, .box true 30 (.tmp 0), none⟩, ⟨some 4, .box true 46 (.tmp 1), none⟩, ⟨some 5, .box true 46 (.tmp 2), none⟩, ⟨some 6, .alc 29 (.agg #[.int .i64 0, .int .i64 0]), none⟩, ⟨some 7, .mv (.const (.int .i64 0)), none⟩]
def Xn29_4 : C := regL [3, 4, 5, 6, 20] none [⟨some 8, .ld 30 3 true (.tmp 3), none⟩, ⟨some 9, .call 68 [.tmp 8], none⟩, ⟨some 10, .un .not (.tmp 9), none⟩, ⟨some 11, .mv (.tmp 10), none⟩, ⟨some 12, .ld 46 2 true (.tmp 4), some (11, false)⟩, ⟨some 13, .call 69 [.tmp 12], some (11, false)⟩, ⟨some 14, .un .not (.tmp 13), some (11, false)⟩, ⟨some 15, .pick 11 (.const (.bool true)) (.tmp 14), none⟩, ⟨some 16, .mv (.tmp 15), none⟩, ⟨some 17, .ld 46 2 true (.tmp 5), some (16, false)⟩, ⟨some 18, .call 69 [.tmp 17], some (16, false)⟩, ⟨some 19, .un .not (.tmp 18), some (16, false)⟩, ⟨some 20, .pick 16 (.const (.bool true)) (.tmp 19), none⟩]
def Xn29_7 : C := regL [6, 7] none [⟨some 21, .bld (.agg #[.int .i64 0, .int .i64 0]) [], none⟩, ⟨none, .st 29 2 (.tmp 6) (.tmp 21), none⟩, ⟨some 7, .mv (.const (.int .i64 3)), none⟩]
def Xn29_6 : C := .seq Xn29_7 .ret
def Xn29_5 : C := .cond (.tmp 20) Xn29_6 .skip
def Xn29_3 : C := .seq Xn29_4 Xn29_5
def Xn29_11 : C := regL [6, 7] (some [0, 1, 0, 4, 0, 16, 0, 64, 240, 508, 1020, 2047, 0, 4096, 0, 16384, 0, 65536, 0, 262144, 983040, 2080768, 4179964, 8386556, 16777215, 33554431, 67108863]) [⟨some 22, .iaa 3 1 (.tmp 3) (.const (.int .i64 0)), none⟩, ⟨some 23, .ld 2 1 false (.tmp 22), none⟩, ⟨some 24, .iaa 3 1 (.tmp 3) (.const (.int .i64 2)), none⟩, ⟨some 25, .ld 2 1 false (.tmp 24), none⟩, ⟨some 26, .fa 0 (.tmp 4), none⟩, ⟨some 27, .ld 2 1 false (.tmp 26), none⟩, ⟨some 28, .fa 0 (.tmp 5), none⟩, ⟨some 29, .ld 2 1 false (.tmp 28), none⟩, ⟨some 30, .bin 2 .add (.tmp 27) (.tmp 29), none⟩, ⟨some 31, .bin 2 .mul (.tmp 25) (.tmp 30), none⟩, ⟨some 32, .call 70 [.tmp 31, .const (.int .i64 1000)], none⟩, ⟨some 33, .bin 2 .add (.tmp 23) (.tmp 32), none⟩, ⟨some 34, .iaa 3 1 (.tmp 3) (.const (.int .i64 1)), none⟩, ⟨some 35, .ld 2 1 false (.tmp 34), none⟩, ⟨some 36, .iaa 3 1 (.tmp 3) (.const (.int .i64 2)), none⟩, ⟨some 37, .ld 2 1 false (.tmp 36), none⟩, ⟨some 38, .fa 1 (.tmp 4), none⟩, ⟨some 39, .ld 2 1 false (.tmp 38), none⟩, ⟨some 40, .fa 1 (.tmp 5), none⟩, ⟨some 41, .ld 2 1 false (.tmp 40), none⟩, ⟨some 42, .bin 2 .add (.tmp 39) (.tmp 41), none⟩, ⟨some 43, .bin 2 .mul (.tmp 37) (.tmp 42), none⟩, ⟨some 44, .call 70 [.tmp 43, .const (.int .i64 1000)], none⟩, ⟨some 45, .bin 2 .add (.tmp 35) (.tmp 44), none⟩, ⟨some 46, .bld (.agg #[.int .i64 0, .int .i64 0]) [(0, 1, .tmp 33), (1, 1, .tmp 45)], none⟩, ⟨none, .st 29 2 (.tmp 6) (.tmp 46), none⟩, ⟨some 7, .mv (.const (.int .i64 0)), none⟩]
def Xn29_10 : C := .seq Xn29_11 .ret
def Xn29_2 : C := seqL [3, 4, 5, 6] Xn29_3 Xn29_10
def Xn29_0 : C := .seq Xn29_1 Xn29_2
theorem Xt29 : Text Try.prog 29 Xn29_0 47 3 [.c 6 2 true, .t 7] := ⟨⟨Try.f29, [3, 4, 5], Try.func29, by kernel_rfl, by kernel_rfl, by kernel_rfl, by kernel_rfl⟩⟩
def Xn30_1 : C := regL [3, 4, 5, 6] none [⟨some 3, .box true 30 (.tmp 0), none⟩, ⟨some 4, .box true 46 (.tmp 1), none⟩, ⟨some 5, .box true 46 (.tmp 2), none⟩, ⟨some 6, .alc 29 (.agg #[.int .i64 0, .int .i64 0]), none⟩, ⟨some 7, .mv (.const (.int .i64 0)), none⟩]
def Xn30_4 : C := regL [3, 4, 5, 6, 20] none [⟨some 8, .ld 30 3 true (.tmp 3), none⟩, ⟨some 9, .call 71 [.tmp 8], none⟩, ⟨some 10, .bin 22 .neq (.tmp 9) (.const (.int .i64 0)), none⟩, ⟨some 11, .mv (.tmp 10), none⟩, ⟨some 12, .ld 46 2 true (.tmp 4), some (11, false)⟩, ⟨some 13, .call 72 [.tmp 12], some (11, false)⟩, ⟨some 14, .bin 22 .neq (.tmp 13) (.const (.int .i64 0)), some (11, false)⟩, ⟨some 15, .pick 11 (.const (.bool true)) (.tmp 14), none⟩, ⟨some 16, .mv (.tmp 15), none⟩, ⟨some 17, .ld 46 2 true (.tmp 5), some (16, false)⟩, ⟨some 18, .call 72 [.tmp 17], some (16, false)⟩, ⟨some 19, .bin 22 .neq (.tmp 18) (.const (.int .i64 0)), some (16, false)⟩, ⟨some 20, .pick 16 (.const (.bool true)) (.tmp 19), none⟩]
def Xn30_7 : C := regL [6, 7] none [⟨some 21, .bld (.agg #[.int .i64 0, .int .i64 0]) [], none⟩, ⟨none, .st 29 2 (.tmp 6) (.tmp 21), none⟩, ⟨some 7, .mv (.const (.int .i64 3)), none⟩]
def Xn30_6 : C := .seq Xn30_7 .ret
def Xn30_5 : C := .cond (.tmp 20) Xn30_6 .skip
def Xn30_3 : C := .seq Xn30_4 Xn30_5
def Xn30_11 : C := regL [6, 7] (some [0, 1, 0, 4, 0, 16, 0, 64, 240, 508, 1020, 2047, 0, 4096, 0, 16384, 0, 65536, 0, 262144, 983040, 2080768, 4179964, 8386556, 16777215, 33554431, 67108863]) [⟨some 22, .iaa 3 1 (.tmp 3) (.const (.int .i64 0)), none⟩, ⟨some 23, .ld 2 1 false (.tmp 22), none⟩, ⟨some 24, .iaa 3 1 (.tmp 3) (.const (.int .i64 2)), none⟩, ⟨some 25, .ld 2 1 false (.tmp 24), none⟩, ⟨some 26, .fa 0 (.tmp 4), none⟩, ⟨some 27, .ld 2 1 false (.tmp 26), none⟩, ⟨some 28, .fa 0 (.tmp 5), none⟩, ⟨some 29, .ld 2 1 false (.tmp 28), none⟩, ⟨some 30, .bin 2 .add (.tmp 27) (.tmp 29), none⟩, ⟨some 31, .bin 2 .mul (.tmp 25) (.tmp 30), none⟩, ⟨some 32, .call 73 [.tmp 31, .const (.int .i64 1000)], none⟩, ⟨some 33, .bin 2 .add (.tmp 23) (.tmp 32), none⟩, ⟨some 34, .iaa 3 1 (.tmp 3) (.const (.int .i64 1)), none⟩, ⟨some 35, .ld 2 1 false (.tmp 34), none⟩, ⟨some 36, .iaa 3 1 (.tmp 3) (.const (.int .i64 2)), none⟩, ⟨some 37, .ld 2 1 false (.tmp 36), none⟩, ⟨some 38, .fa 1 (.tmp 4), none⟩, ⟨some 39, .ld 2 1 false (.tmp 38), none⟩, ⟨some 40, .fa 1 (.tmp 5), none⟩, ⟨some 41, .ld 2 1 false (.tmp 40), none⟩, ⟨some 42, .bin 2 .add (.tmp 39) (.tmp 41), none⟩, ⟨some 43, .bin 2 .mul (.tmp 37) (.tmp 42), none⟩, ⟨some 44, .call 73 [.tmp 43, .const (.int .i64 1000)], none⟩, ⟨some 45, .bin 2 .add (.tmp 35) (.tmp 44), none⟩, ⟨some 46, .bld (.agg #[.int .i64 0, .int .i64 0]) [(0, 1, .tmp 33), (1, 1, .tmp 45)], none⟩, ⟨none, .st 29 2 (.tmp 6) (.tmp 46), none⟩, ⟨some 7, .mv (.const (.int .i64 0)), none⟩]
def Xn30_10 : C := .seq Xn30_11 .ret
def Xn30_2 : C := seqL [3, 4, 5, 6] Xn30_3 Xn30_10
def Xn30_0 : C := .seq Xn30_1 Xn30_2
theorem Xt30 : Text Try.prog 30 Xn30_0 47 3 [.c 6 2 true, .t 7] := ⟨⟨Try.f30, [3, 4, 5], Try.func30, by kernel_rfl, by kernel_rfl, by kernel_rfl, by kernel_rfl⟩⟩
def Xn35_1 : C := regL [] none [⟨some 0, .mv (.const (.slice none 0 0)), none⟩]
def Xn35_3 : C := regL [0] none [⟨some 1, .bld (.agg #[.int .i64 0, .int .i64 0, .int .i64 0, .int .i64 0, .int .i64 0, .int .i64 0]) [(3, 1, .const (.int .i64 10000)), (4, 1, .const (.int .i64 100)), (5, 1, .const (.int .i64 900))], none⟩, ⟨some 2, .bld (.agg #[.int .i64 0, .int .i64 0, .int .i64 0, .int .i64 0, .int .i64 0, .int .i64 0]) [(0, 1, .const (.int .i64 4000)), (1, 1, .const (.int .i64 2000)), (2, 1, .const (.int .i64 1)), (3, 1, .const (.int .i64 10000)), (4, 1, .const (.int .i64 100)), (5, 1, .const (.int .i64 900))], none⟩, ⟨some 3, .bld (.agg #[.int .i64 0, .int .i64 0, .int .i64 0, .int .i64 0, .int .i64 0, .int .i64 0]) [(0, 1, .const (.int .i64 4000)), (1, 1, .const (.int .i64 (-2000))), (2, 1, .const (.int .i64 2)), (3, 1, .const (.int .i64 10000)), (4, 1, .const (.int .i64 100)), (5, 1, .const (.int .i64 900))], none⟩, ⟨some 4, .bld (.agg #[.int .i64 0, .int .i64 0, .int .i64 0, .int .i64 0, .int .i64 0, .int .i64 0]) [(1, 1, .const (.int .i64 1000)), (3, 1, .const (.int .i64 10000)), (4, 1, .const (.int .i64 100)), (5, 1, .const (.int .i64 900))], none⟩, ⟨some 5, .bls 62 6 4 (.agg #[.int .i64 0, .int .i64 0, .int .i64 0, .int .i64 0, .int .i64 0, .int .i64 0]) [(0, 6, .tmp 1), (6, 6, .tmp 2), (12, 6, .tmp 3), (18, 6, .tmp 4)], none⟩, ⟨some 0, .mv (.tmp 5), none⟩]
def Xn35_2 : C := .seq Xn35_3 .ret
def Xn35_0 : C := .seq Xn35_1 Xn35_2
theorem Xt35 : Text Try.prog 35 Xn35_0 6 0 [.t 0] := ⟨⟨Try.f35, [], Try.func35, by kernel_rfl, by kernel_rfl, by kernel_rfl, by kernel_rfl⟩⟩
def Xn45_1 : C := regL [0, 5, 6, 7, 8] none [⟨some 5, .box true 74 (.tmp 1), none⟩, ⟨some 6, .box true 46 (.tmp 2), none⟩, ⟨some 7, .box true 46 (.tmp 3), none⟩, ⟨some 8, .alc 30 (.agg #[.int .i64 0, .int .i64 0, .int .i64 0]), none⟩, ⟨some 9, .mv (.const (.int .i64 0)), none⟩]
def Xn45_3 : C := regL [5, 6, 7, 8, 10, 11] none [⟨some 17, .mv (.tmp 0), none⟩, ⟨some 18, .call 56 [.tmp 17], none⟩, ⟨some 16, .mv (.tmp 18), none⟩, ⟨some 19, .ext 0 (.tmp 16), none⟩, ⟨some 20, .ext 1 (.tmp 16), none⟩, ⟨some 10, .mv (.tmp 19), none⟩, ⟨some 11, .mv (.tmp 20), none⟩]
def Xn45_6 : C := regL [5, 6, 7, 8, 10, 11, 22] none [⟨some 21, .mv (.tmp 11), none⟩, ⟨some 22, .bin 22 .neq (.tmp 21) (.const (.int .i64 0)), none⟩]
def Xn45_9 : C := regL [8, 9] none [⟨some 23, .bld (.agg #[.int .i64 0, .int .i64 0, .int .i64 0]) [], none⟩, ⟨some 24, .mv (.tmp 11), none⟩, ⟨none, .st 30 3 (.tmp 8) (.tmp 23), none⟩, ⟨some 9, .mv (.tmp 24), none⟩]
def Xn45_8 : C := .seq Xn45_9 .ret
def Xn45_7 : C := .cond (.tmp 22) Xn45_8 .skip
def Xn45_5 : C := .seq Xn45_6 Xn45_7
def Xn45_13 : C := regL [5, 6, 7, 8, 10, 11, 12] none [⟨some 26, .ld 74 4 true (.tmp 5), none⟩, ⟨some 27, .call 86 [.tmp 26], none⟩, ⟨some 25, .mv (.tmp 27), none⟩, ⟨some 28, .ext 0 (.tmp 25), none⟩, ⟨some 29, .ext 1 (.tmp 25), none⟩, ⟨some 12, .alc 30 (.agg #[.int .i64 0, .int .i64 0, .int .i64 0]), none⟩, ⟨none, .st 30 3 (.tmp 12) (.tmp 28), none⟩, ⟨some 11, .mv (.tmp 29), none⟩]
def Xn45_16 : C := regL [5, 6, 7, 8, 10, 11, 12, 31] none [⟨some 30, .mv (.tmp 11), none⟩, ⟨some 31, .bin 22 .neq (.tmp 30) (.const (.int .i64 0)), none⟩]
def Xn45_19 : C := regL [8, 9] none [⟨some 32, .bld (.agg #[.int .i64 0, .int .i64 0, .int .i64 0]) [], none⟩, ⟨some 33, .mv (.tmp 11), none⟩, ⟨none, .st 30 3 (.tmp 8) (.tmp 32), none⟩, ⟨some 9, .mv (.tmp 33), none⟩]
def Xn45_18 : C := .seq Xn45_19 .ret
def Xn45_17 : C := .cond (.tmp 31) Xn45_18 .skip
def Xn45_15 : C := .seq Xn45_16 Xn45_17
def Xn45_23 : C := regL [5, 8, 10, 11, 13] none [⟨some 35, .ld 30 3 true (.tmp 12), none⟩, ⟨some 36, .ld 46 2 true (.tmp 6), none⟩, ⟨some 37, .ld 46 2 true (.tmp 7), none⟩, ⟨some 38, .call 29 [.tmp 35, .tmp 36, .tmp 37], none⟩, ⟨some 34, .mv (.tmp 38), none⟩, ⟨some 39, .ext 0 (.tmp 34), none⟩, ⟨some 40, .ext 1 (.tmp 34), none⟩, ⟨some 13, .alc 29 (.agg #[.int .i64 0, .int .i64 0]), none⟩, ⟨none, .st 29 2 (.tmp 13) (.tmp 39), none⟩, ⟨some 11, .mv (.tmp 40), none⟩]
def Xn45_26 : C := regL [5, 8, 10, 11, 13, 42] none [⟨some 41, .mv (.tmp 11), none⟩, ⟨some 42, .bin 22 .neq (.tmp 41) (.const (.int .i64 0)), none⟩]
def Xn45_29 : C := regL [8, 9] none [⟨some 43, .bld (.agg #[.int .i64 0, .int .i64 0, .int .i64 0]) [], none⟩, ⟨some 44, .mv (.tmp 11), none⟩, ⟨none, .st 30 3 (.tmp 8) (.tmp 43), none⟩, ⟨some 9, .mv (.tmp 44), none⟩]
def Xn45_28 : C := .seq Xn45_29 .ret
def Xn45_27 : C := .cond (.tmp 42) Xn45_28 .skip
def Xn45_25 : C := .seq Xn45_26 Xn45_27
def Xn45_33 : C := regL [8, 10, 13, 14] none [⟨some 46, .ld 74 4 true (.tmp 5), none⟩, ⟨some 47, .call 87 [.tmp 46], none⟩, ⟨some 45, .mv (.tmp 47), none⟩, ⟨some 48, .ext 0 (.tmp 45), none⟩, ⟨some 49, .ext 1 (.tmp 45), none⟩, ⟨some 14, .mv (.tmp 48), none⟩, ⟨some 15, .mv (.tmp 49), none⟩]
def Xn45_35 : C := regL [8, 9] none [⟨some 50, .mv (.tmp 10), none⟩, ⟨some 51, .mv (.tmp 14), none⟩, ⟨some 52, .ld 29 2 true (.tmp 13), none⟩, ⟨some 53, .call 59 [.tmp 50, .tmp 51, .tmp 52], none⟩, ⟨some 54, .ext 0 (.tmp 53), none⟩, ⟨some 55, .ext 1 (.tmp 53), none⟩, ⟨none, .st 30 3 (.tmp 8) (.tmp 54), none⟩, ⟨some 9, .mv (.tmp 55), none⟩]
def Xn45_34 : C := .seq Xn45_35 .ret
def Xn45_32 : C := .seq Xn45_33 Xn45_34
def Xn45_24 : C := seqL [5, 8, 10, 13] Xn45_25 Xn45_32
def Xn45_22 : C := .seq Xn45_23 Xn45_24
def Xn45_14 : C := seqL [5, 6, 7, 8, 10, 12] Xn45_15 Xn45_22
def Xn45_12 : C := .seq Xn45_13 Xn45_14
def Xn45_4 : C := seqL [5, 6, 7, 8, 10] Xn45_5 Xn45_12
def Xn45_2 : C := .seq Xn45_3 Xn45_4
def Xn45_0 : C := .seq Xn45_1 Xn45_2
theorem Xt45 : Text Try.prog 45 Xn45_0 56 4 [.c 8 3 true, .t 9] := ⟨⟨Try.f45, [5, 6, 7], Try.func45, by kernel_rfl, by kernel_rfl, by kernel_rfl, by kernel_rfl⟩⟩
def Xn46_1 : C := regL [0, 5, 6, 7, 8] none [⟨some 5, .box true 74 (.tmp 1), none⟩, ⟨some 6, .box true 46 (.tmp 2), none⟩, ⟨some 7, .box true 46 (.tmp 3), none⟩, ⟨some 8, .alc 30 (.agg #[.int .i64 0, .int .i64 0, .int .i64 0]), none⟩, ⟨some 9, .mv (.const (.int .i64 0)), none⟩]
def Xn46_4 : C := regL [0, 5, 6, 7, 8, 17] none [⟨some 15, .mv (.tmp 0), none⟩, ⟨some 16, .call 28 [.tmp 15], none⟩, ⟨some 17, .bin 22 .neq (.tmp 16) (.const (.int .i64 0)), none⟩]
def Xn46_7 : C := regL [8, 9] none [⟨some 18, .bld (.agg #[.int .i64 0, .int .i64 0, .int .i64 0]) [], none⟩, ⟨some 19, .mv (.tmp 0), none⟩, ⟨some 20, .call 28 [.tmp 19], none⟩, ⟨none, .st 30 3 (.tmp 8) (.tmp 18), none⟩, ⟨some 9, .mv (.tmp 20), none⟩]
def Xn46_6 : C := .seq Xn46_7 .ret
def Xn46_5 : C := .cond (.tmp 17) Xn46_6 .skip
def Xn46_3 : C := .seq Xn46_4 Xn46_5
def Xn46_11 : C := regL [0, 5, 6, 7, 8, 10, 11] none [⟨some 22, .ld 74 4 true (.tmp 5), none⟩, ⟨some 23, .call 88 [.tmp 22], none⟩, ⟨some 21, .mv (.tmp 23), none⟩, ⟨some 24, .ext 0 (.tmp 21), none⟩, ⟨some 25, .ext 1 (.tmp 21), none⟩, ⟨some 10, .alc 30 (.agg #[.int .i64 0, .int .i64 0, .int .i64 0]), none⟩, ⟨none, .st 30 3 (.tmp 10) (.tmp 24), none⟩, ⟨some 11, .mv (.tmp 25), none⟩]
def Xn46_14 : C := regL [0, 5, 6, 7, 8, 10, 11, 27] none [⟨some 26, .mv (.tmp 11), none⟩, ⟨some 27, .bin 22 .neq (.tmp 26) (.const (.int .i64 0)), none⟩]
def Xn46_17 : C := regL [8, 9] none [⟨some 28, .bld (.agg #[.int .i64 0, .int .i64 0, .int .i64 0]) [], none⟩, ⟨some 29, .mv (.tmp 11), none⟩, ⟨none, .st 30 3 (.tmp 8) (.tmp 28), none⟩, ⟨some 9, .mv (.tmp 29), none⟩]
def Xn46_16 : C := .seq Xn46_17 .ret
def Xn46_15 : C := .cond (.tmp 27) Xn46_16 .skip
def Xn46_13 : C := .seq Xn46_14 Xn46_15
def Xn46_21 : C := regL [0, 6, 7, 8, 10, 12] none [⟨some 31, .ld 74 4 true (.tmp 5), none⟩, ⟨some 32, .call 89 [.tmp 31], none⟩, ⟨some 30, .mv (.tmp 32), none⟩, ⟨some 33, .ext 0 (.tmp 30), none⟩, ⟨some 34, .ext 1 (.tmp 30), none⟩, ⟨some 12, .mv (.tmp 33), none⟩, ⟨some 13, .mv (.tmp 34), none⟩]
def Xn46_23 : C := regL [0, 8, 11, 12, 14] none [⟨some 36, .ld 30 3 true (.tmp 10), none⟩, ⟨some 37, .ld 46 2 true (.tmp 6), none⟩, ⟨some 38, .ld 46 2 true (.tmp 7), none⟩, ⟨some 39, .call 30 [.tmp 36, .tmp 37, .tmp 38], none⟩, ⟨some 35, .mv (.tmp 39), none⟩, ⟨some 40, .ext 0 (.tmp 35), none⟩, ⟨some 41, .ext 1 (.tmp 35), none⟩, ⟨some 14, .alc 29 (.agg #[.int .i64 0, .int .i64 0]), none⟩, ⟨none, .st 29 2 (.tmp 14) (.tmp 40), none⟩, ⟨some 11, .mv (.tmp 41), none⟩]
def Xn46_26 : C := regL [0, 8, 11, 12, 14, 43] none [⟨some 42, .mv (.tmp 11), none⟩, ⟨some 43, .bin 22 .neq (.tmp 42) (.const (.int .i64 0)), none⟩]
def Xn46_29 : C := regL [8, 9] none [⟨some 44, .bld (.agg #[.int .i64 0, .int .i64 0, .int .i64 0]) [], none⟩, ⟨some 45, .mv (.tmp 11), none⟩, ⟨none, .st 30 3 (.tmp 8) (.tmp 44), none⟩, ⟨some 9, .mv (.tmp 45), none⟩]
def Xn46_28 : C := .seq Xn46_29 .ret
def Xn46_27 : C := .cond (.tmp 43) Xn46_28 .skip
def Xn46_25 : C := .seq Xn46_26 Xn46_27
def Xn46_33 : C := regL [8, 9] none [⟨some 46, .mv (.tmp 0), none⟩, ⟨some 47, .mv (.tmp 12), none⟩, ⟨some 48, .ld 29 2 true (.tmp 14), none⟩, ⟨some 49, .call 64 [.tmp 46, .tmp 47, .tmp 48], none⟩, ⟨some 50, .ext 0 (.tmp 49), none⟩, ⟨some 51, .ext 1 (.tmp 49), none⟩, ⟨none, .st 30 3 (.tmp 8) (.tmp 50), none⟩, ⟨some 9, .mv (.tmp 51), none⟩]
def Xn46_32 : C := .seq Xn46_33 .ret
def Xn46_24 : C := seqL [0, 8, 12, 14] Xn46_25 Xn46_32
def Xn46_22 : C := .seq Xn46_23 Xn46_24
def Xn46_20 : C := .seq Xn46_21 Xn46_22
def Xn46_12 : C := seqL [0, 5, 6, 7, 8, 10] Xn46_13 Xn46_20
def Xn46_10 : C := .seq Xn46_11 Xn46_12
def Xn46_2 : C := seqL [0, 5, 6, 7, 8] Xn46_3 Xn46_10
def Xn46_0 : C := .seq Xn46_1 Xn46_2
theorem Xt46 : Text Try.prog 46 Xn46_0 52 4 [.c 8 3 true, .t 9] := ⟨⟨Try.f46, [5, 6, 7], Try.func46, by kernel_rfl, by kernel_rfl, by kernel_rfl, by kernel_rfl⟩⟩
end Go.Proofs.Ytfkjdjlcaojedaa

namespace Go.Proofs.Ytfkjdjlcaojedaa
open Go Sy
set_option maxRecDepth 100000
def Xn52_1 : C := regL [0] none [⟨some 2, .mv (.const (.bool false)), none⟩]
def Xn52_3 : C := regL [2] none [⟨some 3, .mv (.tmp 0), none⟩, ⟨some 4, .call 53 [.tmp 3, .const (.int .i64 (-16777216)), .const (.int .i64 16777216)], none⟩, ⟨some 2, .mv (.tmp 4), none⟩]
def Xn52_2 : C := .seq Xn52_3 .ret
def Xn52_0 : C := .seq Xn52_1 Xn52_2
theorem Xt52 : Text Try.prog 52 Xn52_0 5 1 [.t 2] := ⟨⟨Try.f52, [], Try.func52, by kernel_rfl, by kernel_rfl, by kernel_rfl, by kernel_rfl⟩⟩
def Xn53_1 : C := regL [0, 1, 2] none [⟨some 6, .mv (.const (.bool false)), none⟩]
def Xn53_3 : C := regL [6] none [⟨some 7, .mv (.tmp 0), none⟩, ⟨some 8, .mv (.tmp 1), none⟩, ⟨some 9, .bin 2 .geq (.tmp 7) (.tmp 8), none⟩, ⟨some 10, .mv (.tmp 9), none⟩, ⟨some 11, .mv (.tmp 0), some (10, true)⟩, ⟨some 12, .mv (.tmp 2), some (10, true)⟩, ⟨some 13, .bin 2 .leq (.tmp 11) (.tmp 12), some (10, true)⟩, ⟨some 14, .pick 10 (.tmp 13) (.const (.bool false)), none⟩, ⟨some 6, .mv (.tmp 14), none⟩]
def Xn53_2 : C := .seq Xn53_3 .ret
def Xn53_0 : C := .seq Xn53_1 Xn53_2
theorem Xt53 : Text Try.prog 53 Xn53_0 15 3 [.t 6] := ⟨⟨Try.f53, [], Try.func53, by kernel_rfl, by kernel_rfl, by kernel_rfl, by kernel_rfl⟩⟩
def Xn54_1 : C := regL [0] none [⟨some 2, .mv (.const (.bool false)), none⟩]
def Xn54_3 : C := regL [2] none [⟨some 3, .mv (.tmp 0), none⟩, ⟨some 4, .call 53 [.tmp 3, .const (.int .i64 1), .const (.int .i64 16777216)], none⟩, ⟨some 2, .mv (.tmp 4), none⟩]
def Xn54_2 : C := .seq Xn54_3 .ret
def Xn54_0 : C := .seq Xn54_1 Xn54_2
theorem Xt54 : Text Try.prog 54 Xn54_0 5 1 [.t 2] := ⟨⟨Try.f54, [], Try.func54, by kernel_rfl, by kernel_rfl, by kernel_rfl, by kernel_rfl⟩⟩
def Xn55_1 : C := regL [1] none [⟨some 1, .box true 89 (.tmp 0), none⟩, ⟨some 2, .mv (.const (.int .i64 0)), none⟩]
def Xn55_3 : C := regL [2] none [⟨some 3, .fa 0 (.tmp 1), none⟩, ⟨some 4, .ld 2 1 false (.tmp 3), none⟩, ⟨some 5, .un .neg (.tmp 4), none⟩, ⟨some 6, .fa 1 (.tmp 1), none⟩, ⟨some 7, .ld 2 1 false (.tmp 6), none⟩, ⟨some 8, .fa 2 (.tmp 1), none⟩, ⟨some 9, .ld 2 1 false (.tmp 8), none⟩, ⟨some 10, .bld (.agg #[.int .i64 0, .int .i64 0, .int .i64 0]) [(0, 1, .tmp 5), (1, 1, .tmp 7), (2, 1, .tmp 9)], none⟩, ⟨some 11, .call 94 [.tmp 10], none⟩, ⟨some 12, .un .neg (.tmp 11), none⟩, ⟨some 2, .mv (.tmp 12), none⟩]
def Xn55_2 : C := .seq Xn55_3 .ret
def Xn55_0 : C := .seq Xn55_1 Xn55_2
theorem Xt55 : Text Try.prog 55 Xn55_0 13 1 [.t 2] := ⟨⟨Try.f55, [1], Try.func55, by kernel_rfl, by kernel_rfl, by kernel_rfl, by kernel_rfl⟩⟩
def Xn56_1 : C := regL [0] none [⟨some 2, .mv (.const (.pointer none)), none⟩, ⟨some 3, .mv (.const (.int .i64 0)), none⟩]
def Xn56_4 : C := regL [0, 17] none [⟨some 10, .mv (.tmp 0), none⟩, ⟨some 11, .len (.tmp 10), none⟩, ⟨some 12, .bin 3 .lss (.tmp 11) (.const (.int .i64 3)), none⟩, ⟨some 13, .mv (.tmp 12), none⟩, ⟨some 14, .mv (.tmp 0), some (13, false)⟩, ⟨some 15, .len (.tmp 14), some (13, false)⟩, ⟨some 16, .bin 3 .gtr (.tmp 15) (.const (.int .i64 48)), some (13, false)⟩, ⟨some 17, .pick 13 (.const (.bool true)) (.tmp 16), none⟩]
def Xn56_7 : C := regL [2, 3] none [⟨some 2, .mv (.const (.pointer none)), none⟩, ⟨some 3, .mv (.const (.int .i64 6)), none⟩]
def Xn56_6 : C := .seq Xn56_7 .ret
def Xn56_5 : C := .cond (.tmp 17) Xn56_6 .skip
def Xn56_3 : C := .seq Xn56_4 Xn56_5
def Xn56_11 : C := regL [0, 4] none [⟨some 18, .mv (.tmp 0), none⟩, ⟨some 19, .bld (.agg #[.slice none 0 0, .int .i64 0, .int .i64 0, .int .i64 0, .int .i64 0, .int .i64 0, .int .i64 0, .int .i64 0, .int .i64 0, .int .i64 0, .int .i64 0]) [(0, 1, .tmp 18)], none⟩, ⟨some 20, .box false 96 (.tmp 19), none⟩, ⟨some 4, .mv (.tmp 20), none⟩]
def Xn56_14 : C := regL [4, 21, 22, 23] none [⟨some 21, .mv (.tmp 0), none⟩, ⟨some 22, .len (.tmp 21), none⟩, ⟨some 23, .mv (.const (.int .i64 0)), none⟩]
def Xn56_18 : C := regL [4, 21, 22, 23, 24] none [⟨some 24, .bin 3 .lss (.tmp 23) (.tmp 22), none⟩]
def Xn56_20 : C := .cond (.tmp 24) .skip (.exit 0)
def Xn56_26 : C := regL [4, 6, 21, 22, 23] none [⟨some 25, .ia 6 (.tmp 21) (.tmp 23), none⟩, ⟨some 26, .ld 62 6 true (.tmp 25), none⟩, ⟨some 6, .alc 62 (.agg #[.int .i64 0, .int .i64 0, .int .i64 0, .int .i64 0, .int .i64 0, .int .i64 0]), none⟩, ⟨none, .st 62 6 (.tmp 6) (.tmp 26), none⟩]
def Xn56_28 : C := regL [4, 6, 7, 21, 22, 23] none [⟨some 27, .fa 0 (.tmp 6), none⟩, ⟨some 28, .ld 2 1 false (.tmp 27), none⟩, ⟨some 29, .call 53 [.tmp 28, .const (.int .i64 (-131072)), .const (.int .i64 131072)], none⟩, ⟨some 30, .mv (.tmp 29), none⟩, ⟨some 31, .fa 1 (.tmp 6), some (30, true)⟩, ⟨some 32, .ld 2 1 false (.tmp 31), some (30, true)⟩, ⟨some 33, .call 53 [.tmp 32, .const (.int .i64 (-131072)), .const (.int .i64 131072)], some (30, true)⟩, ⟨some 34, .pick 30 (.tmp 33) (.const (.bool false)), none⟩, ⟨some 35, .mv (.tmp 34), none⟩, ⟨some 36, .fa 2 (.tmp 6), some (35, true)⟩, ⟨some 37, .ld 3 1 false (.tmp 36), some (35, true)⟩, ⟨some 38, .bin 3 .geq (.tmp 37) (.const (.int .i64 0)), some (35, true)⟩, ⟨some 39, .pick 35 (.tmp 38) (.const (.bool false)), none⟩, ⟨some 40, .mv (.tmp 39), none⟩, ⟨some 41, .fa 2 (.tmp 6), some (40, true)⟩, ⟨some 42, .ld 3 1 false (.tmp 41), some (40, true)⟩, ⟨some 43, .bin 3 .leq (.tmp 42) (.const (.int .i64 2)), some (40, true)⟩, ⟨some 44, .pick 40 (.tmp 43) (.const (.bool false)), none⟩, ⟨some 7, .mv (.tmp 44), none⟩]
def Xn56_31 : C := regL [4, 6, 21, 22, 23, 69] none [⟨some 45, .mv (.tmp 7), none⟩, ⟨some 46, .un .not (.tmp 45), none⟩, ⟨some 47, .mv (.tmp 46), none⟩, ⟨some 48, .fa 3 (.tmp 6), some (47, false)⟩, ⟨some 49, .ld 2 1 false (.tmp 48), some (47, false)⟩, ⟨some 50, .call 53 [.tmp 49, .const (.int .i64 1), .const (.int .i64 1048576)], some (47, false)⟩, ⟨some 51, .un .not (.tmp 50), some (47, false)⟩, ⟨some 52, .pick 47 (.const (.bool true)) (.tmp 51), none⟩, ⟨some 53, .mv (.tmp 52), none⟩, ⟨some 54, .fa 4 (.tmp 6), some (53, false)⟩, ⟨some 55, .ld 2 1 false (.tmp 54), some (53, false)⟩, ⟨some 56, .bin 2 .lss (.tmp 55) (.const (.int .i64 0)), some (53, false)⟩, ⟨some 57, .pick 53 (.const (.bool true)) (.tmp 56), none⟩, ⟨some 58, .mv (.tmp 57), none⟩, ⟨some 59, .fa 4 (.tmp 6), some (58, false)⟩, ⟨some 60, .ld 2 1 false (.tmp 59), some (58, false)⟩, ⟨some 61, .fa 5 (.tmp 6), some (58, false)⟩, ⟨some 62, .ld 2 1 false (.tmp 61), some (58, false)⟩, ⟨some 63, .bin 2 .gtr (.tmp 60) (.tmp 62), some (58, false)⟩, ⟨some 64, .pick 58 (.const (.bool true)) (.tmp 63), none⟩, ⟨some 65, .mv (.tmp 64), none⟩, ⟨some 66, .fa 5 (.tmp 6), some (65, false)⟩, ⟨some 67, .ld 2 1 false (.tmp 66), some (65, false)⟩, ⟨some 68, .bin 2 .gtr (.tmp 67) (.const (.int .i64 4096)), some (65, false)⟩, ⟨some 69, .pick 65 (.const (.bool true)) (.tmp 68), none⟩]
def Xn56_34 : C := regL [2, 3] none [⟨some 2, .mv (.const (.pointer none)), none⟩, ⟨some 3, .mv (.const (.int .i64 2)), none⟩]
def Xn56_33 : C := .seq Xn56_34 .ret
def Xn56_32 : C := .cond (.tmp 69) Xn56_33 .skip
def Xn56_30 : C := .seq Xn56_31 Xn56_32
def Xn56_38 : C := regL [4, 6, 21, 22, 23, 74, 75] none [⟨some 70, .fa 0 (.tmp 6), none⟩, ⟨some 71, .ld 2 1 false (.tmp 70), none⟩, ⟨some 72, .fa 1 (.tmp 6), none⟩, ⟨some 73, .ld 2 1 false (.tmp 72), none⟩, ⟨some 74, .bld (.agg #[.int .i64 0, .int .i64 0, .int .i64 0]) [(0, 1, .const (.int .i64 1)), (1, 1, .tmp 71), (2, 1, .tmp 73)], none⟩, ⟨some 75, .mv (.const (.int .i64 0)), none⟩]
def Xn56_42 : C := regL [4, 6, 21, 22, 23, 74, 75, 76] none [⟨some 76, .bin 3 .lss (.tmp 75) (.const (.int .i64 3)), none⟩]
def Xn56_44 : C := .cond (.tmp 76) .skip (.exit 2)
def Xn56_50 : C := regL [4, 6, 8, 9, 21, 22, 23, 74, 75] none [⟨some 77, .mv (.tmp 75), none⟩, ⟨some 78, .idx 3 1 false (.tmp 74) (.tmp 75), none⟩, ⟨some 8, .mv (.tmp 77), none⟩, ⟨some 9, .mv (.tmp 78), none⟩]
def Xn56_51 : C := regL [4, 6, 21, 22, 23, 74, 75] (some [0, 0, 2, 0, 1, 17, 55, 127, 255, 0, 1023, 1, 2049, 6151, 16383, 32767]) [⟨some 79, .mv (.tmp 4), none⟩, ⟨some 80, .fa 2 (.tmp 6), none⟩, ⟨some 81, .ld 3 1 false (.tmp 80), none⟩, ⟨some 82, .mv (.tmp 8), none⟩, ⟨some 83, .nilc (.tmp 79), none⟩, ⟨some 84, .fa 1 (.tmp 83), none⟩, ⟨some 85, .iaa 3 3 (.tmp 84) (.tmp 81), none⟩, ⟨some 86, .iaa 3 1 (.tmp 85) (.tmp 82), none⟩, ⟨some 87, .ld 2 1 false (.tmp 86), none⟩, ⟨some 88, .mv (.tmp 9), none⟩, ⟨some 89, .bin 2 .add (.tmp 87) (.tmp 88), none⟩, ⟨some 90, .nilc (.tmp 79), none⟩, ⟨some 91, .fa 1 (.tmp 90), none⟩, ⟨some 92, .iaa 3 3 (.tmp 91) (.tmp 81), none⟩, ⟨some 93, .iaa 3 1 (.tmp 92) (.tmp 82), none⟩, ⟨none, .st 2 1 (.tmp 93) (.tmp 89), none⟩]
def Xn56_49 : C := .seq Xn56_50 Xn56_51
def Xn56_48 : C := .block 3 Xn56_49
def Xn56_52 : C := regL [4, 6, 21, 22, 23, 74, 75] none [⟨some 94, .bin 3 .add (.tmp 75) (.const (.int .i64 1)), none⟩, ⟨some 75, .mv (.tmp 94), none⟩]
def Xn56_47 : C := seqL [4, 6, 21, 22, 23, 74, 75] Xn56_48 Xn56_52
def Xn56_43 : C := seqL [4, 6, 21, 22, 23, 74, 75] Xn56_44 Xn56_47
def Xn56_41 : C := .seq Xn56_42 Xn56_43
def Xn56_40 : C := loopL [4, 6, 21, 22, 23, 74, 75] Xn56_41
def Xn56_39 : C := .block 2 Xn56_40
def Xn56_37 : C := .seq Xn56_38 Xn56_39
def Xn56_29 : C := seqL [4, 6, 21, 22, 23] Xn56_30 Xn56_37
def Xn56_27 : C := .seq Xn56_28 Xn56_29
def Xn56_25 : C := .seq Xn56_26 Xn56_27
def Xn56_24 : C := .block 1 Xn56_25
def Xn56_53 : C := regL [4, 21, 22, 23] none [⟨some 95, .bin 3 .add (.tmp 23) (.const (.int .i64 1)), none⟩, ⟨some 23, .mv (.tmp 95), none⟩]
def Xn56_23 : C := seqL [4, 21, 22, 23] Xn56_24 Xn56_53
def Xn56_19 : C := seqL [4, 21, 22, 23] Xn56_20 Xn56_23
def Xn56_17 : C := .seq Xn56_18 Xn56_19
def Xn56_16 : C := loopL [4, 21, 22, 23] Xn56_17
def Xn56_15 : C := .block 0 Xn56_16
def Xn56_13 : C := .seq Xn56_14 Xn56_15
def Xn56_56 : C := regL [4] none [⟨some 96, .mv (.tmp 4), none⟩, ⟨some 97, .mv (.tmp 4), none⟩, ⟨some 98, .nilc (.tmp 97), none⟩, ⟨some 99, .fa 1 (.tmp 98), none⟩, ⟨some 100, .ld 94 9 true (.tmp 99), none⟩, ⟨some 101, .call 95 [.tmp 100], none⟩, ⟨some 102, .nilc (.tmp 96), none⟩, ⟨some 103, .fa 10 (.tmp 102), none⟩, ⟨none, .st 2 1 (.tmp 103) (.tmp 101), none⟩]
def Xn56_58 : C := regL [4, 108] none [⟨some 104, .mv (.tmp 4), none⟩, ⟨some 105, .nilc (.tmp 104), none⟩, ⟨some 106, .fa 10 (.tmp 105), none⟩, ⟨some 107, .ld 2 1 false (.tmp 106), none⟩, ⟨some 108, .bin 2 .eql (.tmp 107) (.const (.int .i64 0)), none⟩]
def Xn56_61 : C := regL [2, 3] none [⟨some 2, .mv (.const (.pointer none)), none⟩, ⟨some 3, .mv (.const (.int .i64 9)), none⟩]
def Xn56_60 : C := .seq Xn56_61 .ret
def Xn56_59 : C := .cond (.tmp 108) Xn56_60 .skip
def Xn56_57 : C := .seq Xn56_58 Xn56_59
def Xn56_55 : C := .seq Xn56_56 Xn56_57
def Xn56_65 : C := regL [2, 3] none [⟨some 109, .mv (.tmp 4), none⟩, ⟨some 2, .mv (.tmp 109), none⟩, ⟨some 3, .mv (.const (.int .i64 0)), none⟩]
def Xn56_64 : C := .seq Xn56_65 .ret
def Xn56_54 : C := seqL [4] Xn56_55 Xn56_64
def Xn56_12 : C := seqL [4] Xn56_13 Xn56_54
def Xn56_10 : C := .seq Xn56_11 Xn56_12
def Xn56_2 : C := seqL [0] Xn56_3 Xn56_10
def Xn56_0 : C := .seq Xn56_1 Xn56_2
theorem Xt56 : Text Try.prog 56 Xn56_0 110 1 [.t 2, .t 3] := ⟨⟨Try.f56, [], Try.func56, by kernel_rfl, by kernel_rfl, by kernel_rfl, by kernel_rfl⟩⟩
def Xn57_1 : C := regL [1] none [⟨some 1, .box true 29 (.tmp 0), none⟩, ⟨some 2, .mv (.const (.bool false)), none⟩]
def Xn57_3 : C := regL [2] none [⟨some 3, .fa 0 (.tmp 1), none⟩, ⟨some 4, .ld 2 1 false (.tmp 3), none⟩, ⟨some 5, .call 53 [.tmp 4, .const (.int .i64 (-262144)), .const (.int .i64 262144)], none⟩, ⟨some 6, .mv (.tmp 5), none⟩, ⟨some 7, .fa 1 (.tmp 1), some (6, true)⟩, ⟨some 8, .ld 2 1 false (.tmp 7), some (6, true)⟩, ⟨some 9, .call 53 [.tmp 8, .const (.int .i64 (-262144)), .const (.int .i64 262144)], some (6, true)⟩, ⟨some 10, .pick 6 (.tmp 9) (.const (.bool false)), none⟩, ⟨some 2, .mv (.tmp 10), none⟩]
def Xn57_2 : C := .seq Xn57_3 .ret
def Xn57_0 : C := .seq Xn57_1 Xn57_2
theorem Xt57 : Text Try.prog 57 Xn57_0 11 1 [.t 2] := ⟨⟨Try.f57, [1], Try.func57, by kernel_rfl, by kernel_rfl, by kernel_rfl, by kernel_rfl⟩⟩
def Xn58_1 : C := regL [0, 3] none [⟨some 3, .box true 29 (.tmp 1), none⟩, ⟨some 4, .mv (.const (.int .i64 0)), none⟩]
def Xn58_3 : C := regL [5] none [⟨some 8, .mv (.tmp 0), none⟩, ⟨some 9, .ld 29 2 true (.tmp 3), none⟩, ⟨some 10, .call 60 [.tmp 8, .tmp 9], none⟩, ⟨some 7, .mv (.tmp 10), none⟩, ⟨some 11, .ext 0 (.tmp 7), none⟩, ⟨some 12, .ext 1 (.tmp 7), none⟩, ⟨some 5, .alc 30 (.agg #[.int .i64 0, .int .i64 0, .int .i64 0]), none⟩, ⟨none, .st 30 3 (.tmp 5) (.tmp 11), none⟩, ⟨some 6, .mv (.tmp 12), none⟩]
def Xn58_5 : C := regL [4] none [⟨some 13, .sla 30 3 1 (.tmp 5), none⟩, ⟨some 14, .call 96 [.tmp 13, .func 97], none⟩, ⟨some 4, .mv (.tmp 14), none⟩]
def Xn58_4 : C := .seq Xn58_5 .ret
def Xn58_2 : C := .seq Xn58_3 Xn58_4
def Xn58_0 : C := .seq Xn58_1 Xn58_2
theorem Xt58 : Text Try.prog 58 Xn58_0 15 2 [.t 4] := ⟨⟨Try.f58, [3], Try.func58, by kernel_rfl, by kernel_rfl, by kernel_rfl, by kernel_rfl⟩⟩
def Xn59_1 : C := regL [0, 1, 5, 6] none [⟨some 5, .box true 29 (.tmp 2), none⟩, ⟨some 6, .alc 30 (.agg #[.int .i64 0, .int .i64 0, .int .i64 0]), none⟩, ⟨some 7, .mv (.const (.int .i64 0)), none⟩]
def Xn59_4 : C := regL [0, 1, 5, 6, 21] none [⟨some 14, .mv (.tmp 1), none⟩, ⟨some 15, .call 54 [.tmp 14], none⟩, ⟨some 16, .un .not (.tmp 15), none⟩, ⟨some 17, .mv (.tmp 16), none⟩, ⟨some 18, .ld 29 2 true (.tmp 5), some (17, false)⟩, ⟨some 19, .call 57 [.tmp 18], some (17, false)⟩, ⟨some 20, .un .not (.tmp 19), some (17, false)⟩, ⟨some 21, .pick 17 (.const (.bool true)) (.tmp 20), none⟩]
def Xn59_7 : C := regL [6, 7] none [⟨some 22, .ld 30 3 true (.tmp 6), none⟩, ⟨none, .st 30 3 (.tmp 6) (.tmp 22), none⟩, ⟨some 7, .mv (.const (.int .i64 3)), none⟩]
def Xn59_6 : C := .seq Xn59_7 .ret
def Xn59_5 : C := .cond (.tmp 21) Xn59_6 .skip
def Xn59_3 : C := .seq Xn59_4 Xn59_5
def Xn59_12 : C := regL [0, 1, 5, 6, 26] none [⟨some 23, .mv (.tmp 0), none⟩, ⟨some 24, .ld 29 2 true (.tmp 5), none⟩, ⟨some 25, .call 58 [.tmp 23, .tmp 24], none⟩, ⟨some 26, .bin 3 .geq (.tmp 25) (.const (.int .i64 0)), none⟩]
def Xn59_15 : C := regL [6, 7] none [⟨some 27, .ld 30 3 true (.tmp 6), none⟩, ⟨none, .st 30 3 (.tmp 6) (.tmp 27), none⟩, ⟨some 7, .mv (.const (.int .i64 19)), none⟩]
def Xn59_14 : C := .seq Xn59_15 .ret
def Xn59_13 : C := .cond (.tmp 26) Xn59_14 .skip
def Xn59_11 : C := .seq Xn59_12 Xn59_13
def Xn59_19 : C := regL [0, 1, 6, 8, 9] none [⟨some 29, .mv (.tmp 0), none⟩, ⟨some 30, .ld 29 2 true (.tmp 5), none⟩, ⟨some 31, .call 60 [.tmp 29, .tmp 30], none⟩, ⟨some 28, .mv (.tmp 31), none⟩, ⟨some 32, .ext 0 (.tmp 28), none⟩, ⟨some 33, .ext 1 (.tmp 28), none⟩, ⟨some 8, .alc 30 (.agg #[.int .i64 0, .int .i64 0, .int .i64 0]), none⟩, ⟨none, .st 30 3 (.tmp 8) (.tmp 32), none⟩, ⟨some 9, .mv (.tmp 33), none⟩]
def Xn59_22 : C := regL [0, 1, 6, 8, 9, 34] none [⟨some 34, .mv (.const (.int .i64 0)), none⟩]
def Xn59_26 : C := regL [0, 1, 6, 8, 9, 34, 35] none [⟨some 35, .bin 3 .lss (.tmp 34) (.const (.int .i64 3)), none⟩]
def Xn59_28 : C := .cond (.tmp 35) .skip (.exit 0)
def Xn59_34 : C := regL [0, 1, 6, 8, 9, 10, 34] none [⟨some 36, .mv (.tmp 34), none⟩, ⟨some 10, .mv (.tmp 36), none⟩]
def Xn59_36 : C := regL [0, 1, 6, 8, 9, 10, 11, 34] none [⟨some 37, .mv (.tmp 1), none⟩, ⟨some 38, .mv (.tmp 10), none⟩, ⟨some 39, .iaa 3 1 (.tmp 8) (.tmp 38), none⟩, ⟨some 40, .ld 2 1 false (.tmp 39), none⟩, ⟨some 41, .mv (.tmp 9), none⟩, ⟨some 42, .bld (.agg #[.int .i64 0, .int .i64 0, .int .i64 0]) [(0, 1, .tmp 37), (1, 1, .tmp 40), (2, 1, .tmp 41)], none⟩, ⟨some 43, .mkf 55 [.tmp 42] [], none⟩, ⟨some 11, .mv (.tmp 43), none⟩]
def Xn59_37 : C := regL [0, 1, 6, 8, 9, 34] none [⟨some 44, .mv (.tmp 10), none⟩, ⟨some 45, .mv (.tmp 11), none⟩, ⟨some 46, .callv (.tmp 45) [], none⟩, ⟨some 47, .iaa 3 1 (.tmp 6) (.tmp 44), none⟩, ⟨none, .st 2 1 (.tmp 47) (.tmp 46), none⟩]
def Xn59_35 : C := .seq Xn59_36 Xn59_37
def Xn59_33 : C := .seq Xn59_34 Xn59_35
def Xn59_32 : C := .block 1 Xn59_33
def Xn59_38 : C := regL [0, 1, 6, 8, 9, 34] none [⟨some 48, .bin 3 .add (.tmp 34) (.const (.int .i64 1)), none⟩, ⟨some 34, .mv (.tmp 48), none⟩]
def Xn59_31 : C := seqL [0, 1, 6, 8, 9, 34] Xn59_32 Xn59_38
def Xn59_27 : C := seqL [0, 1, 6, 8, 9, 34] Xn59_28 Xn59_31
def Xn59_25 : C := .seq Xn59_26 Xn59_27
def Xn59_24 : C := loopL [0, 1, 6, 8, 9, 34] Xn59_25
def Xn59_23 : C := .block 0 Xn59_24
def Xn59_21 : C := .seq Xn59_22 Xn59_23
def Xn59_41 : C := regL [6, 52, 53, 54] none [⟨some 49, .mv (.tmp 0), none⟩, ⟨some 50, .nilc (.tmp 49), none⟩, ⟨some 51, .fa 0 (.tmp 50), none⟩, ⟨some 52, .ld 27 1 false (.tmp 51), none⟩, ⟨some 53, .len (.tmp 52), none⟩, ⟨some 54, .mv (.const (.int .i64 0)), none⟩]
def Xn59_45 : C := regL [6, 52, 53, 54, 55] none [⟨some 55, .bin 3 .lss (.tmp 54) (.tmp 53), none⟩]
def Xn59_47 : C := .cond (.tmp 55) .skip (.exit 2)
def Xn59_53 : C := regL [6, 13, 52, 53, 54] none [⟨some 56, .ia 6 (.tmp 52) (.tmp 54), none⟩, ⟨some 57, .ld 62 6 true (.tmp 56), none⟩, ⟨some 13, .alc 62 (.agg #[.int .i64 0, .int .i64 0, .int .i64 0, .int .i64 0, .int .i64 0, .int .i64 0]), none⟩, ⟨none, .st 62 6 (.tmp 13) (.tmp 57), none⟩]
def Xn59_55 : C := regL [6, 52, 53, 54, 64] (some [0, 1, 3, 7, 0, 16, 63]) [⟨some 58, .fa 2 (.tmp 13), none⟩, ⟨some 59, .ld 3 1 false (.tmp 58), none⟩, ⟨some 60, .iaa 3 1 (.tmp 6) (.tmp 59), none⟩, ⟨some 61, .ld 2 1 false (.tmp 60), none⟩, ⟨some 62, .fa 3 (.tmp 13), none⟩, ⟨some 63, .ld 2 1 false (.tmp 62), none⟩, ⟨some 64, .bin 2 .gtr (.tmp 61) (.tmp 63), none⟩]
def Xn59_58 : C := regL [6, 7] none [⟨some 65, .bld (.agg #[.int .i64 0, .int .i64 0, .int .i64 0]) [], none⟩, ⟨none, .st 30 3 (.tmp 6) (.tmp 65), none⟩, ⟨some 7, .mv (.const (.int .i64 14)), none⟩]
def Xn59_57 : C := .seq Xn59_58 .ret
def Xn59_56 : C := .cond (.tmp 64) Xn59_57 .skip
def Xn59_54 : C := .seq Xn59_55 Xn59_56
def Xn59_52 : C := .seq Xn59_53 Xn59_54
def Xn59_51 : C := .block 3 Xn59_52
def Xn59_61 : C := regL [6, 52, 53, 54] none [⟨some 66, .bin 3 .add (.tmp 54) (.const (.int .i64 1)), none⟩, ⟨some 54, .mv (.tmp 66), none⟩]
def Xn59_50 : C := seqL [6, 52, 53, 54] Xn59_51 Xn59_61
def Xn59_46 : C := seqL [6, 52, 53, 54] Xn59_47 Xn59_50
def Xn59_44 : C := .seq Xn59_45 Xn59_46
def Xn59_43 : C := loopL [6, 52, 53, 54] Xn59_44
def Xn59_42 : C := .block 2 Xn59_43
def Xn59_40 : C := .seq Xn59_41 Xn59_42
def Xn59_63 : C := regL [6, 7] none [⟨some 67, .ld 30 3 true (.tmp 6), none⟩, ⟨none, .st 30 3 (.tmp 6) (.tmp 67), none⟩, ⟨some 7, .mv (.const (.int .i64 0)), none⟩]
def Xn59_62 : C := .seq Xn59_63 .ret
def Xn59_39 : C := seqL [6] Xn59_40 Xn59_62
def Xn59_20 : C := seqL [0, 6] Xn59_21 Xn59_39
def Xn59_18 : C := .seq Xn59_19 Xn59_20
def Xn59_10 : C := seqL [0, 1, 5, 6] Xn59_11 Xn59_18
def Xn59_2 : C := seqL [0, 1, 5, 6] Xn59_3 Xn59_10
def Xn59_0 : C := .seq Xn59_1 Xn59_2
theorem Xt59 : Text Try.prog 59 Xn59_0 68 3 [.c 6 3 true, .t 7] := ⟨⟨Try.f59, [5], Try.func59, by kernel_rfl, by kernel_rfl, by kernel_rfl, by kernel_rfl⟩⟩
def Xn60_1 : C := regL [0, 3, 4] none [⟨some 3, .box true 29 (.tmp 1), none⟩, ⟨some 4, .alc 30 (.agg #[.int .i64 0, .int .i64 0, .int .i64 0]), none⟩, ⟨some 5, .mv (.const (.int .i64 0)), none⟩]
def Xn60_3 : C := regL [0, 3, 4, 6] none [⟨some 6, .mv (.const (.int .i64 1)), none⟩]
def Xn60_6 : C := regL [0, 3, 4, 6, 13] none [⟨some 9, .mv (.tmp 0), none⟩, ⟨some 10, .nilc (.tmp 9), none⟩, ⟨some 11, .fa 10 (.tmp 10), none⟩, ⟨some 12, .ld 2 1 false (.tmp 11), none⟩, ⟨some 13, .bin 2 .lss (.tmp 12) (.const (.int .i64 0)), none⟩]
def Xn60_8 : C := regL [0, 3, 4, 6] none [⟨some 6, .mv (.const (.int .i64 (-1))), none⟩]
def Xn60_7 : C := .cond (.tmp 13) Xn60_8 .skip
def Xn60_5 : C := .seq Xn60_6 Xn60_7
def Xn60_12 : C := regL [0, 3, 4, 6, 14] none [⟨some 14, .mv (.const (.int .i64 0)), none⟩]
def Xn60_16 : C := regL [0, 3, 4, 6, 14, 15] none [⟨some 15, .bin 3 .lss (.tmp 14) (.const (.int .i64 3)), none⟩]
def Xn60_18 : C := .cond (.tmp 15) .skip (.exit 0)
def Xn60_24 : C := regL [0, 3, 4, 6, 7, 14] none [⟨some 16, .mv (.tmp 14), none⟩, ⟨some 7, .mv (.tmp 16), none⟩]
def Xn60_26 : C := regL [0, 3, 4, 6, 7, 8, 14] none [⟨some 17, .mv (.tmp 0), none⟩, ⟨some 18, .nilc (.tmp 17), none⟩, ⟨some 19, .fa 1 (.tmp 18), none⟩, ⟨some 20, .ld 94 9 true (.tmp 19), none⟩, ⟨some 8, .alc 94 (.agg #[.int .i64 0, .int .i64 0, .int .i64 0, .int .i64 0, .int .i64 0, .int .i64 0, .int .i64 0, .int .i64 0, .int .i64 0]), none⟩, ⟨none, .st 94 9 (.tmp 8) (.tmp 20), none⟩]
def Xn60_28 : C := regL [0, 3, 4, 6, 7, 8, 14] none [⟨some 21, .mv (.tmp 7), none⟩, ⟨some 22, .fa 0 (.tmp 3), none⟩, ⟨some 23, .ld 2 1 false (.tmp 22), none⟩, ⟨some 24, .fa 1 (.tmp 3), none⟩, ⟨some 25, .ld 2 1 false (.tmp 24), none⟩, ⟨some 26, .bld (.agg #[.int .i64 0, .int .i64 0, .int .i64 0]) [(0, 1, .const (.int .i64 1)), (1, 1, .tmp 23), (2, 1, .tmp 25)], none⟩, ⟨some 27, .iaa 3 3 (.tmp 8) (.tmp 21), none⟩, ⟨none, .st 30 3 (.tmp 27) (.tmp 26), none⟩]
def Xn60_29 : C := regL [0, 3, 4, 6, 14] none [⟨some 28, .mv (.tmp 7), none⟩, ⟨some 29, .mv (.tmp 6), none⟩, ⟨some 30, .ld 94 9 true (.tmp 8), none⟩, ⟨some 31, .call 95 [.tmp 30], none⟩, ⟨some 32, .bin 2 .mul (.tmp 29) (.tmp 31), none⟩, ⟨some 33, .iaa 3 1 (.tmp 4) (.tmp 28), none⟩, ⟨none, .st 2 1 (.tmp 33) (.tmp 32), none⟩]
def Xn60_27 : C := .seq Xn60_28 Xn60_29
def Xn60_25 : C := .seq Xn60_26 Xn60_27
def Xn60_23 : C := .seq Xn60_24 Xn60_25
def Xn60_22 : C := .block 1 Xn60_23
def Xn60_30 : C := regL [0, 3, 4, 6, 14] none [⟨some 34, .bin 3 .add (.tmp 14) (.const (.int .i64 1)), none⟩, ⟨some 14, .mv (.tmp 34), none⟩]
def Xn60_21 : C := seqL [0, 3, 4, 6, 14] Xn60_22 Xn60_30
def Xn60_17 : C := seqL [0, 3, 4, 6, 14] Xn60_18 Xn60_21
def Xn60_15 : C := .seq Xn60_16 Xn60_17
def Xn60_14 : C := loopL [0, 3, 4, 6, 14] Xn60_15
def Xn60_13 : C := .block 0 Xn60_14
def Xn60_11 : C := .seq Xn60_12 Xn60_13
def Xn60_32 : C := regL [4, 5] (some [0, 0, 0, 4, 12, 28, 62, 1, 255]) [⟨some 35, .ld 30 3 true (.tmp 4), none⟩, ⟨some 36, .mv (.tmp 6), none⟩, ⟨some 37, .mv (.tmp 0), none⟩, ⟨some 38, .nilc (.tmp 37), none⟩, ⟨some 39, .fa 10 (.tmp 38), none⟩, ⟨some 40, .ld 2 1 false (.tmp 39), none⟩, ⟨some 41, .bin 2 .mul (.tmp 36) (.tmp 40), none⟩, ⟨none, .st 30 3 (.tmp 4) (.tmp 35), none⟩, ⟨some 5, .mv (.tmp 41), none⟩]
def Xn60_31 : C := .seq Xn60_32 .ret
def Xn60_10 : C := seqL [0, 4, 6] Xn60_11 Xn60_31
def Xn60_4 : C := seqL [0, 3, 4, 6] Xn60_5 Xn60_10
def Xn60_2 : C := .seq Xn60_3 Xn60_4
def Xn60_0 : C := .seq Xn60_1 Xn60_2
theorem Xt60 : Text Try.prog 60 Xn60_0 42 2 [.c 4 3 true, .t 5] := ⟨⟨Try.f60, [3], Try.func60, by kernel_rfl, by kernel_rfl, by kernel_rfl, by kernel_rfl⟩⟩
def Xn61_1 : C := regL [0, 2] none [⟨some 2, .alc 31 (.agg #[.int .i64 0, .int .i64 0, .int .i64 0, .int .i64 0, .int .i64 0, .int .i64 0, .int .i64 0, .int .i64 0, .int .i64 0]), none⟩]
def Xn61_3 : C := regL [0, 2, 3] none [⟨some 3, .alc 31 (.agg #[.int .i64 0, .int .i64 0, .int .i64 0, .int .i64 0, .int .i64 0, .int .i64 0, .int .i64 0, .int .i64 0, .int .i64 0]), none⟩]
def Xn61_6 : C := regL [0, 2, 3, 4] none [⟨some 4, .mv (.const (.int .i64 0)), none⟩]
def Xn61_11 : C := regL [0, 2, 3, 4, 9] none [⟨some 6, .mv (.tmp 4), none⟩, ⟨some 7, .mv (.tmp 0), none⟩, ⟨some 8, .len (.tmp 7), none⟩, ⟨some 9, .bin 3 .lss (.tmp 6) (.tmp 8), none⟩]
def Xn61_12 : C := .cond (.tmp 9) .skip (.exit 0)
def Xn61_10 : C := .seq Xn61_11 Xn61_12
def Xn61_18 : C := regL [0, 2, 3, 4, 5] none [⟨some 12, .mv (.tmp 0), none⟩, ⟨some 13, .mv (.tmp 4), none⟩, ⟨some 14, .ia 6 (.tmp 12) (.tmp 13), none⟩, ⟨some 15, .fa 2 (.tmp 14), none⟩, ⟨some 16, .ld 3 1 false (.tmp 15), none⟩, ⟨some 5, .mv (.tmp 16), none⟩]
def Xn61_20 : C := regL [0, 2, 3, 4, 5] (some [0, 1, 3, 7, 15, 1, 63, 127]) [⟨some 17, .mv (.tmp 5), none⟩, ⟨some 18, .iaa 3 3 (.tmp 3) (.tmp 17), none⟩, ⟨some 19, .iaa 3 1 (.tmp 18) (.const (.int .i64 0)), none⟩, ⟨some 20, .ld 2 1 false (.tmp 19), none⟩, ⟨some 21, .bin 2 .add (.tmp 20) (.const (.int .i64 1)), none⟩, ⟨some 22, .iaa 3 3 (.tmp 3) (.tmp 17), none⟩, ⟨some 23, .iaa 3 1 (.tmp 22) (.const (.int .i64 0)), none⟩, ⟨none, .st 2 1 (.tmp 23) (.tmp 21), none⟩]
def Xn61_22 : C := regL [0, 2, 3, 4, 5] (some [0, 1, 3, 7, 0, 0, 48, 112, 240, 511, 1, 2047, 4095]) [⟨some 24, .mv (.tmp 5), none⟩, ⟨some 25, .iaa 3 3 (.tmp 3) (.tmp 24), none⟩, ⟨some 26, .iaa 3 1 (.tmp 25) (.const (.int .i64 1)), none⟩, ⟨some 27, .ld 2 1 false (.tmp 26), none⟩, ⟨some 28, .mv (.tmp 0), none⟩, ⟨some 29, .mv (.tmp 4), none⟩, ⟨some 30, .ia 6 (.tmp 28) (.tmp 29), none⟩, ⟨some 31, .fa 0 (.tmp 30), none⟩, ⟨some 32, .ld 2 1 false (.tmp 31), none⟩, ⟨some 33, .bin 2 .add (.tmp 27) (.tmp 32), none⟩, ⟨some 34, .iaa 3 3 (.tmp 3) (.tmp 24), none⟩, ⟨some 35, .iaa 3 1 (.tmp 34) (.const (.int .i64 1)), none⟩, ⟨none, .st 2 1 (.tmp 35) (.tmp 33), none⟩]
def Xn61_23 : C := regL [0, 2, 3, 4] (some [0, 1, 3, 7, 0, 0, 48, 112, 240, 511, 1, 2047, 4095]) [⟨some 36, .mv (.tmp 5), none⟩, ⟨some 37, .iaa 3 3 (.tmp 3) (.tmp 36), none⟩, ⟨some 38, .iaa 3 1 (.tmp 37) (.const (.int .i64 2)), none⟩, ⟨some 39, .ld 2 1 false (.tmp 38), none⟩, ⟨some 40, .mv (.tmp 0), none⟩, ⟨some 41, .mv (.tmp 4), none⟩, ⟨some 42, .ia 6 (.tmp 40) (.tmp 41), none⟩, ⟨some 43, .fa 1 (.tmp 42), none⟩, ⟨some 44, .ld 2 1 false (.tmp 43), none⟩, ⟨some 45, .bin 2 .add (.tmp 39) (.tmp 44), none⟩, ⟨some 46, .iaa 3 3 (.tmp 3) (.tmp 36), none⟩, ⟨some 47, .iaa 3 1 (.tmp 46) (.const (.int .i64 2)), none⟩, ⟨none, .st 2 1 (.tmp 47) (.tmp 45), none⟩]
def Xn61_21 : C := .seq Xn61_22 Xn61_23
def Xn61_19 : C := .seq Xn61_20 Xn61_21
def Xn61_17 : C := .seq Xn61_18 Xn61_19
def Xn61_16 : C := .block 1 Xn61_17
def Xn61_24 : C := regL [0, 2, 3, 4] none [⟨some 10, .mv (.tmp 4), none⟩, ⟨some 11, .bin 3 .add (.tmp 10) (.const (.int .i64 1)), none⟩, ⟨some 4, .mv (.tmp 11), none⟩]
def Xn61_15 : C := seqL [0, 2, 3, 4] Xn61_16 Xn61_24
def Xn61_9 : C := seqL [0, 2, 3, 4] Xn61_10 Xn61_15
def Xn61_8 : C := loopL [0, 2, 3, 4] Xn61_9
def Xn61_7 : C := .block 0 Xn61_8
def Xn61_5 : C := .seq Xn61_6 Xn61_7
def Xn61_26 : C := regL [2] none [⟨some 48, .ld 31 9 true (.tmp 3), none⟩, ⟨none, .st 31 9 (.tmp 2) (.tmp 48), none⟩]
def Xn61_25 : C := .seq Xn61_26 .ret
def Xn61_4 : C := seqL [2, 3] Xn61_5 Xn61_25
def Xn61_2 : C := .seq Xn61_3 Xn61_4
def Xn61_0 : C := .seq Xn61_1 Xn61_2
theorem Xt61 : Text Try.prog 61 Xn61_0 49 1 [.c 2 9 true] := ⟨⟨Try.f61, [], Try.func61, by kernel_rfl, by kernel_rfl, by kernel_rfl, by kernel_rfl⟩⟩
def Xn62_1 : C := regL [1] none [⟨some 1, .box true 29 (.tmp 0), none⟩, ⟨some 2, .mv (.const (.int .i64 0)), none⟩]
def Xn62_4 : C := regL [12] none [⟨some 3, .fa 0 (.tmp 1), none⟩, ⟨some 4, .ld 2 1 false (.tmp 3), none⟩, ⟨some 5, .call 74 [.tmp 4, .const (.int .i64 (-262144)), .const (.int .i64 262144)], none⟩, ⟨some 6, .un .not (.tmp 5), none⟩, ⟨some 7, .mv (.tmp 6), none⟩, ⟨some 8, .fa 1 (.tmp 1), some (7, false)⟩, ⟨some 9, .ld 2 1 false (.tmp 8), some (7, false)⟩, ⟨some 10, .call 74 [.tmp 9, .const (.int .i64 (-262144)), .const (.int .i64 262144)], some (7, false)⟩, ⟨some 11, .un .not (.tmp 10), some (7, false)⟩, ⟨some 12, .pick 7 (.const (.bool true)) (.tmp 11), none⟩]
def Xn62_7 : C := regL [2] none [⟨some 2, .mv (.const (.int .i64 3)), none⟩]
def Xn62_6 : C := .seq Xn62_7 .ret
def Xn62_5 : C := .cond (.tmp 12) Xn62_6 .skip
def Xn62_3 : C := .seq Xn62_4 Xn62_5
def Xn62_11 : C := regL [2] none [⟨some 2, .mv (.const (.int .i64 0)), none⟩]
def Xn62_10 : C := .seq Xn62_11 .ret
def Xn62_2 : C := seqL [] Xn62_3 Xn62_10
def Xn62_0 : C := .seq Xn62_1 Xn62_2
theorem Xt62 : Text Try.prog 62 Xn62_0 13 1 [.t 2] := ⟨⟨Try.f62, [1], Try.func62, by kernel_rfl, by kernel_rfl, by kernel_rfl, by kernel_rfl⟩⟩
def Xn63_1 : C := regL [0, 3, 4] none [⟨some 3, .box true 29 (.tmp 1), none⟩, ⟨some 4, .alc 30 (.agg #[.int .i64 0, .int .i64 0, .int .i64 0]), none⟩, ⟨some 5, .mv (.const (.int .i64 0)), none⟩]
def Xn63_3 : C := regL [3, 4, 6] none [⟨some 11, .mv (.tmp 0), none⟩, ⟨some 12, .call 61 [.tmp 11], none⟩, ⟨some 6, .alc 31 (.agg #[.int .i64 0, .int .i64 0, .int .i64 0, .int .i64 0, .int .i64 0, .int .i64 0, .int .i64 0, .int .i64 0, .int .i64 0]), none⟩, ⟨none, .st 31 9 (.tmp 6) (.tmp 12), none⟩]
def Xn63_5 : C := regL [3, 4, 6, 7] none [⟨some 13, .ld 31 9 true (.tmp 6), none⟩, ⟨some 14, .call 67 [.tmp 13], none⟩, ⟨some 7, .mv (.tmp 14), none⟩]
def Xn63_7 : C := regL [3, 4, 6, 7, 8] none [⟨some 8, .alc 30 (.agg #[.int .i64 0, .int .i64 0, .int .i64 0]), none⟩]
def Xn63_10 : C := regL [3, 4, 6, 7, 8, 9] none [⟨some 9, .mv (.const (.int .i64 0)), none⟩]
def Xn63_15 : C := regL [3, 4, 6, 7, 8, 9, 16] none [⟨some 15, .mv (.tmp 9), none⟩, ⟨some 16, .bin 3 .lss (.tmp 15) (.const (.int .i64 3)), none⟩]
def Xn63_16 : C := .cond (.tmp 16) .skip (.exit 0)
def Xn63_14 : C := .seq Xn63_15 Xn63_16
def Xn63_22 : C := regL [3, 4, 6, 7, 8, 9, 10] none [⟨some 19, .ld 31 9 true (.tmp 6), none⟩, ⟨some 10, .alc 31 (.agg #[.int .i64 0, .int .i64 0, .int .i64 0, .int .i64 0, .int .i64 0, .int .i64 0, .int .i64 0, .int .i64 0, .int .i64 0]), none⟩, ⟨none, .st 31 9 (.tmp 10) (.tmp 19), none⟩]
def Xn63_24 : C := regL [3, 4, 6, 7, 8, 9, 10] none [⟨some 20, .mv (.tmp 9), none⟩, ⟨some 21, .fa 0 (.tmp 3), none⟩, ⟨some 22, .ld 2 1 false (.tmp 21), none⟩, ⟨some 23, .fa 1 (.tmp 3), none⟩, ⟨some 24, .ld 2 1 false (.tmp 23), none⟩, ⟨some 25, .bld (.agg #[.int .i64 0, .int .i64 0, .int .i64 0]) [(0, 1, .const (.int .i64 1)), (1, 1, .tmp 22), (2, 1, .tmp 24)], none⟩, ⟨some 26, .iaa 3 3 (.tmp 10) (.tmp 20), none⟩, ⟨none, .st 30 3 (.tmp 26) (.tmp 25), none⟩]
def Xn63_26 : C := regL [3, 4, 6, 7, 8, 9] none [⟨some 27, .mv (.tmp 9), none⟩, ⟨some 28, .ld 31 9 true (.tmp 10), none⟩, ⟨some 29, .call 67 [.tmp 28], none⟩, ⟨some 30, .iaa 3 1 (.tmp 8) (.tmp 27), none⟩, ⟨none, .st 2 1 (.tmp 30) (.tmp 29), none⟩]
def Xn63_28 : C := regL [3, 4, 6, 7, 8, 9, 32] none [⟨some 31, .mv (.tmp 7), none⟩, ⟨some 32, .bin 2 .lss (.tmp 31) (.const (.int .i64 0)), none⟩]
def Xn63_30 : C := regL [3, 4, 6, 7, 8, 9] none [⟨some 33, .mv (.tmp 9), none⟩, ⟨some 34, .mv (.tmp 9), none⟩, ⟨some 35, .iaa 3 1 (.tmp 8) (.tmp 34), none⟩, ⟨some 36, .ld 2 1 false (.tmp 35), none⟩, ⟨some 37, .un .neg (.tmp 36), none⟩, ⟨some 38, .iaa 3 1 (.tmp 8) (.tmp 33), none⟩, ⟨none, .st 2 1 (.tmp 38) (.tmp 37), none⟩]
def Xn63_29 : C := .cond (.tmp 32) Xn63_30 .skip
def Xn63_27 : C := .seq Xn63_28 Xn63_29
def Xn63_25 : C := .seq Xn63_26 Xn63_27
def Xn63_23 : C := .seq Xn63_24 Xn63_25
def Xn63_21 : C := .seq Xn63_22 Xn63_23
def Xn63_20 : C := .block 1 Xn63_21
def Xn63_32 : C := regL [3, 4, 6, 7, 8, 9] none [⟨some 17, .mv (.tmp 9), none⟩, ⟨some 18, .bin 3 .add (.tmp 17) (.const (.int .i64 1)), none⟩, ⟨some 9, .mv (.tmp 18), none⟩]
def Xn63_19 : C := seqL [3, 4, 6, 7, 8, 9] Xn63_20 Xn63_32
def Xn63_13 : C := seqL [3, 4, 6, 7, 8, 9] Xn63_14 Xn63_19
def Xn63_12 : C := loopL [3, 4, 6, 7, 8, 9] Xn63_13
def Xn63_11 : C := .block 0 Xn63_12
def Xn63_9 : C := .seq Xn63_10 Xn63_11
def Xn63_34 : C := regL [4, 5] none [⟨some 39, .ld 30 3 true (.tmp 8), none⟩, ⟨some 40, .mv (.tmp 7), none⟩, ⟨some 41, .mv (.tmp 7), none⟩, ⟨some 42, .un .neg (.tmp 41), none⟩, ⟨some 43, .mx [.tmp 40, .tmp 42], none⟩, ⟨none, .st 30 3 (.tmp 4) (.tmp 39), none⟩, ⟨some 5, .mv (.tmp 43), none⟩]
def Xn63_33 : C := .seq Xn63_34 .ret
def Xn63_8 : C := seqL [4, 7, 8] Xn63_9 Xn63_33
def Xn63_6 : C := .seq Xn63_7 Xn63_8
def Xn63_4 : C := .seq Xn63_5 Xn63_6
def Xn63_2 : C := .seq Xn63_3 Xn63_4
def Xn63_0 : C := .seq Xn63_1 Xn63_2
theorem Xt63 : Text Try.prog 63 Xn63_0 44 2 [.c 4 3 true, .t 5] := ⟨⟨Try.f63, [3], Try.func63, by kernel_rfl, by kernel_rfl, by kernel_rfl, by kernel_rfl⟩⟩
def Xn64_1 : C := regL [0, 1, 5, 6] none [⟨some 5, .box true 29 (.tmp 2), none⟩, ⟨some 6, .alc 30 (.agg #[.int .i64 0, .int .i64 0, .int .i64 0]), none⟩, ⟨some 7, .mv (.const (.int .i64 0)), none⟩]
def Xn64_4 : C := regL [0, 1, 5, 6, 17] none [⟨some 10, .mv (.tmp 1), none⟩, ⟨some 11, .call 75 [.tmp 10], none⟩, ⟨some 12, .bin 22 .neq (.tmp 11) (.const (.int .i64 0)), none⟩, ⟨some 13, .mv (.tmp 12), none⟩, ⟨some 14, .ld 29 2 true (.tmp 5), some (13, false)⟩, ⟨some 15, .call 62 [.tmp 14], some (13, false)⟩, ⟨some 16, .bin 22 .neq (.tmp 15) (.const (.int .i64 0)), some (13, false)⟩, ⟨some 17, .pick 13 (.const (.bool true)) (.tmp 16), none⟩]
def Xn64_7 : C := regL [6, 7] none [⟨some 18, .bld (.agg #[.int .i64 0, .int .i64 0, .int .i64 0]) [], none⟩, ⟨none, .st 30 3 (.tmp 6) (.tmp 18), none⟩, ⟨some 7, .mv (.const (.int .i64 3)), none⟩]
def Xn64_6 : C := .seq Xn64_7 .ret
def Xn64_5 : C := .cond (.tmp 17) Xn64_6 .skip
def Xn64_3 : C := .seq Xn64_4 Xn64_5
def Xn64_12 : C := regL [0, 1, 5, 6, 22] none [⟨some 19, .mv (.tmp 0), none⟩, ⟨some 20, .ld 29 2 true (.tmp 5), none⟩, ⟨some 21, .call 65 [.tmp 19, .tmp 20], none⟩, ⟨some 22, .bin 3 .geq (.tmp 21) (.const (.int .i64 0)), none⟩]
def Xn64_15 : C := regL [6, 7] none [⟨some 23, .bld (.agg #[.int .i64 0, .int .i64 0, .int .i64 0]) [], none⟩, ⟨none, .st 30 3 (.tmp 6) (.tmp 23), none⟩, ⟨some 7, .mv (.const (.int .i64 19)), none⟩]
def Xn64_14 : C := .seq Xn64_15 .ret
def Xn64_13 : C := .cond (.tmp 22) Xn64_14 .skip
def Xn64_11 : C := .seq Xn64_12 Xn64_13
def Xn64_19 : C := regL [0, 6, 8] none [⟨some 24, .mv (.tmp 0), none⟩, ⟨some 25, .mv (.tmp 1), none⟩, ⟨some 26, .ld 29 2 true (.tmp 5), none⟩, ⟨some 27, .call 98 [.tmp 24, .tmp 25, .tmp 26], none⟩, ⟨some 8, .alc 30 (.agg #[.int .i64 0, .int .i64 0, .int .i64 0]), none⟩, ⟨none, .st 30 3 (.tmp 8) (.tmp 27), none⟩]
def Xn64_22 : C := regL [0, 6, 8, 9] none [⟨some 9, .mv (.const (.int .i64 0)), none⟩]
def Xn64_27 : C := regL [0, 6, 8, 9, 31] none [⟨some 28, .mv (.tmp 9), none⟩, ⟨some 29, .mv (.tmp 0), none⟩, ⟨some 30, .len (.tmp 29), none⟩, ⟨some 31, .bin 3 .lss (.tmp 28) (.tmp 30), none⟩]
def Xn64_28 : C := .cond (.tmp 31) .skip (.exit 0)
def Xn64_26 : C := .seq Xn64_27 Xn64_28
def Xn64_34 : C := regL [0, 6, 8, 9, 46] (some [0, 0, 3, 7, 15, 31, 63, 0, 0, 384, 896, 1920, 4095]) [⟨some 34, .mv (.tmp 0), none⟩, ⟨some 35, .mv (.tmp 9), none⟩, ⟨some 36, .ia 6 (.tmp 34) (.tmp 35), none⟩, ⟨some 37, .fa 2 (.tmp 36), none⟩, ⟨some 38, .ld 3 1 false (.tmp 37), none⟩, ⟨some 39, .iaa 3 1 (.tmp 8) (.tmp 38), none⟩, ⟨some 40, .ld 2 1 false (.tmp 39), none⟩, ⟨some 41, .mv (.tmp 0), none⟩, ⟨some 42, .mv (.tmp 9), none⟩, ⟨some 43, .ia 6 (.tmp 41) (.tmp 42), none⟩, ⟨some 44, .fa 3 (.tmp 43), none⟩, ⟨some 45, .ld 2 1 false (.tmp 44), none⟩, ⟨some 46, .bin 2 .gtr (.tmp 40) (.tmp 45), none⟩]
def Xn64_37 : C := regL [6, 7] none [⟨some 47, .bld (.agg #[.int .i64 0, .int .i64 0, .int .i64 0]) [], none⟩, ⟨none, .st 30 3 (.tmp 6) (.tmp 47), none⟩, ⟨some 7, .mv (.const (.int .i64 14)), none⟩]
def Xn64_36 : C := .seq Xn64_37 .ret
def Xn64_35 : C := .cond (.tmp 46) Xn64_36 .skip
def Xn64_33 : C := .seq Xn64_34 Xn64_35
def Xn64_32 : C := .block 1 Xn64_33
def Xn64_40 : C := regL [0, 6, 8, 9] none [⟨some 32, .mv (.tmp 9), none⟩, ⟨some 33, .bin 3 .add (.tmp 32) (.const (.int .i64 1)), none⟩, ⟨some 9, .mv (.tmp 33), none⟩]
def Xn64_31 : C := seqL [0, 6, 8, 9] Xn64_32 Xn64_40
def Xn64_25 : C := seqL [0, 6, 8, 9] Xn64_26 Xn64_31
def Xn64_24 : C := loopL [0, 6, 8, 9] Xn64_25
def Xn64_23 : C := .block 0 Xn64_24
def Xn64_21 : C := .seq Xn64_22 Xn64_23
def Xn64_42 : C := regL [6, 7] none [⟨some 48, .ld 30 3 true (.tmp 8), none⟩, ⟨none, .st 30 3 (.tmp 6) (.tmp 48), none⟩, ⟨some 7, .mv (.const (.int .i64 0)), none⟩]
def Xn64_41 : C := .seq Xn64_42 .ret
def Xn64_20 : C := seqL [6, 8] Xn64_21 Xn64_41
def Xn64_18 : C := .seq Xn64_19 Xn64_20
def Xn64_10 : C := seqL [0, 1, 5, 6] Xn64_11 Xn64_18
def Xn64_2 : C := seqL [0, 1, 5, 6] Xn64_3 Xn64_10
def Xn64_0 : C := .seq Xn64_1 Xn64_2
theorem Xt64 : Text Try.prog 64 Xn64_0 49 3 [.c 6 3 true, .t 7] := ⟨⟨Try.f64, [5], Try.func64, by kernel_rfl, by kernel_rfl, by kernel_rfl, by kernel_rfl⟩⟩
def Xn65_1 : C := regL [0, 3] none [⟨some 3, .box true 29 (.tmp 1), none⟩, ⟨some 4, .mv (.const (.int .i64 0)), none⟩]
def Xn65_3 : C := regL [5] none [⟨some 9, .mv (.tmp 0), none⟩, ⟨some 10, .ld 29 2 true (.tmp 3), none⟩, ⟨some 11, .call 63 [.tmp 9, .tmp 10], none⟩, ⟨some 8, .mv (.tmp 11), none⟩, ⟨some 12, .ext 0 (.tmp 8), none⟩, ⟨some 13, .ext 1 (.tmp 8), none⟩, ⟨some 5, .alc 30 (.agg #[.int .i64 0, .int .i64 0, .int .i64 0]), none⟩, ⟨none, .st 30 3 (.tmp 5) (.tmp 12), none⟩, ⟨some 6, .mv (.tmp 13), none⟩]
def Xn65_6 : C := regL [5, 7] none [⟨some 7, .mv (.const (.int .i64 0)), none⟩]
def Xn65_11 : C := regL [5, 7, 15] none [⟨some 14, .mv (.tmp 7), none⟩, ⟨some 15, .bin 3 .lss (.tmp 14) (.const (.int .i64 3)), none⟩]
def Xn65_12 : C := .cond (.tmp 15) .skip (.exit 0)
def Xn65_10 : C := .seq Xn65_11 Xn65_12
def Xn65_18 : C := regL [5, 7, 21] none [⟨some 18, .mv (.tmp 7), none⟩, ⟨some 19, .iaa 3 1 (.tmp 5) (.tmp 18), none⟩, ⟨some 20, .ld 2 1 false (.tmp 19), none⟩, ⟨some 21, .bin 2 .lss (.tmp 20) (.const (.int .i64 0)), none⟩]
def Xn65_21 : C := regL [4] none [⟨some 22, .mv (.tmp 7), none⟩, ⟨some 4, .mv (.tmp 22), none⟩]
def Xn65_20 : C := .seq Xn65_21 .ret
def Xn65_19 : C := .cond (.tmp 21) Xn65_20 .skip
def Xn65_17 : C := .seq Xn65_18 Xn65_19
def Xn65_16 : C := .block 1 Xn65_17
def Xn65_24 : C := regL [5, 7] none [⟨some 16, .mv (.tmp 7), none⟩, ⟨some 17, .bin 3 .add (.tmp 16) (.const (.int .i64 1)), none⟩, ⟨some 7, .mv (.tmp 17), none⟩]
def Xn65_15 : C := seqL [5, 7] Xn65_16 Xn65_24
def Xn65_9 : C := seqL [5, 7] Xn65_10 Xn65_15
def Xn65_8 : C := loopL [5, 7] Xn65_9
def Xn65_7 : C := .block 0 Xn65_8
def Xn65_5 : C := .seq Xn65_6 Xn65_7
def Xn65_26 : C := regL [4] none [⟨some 4, .mv (.const (.int .i64 (-1))), none⟩]
def Xn65_25 : C := .seq Xn65_26 .ret
def Xn65_4 : C := seqL [] Xn65_5 Xn65_25
def Xn65_2 : C := .seq Xn65_3 Xn65_4
def Xn65_0 : C := .seq Xn65_1 Xn65_2
theorem Xt65 : Text Try.prog 65 Xn65_0 23 2 [.t 4] := ⟨⟨Try.f65, [3], Try.func65, by kernel_rfl, by kernel_rfl, by kernel_rfl, by kernel_rfl⟩⟩
def Xn66_1 : C := regL [1] none [⟨some 1, .box true 62 (.tmp 0), none⟩, ⟨some 2, .mv (.const (.bool false)), none⟩]
def Xn66_3 : C := regL [2] none [⟨some 3, .fa 0 (.tmp 1), none⟩, ⟨some 4, .ld 2 1 false (.tmp 3), none⟩, ⟨some 5, .call 74 [.tmp 4, .const (.int .i64 (-131072)), .const (.int .i64 131072)], none⟩, ⟨some 6, .mv (.tmp 5), none⟩, ⟨some 7, .fa 1 (.tmp 1), some (6, true)⟩, ⟨some 8, .ld 2 1 false (.tmp 7), some (6, true)⟩, ⟨some 9, .call 74 [.tmp 8, .const (.int .i64 (-131072)), .const (.int .i64 131072)], some (6, true)⟩, ⟨some 10, .pick 6 (.tmp 9) (.const (.bool false)), none⟩, ⟨some 11, .mv (.tmp 10), none⟩, ⟨some 12, .fa 2 (.tmp 1), some (11, true)⟩, ⟨some 13, .ld 3 1 false (.tmp 12), some (11, true)⟩, ⟨some 14, .call 74 [.tmp 13, .const (.int .i64 0), .const (.int .i64 2)], some (11, true)⟩, ⟨some 15, .pick 11 (.tmp 14) (.const (.bool false)), none⟩, ⟨some 16, .mv (.tmp 15), none⟩, ⟨some 17, .fa 3 (.tmp 1), some (16, true)⟩, ⟨some 18, .ld 2 1 false (.tmp 17), some (16, true)⟩, ⟨some 19, .call 74 [.tmp 18, .const (.int .i64 1), .const (.int .i64 1048576)], some (16, true)⟩, ⟨some 20, .pick 16 (.tmp 19) (.const (.bool false)), none⟩, ⟨some 21, .mv (.tmp 20), none⟩, ⟨some 22, .fa 4 (.tmp 1), some (21, true)⟩, ⟨some 23, .ld 2 1 false (.tmp 22), some (21, true)⟩, ⟨some 24, .bin 2 .geq (.tmp 23) (.const (.int .i64 0)), some (21, true)⟩, ⟨some 25, .pick 21 (.tmp 24) (.const (.bool false)), none⟩, ⟨some 26, .mv (.tmp 25), none⟩, ⟨some 27, .fa 4 (.tmp 1), some (26, true)⟩, ⟨some 28, .ld 2 1 false (.tmp 27), some (26, true)⟩, ⟨some 29, .fa 5 (.tmp 1), some (26, true)⟩, ⟨some 30, .ld 2 1 false (.tmp 29), some (26, true)⟩, ⟨some 31, .bin 2 .leq (.tmp 28) (.tmp 30), some (26, true)⟩, ⟨some 32, .pick 26 (.tmp 31) (.const (.bool false)), none⟩, ⟨some 33, .mv (.tmp 32), none⟩, ⟨some 34, .fa 5 (.tmp 1), some (33, true)⟩, ⟨some 35, .ld 2 1 false (.tmp 34), some (33, true)⟩, ⟨some 36, .bin 2 .leq (.tmp 35) (.const (.int .i64 4096)), some (33, true)⟩, ⟨some 37, .pick 33 (.tmp 36) (.const (.bool false)), none⟩, ⟨some 2, .mv (.tmp 37), none⟩]
def Xn66_2 : C := .seq Xn66_3 .ret
def Xn66_0 : C := .seq Xn66_1 Xn66_2
theorem Xt66 : Text Try.prog 66 Xn66_0 38 1 [.t 2] := ⟨⟨Try.f66, [1], Try.func66, by kernel_rfl, by kernel_rfl, by kernel_rfl, by kernel_rfl⟩⟩
def Xn67_1 : C := regL [1] none [⟨some 1, .box true 31 (.tmp 0), none⟩, ⟨some 2, .mv (.const (.int .i64 0)), none⟩]
def Xn67_3 : C := regL [2] none [⟨some 3, .iaa 3 3 (.tmp 1) (.const (.int .i64 0)), none⟩, ⟨some 4, .iaa 3 1 (.tmp 3) (.const (.int .i64 0)), none⟩, ⟨some 5, .ld 2 1 false (.tmp 4), none⟩, ⟨some 6, .iaa 3 3 (.tmp 1) (.const (.int .i64 1)), none⟩, ⟨some 7, .iaa 3 1 (.tmp 6) (.const (.int .i64 1)), none⟩, ⟨some 8, .ld 2 1 false (.tmp 7), none⟩, ⟨some 9, .iaa 3 3 (.tmp 1) (.const (.int .i64 2)), none⟩, ⟨some 10, .iaa 3 1 (.tmp 9) (.const (.int .i64 2)), none⟩, ⟨some 11, .ld 2 1 false (.tmp 10), none⟩, ⟨some 12, .bin 2 .mul (.tmp 8) (.tmp 11), none⟩, ⟨some 13, .iaa 3 3 (.tmp 1) (.const (.int .i64 2)), none⟩, ⟨some 14, .iaa 3 1 (.tmp 13) (.const (.int .i64 1)), none⟩, ⟨some 15, .ld 2 1 false (.tmp 14), none⟩, ⟨some 16, .iaa 3 3 (.tmp 1) (.const (.int .i64 1)), none⟩, ⟨some 17, .iaa 3 1 (.tmp 16) (.const (.int .i64 2)), none⟩, ⟨some 18, .ld 2 1 false (.tmp 17), none⟩, ⟨some 19, .bin 2 .mul (.tmp 15) (.tmp 18), none⟩, ⟨some 20, .bin 2 .sub (.tmp 12) (.tmp 19), none⟩, ⟨some 21, .bin 2 .mul (.tmp 5) (.tmp 20), none⟩, ⟨some 22, .iaa 3 3 (.tmp 1) (.const (.int .i64 0)), none⟩, ⟨some 23, .iaa 3 1 (.tmp 22) (.const (.int .i64 1)), none⟩, ⟨some 24, .ld 2 1 false (.tmp 23), none⟩, ⟨some 25, .iaa 3 3 (.tmp 1) (.const (.int .i64 1)), none⟩, ⟨some 26, .iaa 3 1 (.tmp 25) (.const (.int .i64 0)), none⟩, ⟨some 27, .ld 2 1 false (.tmp 26), none⟩, ⟨some 28, .iaa 3 3 (.tmp 1) (.const (.int .i64 2)), none⟩, ⟨some 29, .iaa 3 1 (.tmp 28) (.const (.int .i64 2)), none⟩, ⟨some 30, .ld 2 1 false (.tmp 29), none⟩, ⟨some 31, .bin 2 .mul (.tmp 27) (.tmp 30), none⟩, ⟨some 32, .iaa 3 3 (.tmp 1) (.const (.int .i64 2)), none⟩, ⟨some 33, .iaa 3 1 (.tmp 32) (.const (.int .i64 0)), none⟩, ⟨some 34, .ld 2 1 false (.tmp 33), none⟩, ⟨some 35, .iaa 3 3 (.tmp 1) (.const (.int .i64 1)), none⟩, ⟨some 36, .iaa 3 1 (.tmp 35) (.const (.int .i64 2)), none⟩, ⟨some 37, .ld 2 1 false (.tmp 36), none⟩, ⟨some 38, .bin 2 .mul (.tmp 34) (.tmp 37), none⟩, ⟨some 39, .bin 2 .sub (.tmp 31) (.tmp 38), none⟩, ⟨some 40, .bin 2 .mul (.tmp 24) (.tmp 39), none⟩, ⟨some 41, .bin 2 .sub (.tmp 21) (.tmp 40), none⟩, ⟨some 42, .iaa 3 3 (.tmp 1) (.const (.int .i64 0)), none⟩, ⟨some 43, .iaa 3 1 (.tmp 42) (.const (.int .i64 2)), none⟩, ⟨some 44, .ld 2 1 false (.tmp 43), none⟩, ⟨some 45, .iaa 3 3 (.tmp 1) (.const (.int .i64 1)), none⟩, ⟨some 46, .iaa 3 1 (.tmp 45) (.const (.int .i64 0)), none⟩, ⟨some 47, .ld 2 1 false (.tmp 46), none⟩, ⟨some 48, .iaa 3 3 (.tmp 1) (.const (.int .i64 2)), none⟩, ⟨some 49, .iaa 3 1 (.tmp 48) (.const (.int .i64 1)), none⟩, ⟨some 50, .ld 2 1 false (.tmp 49), none⟩, ⟨some 51, .bin 2 .mul (.tmp 47) (.tmp 50), none⟩, ⟨some 52, .iaa 3 3 (.tmp 1) (.const (.int .i64 2)), none⟩, ⟨some 53, .iaa 3 1 (.tmp 52) (.const (.int .i64 0)), none⟩, ⟨some 54, .ld 2 1 false (.tmp 53), none⟩, ⟨some 55, .iaa 3 3 (.tmp 1) (.const (.int .i64 1)), none⟩, ⟨some 56, .iaa 3 1 (.tmp 55) (.const (.int .i64 1)), none⟩, ⟨some 57, .ld 2 1 false (.tmp 56), none⟩, ⟨some 58, .bin 2 .mul (.tmp 54) (.tmp 57), none⟩, ⟨some 59, .bin 2 .sub (.tmp 51) (.tmp 58), none⟩, ⟨some 60, .bin 2 .mul (.tmp 44) (.tmp 59), none⟩, ⟨some 61, .bin 2 .add (.tmp 41) (.tmp 60), none⟩, ⟨some 2, .mv (.tmp 61), none⟩]
def Xn67_2 : C := .seq Xn67_3 .ret
def Xn67_0 : C := .seq Xn67_1 Xn67_2
theorem Xt67 : Text Try.prog 67 Xn67_0 62 1 [.t 2] := ⟨⟨Try.f67, [1], Try.func67, by kernel_rfl, by kernel_rfl, by kernel_rfl, by kernel_rfl⟩⟩
def Xn68_1 : C := regL [1] none [⟨some 1, .box true 30 (.tmp 0), none⟩, ⟨some 2, .mv (.const (.bool false)), none⟩]
def Xn68_3 : C := regL [2] none [⟨some 3, .sla 30 3 1 (.tmp 1), none⟩, ⟨some 4, .call 99 [.tmp 3, .func 100], none⟩, ⟨some 5, .un .not (.tmp 4), none⟩, ⟨some 2, .mv (.tmp 5), none⟩]
def Xn68_2 : C := .seq Xn68_3 .ret
def Xn68_0 : C := .seq Xn68_1 Xn68_2
theorem Xt68 : Text Try.prog 68 Xn68_0 6 1 [.t 2] := ⟨⟨Try.f68, [1], Try.func68, by kernel_rfl, by kernel_rfl, by kernel_rfl, by kernel_rfl⟩⟩
def Xn69_1 : C := regL [1] none [⟨some 1, .box true 46 (.tmp 0), none⟩, ⟨some 2, .mv (.const (.bool false)), none⟩]
def Xn69_3 : C := regL [2] none [⟨some 3, .fa 0 (.tmp 1), none⟩, ⟨some 4, .ld 2 1 false (.tmp 3), none⟩, ⟨some 5, .call 53 [.tmp 4, .const (.int .i64 (-1000)), .const (.int .i64 1000)], none⟩, ⟨some 6, .mv (.tmp 5), none⟩, ⟨some 7, .fa 1 (.tmp 1), some (6, true)⟩, ⟨some 8, .ld 2 1 false (.tmp 7), some (6, true)⟩, ⟨some 9, .call 53 [.tmp 8, .const (.int .i64 (-1000)), .const (.int .i64 1000)], some (6, true)⟩, ⟨some 10, .pick 6 (.tmp 9) (.const (.bool false)), none⟩, ⟨some 2, .mv (.tmp 10), none⟩]
def Xn69_2 : C := .seq Xn69_3 .ret
def Xn69_0 : C := .seq Xn69_1 Xn69_2
theorem Xt69 : Text Try.prog 69 Xn69_0 11 1 [.t 2] := ⟨⟨Try.f69, [1], Try.func69, by kernel_rfl, by kernel_rfl, by kernel_rfl, by kernel_rfl⟩⟩
def Xn70_1 : C := regL [0, 1] none [⟨some 4, .mv (.const (.int .i64 0)), none⟩]
def Xn70_3 : C := regL [0, 1] none [⟨some 6, .mv (.tmp 0), none⟩, ⟨some 7, .bin 2 .mul (.const (.int .i64 2)) (.tmp 6), none⟩, ⟨some 8, .mv (.tmp 1), none⟩, ⟨some 9, .bin 2 .add (.tmp 7) (.tmp 8), none⟩, ⟨some 10, .mv (.tmp 1), none⟩, ⟨some 11, .bin 2 .mul (.const (.int .i64 2)) (.tmp 10), none⟩, ⟨some 0, .mv (.tmp 9), none⟩, ⟨some 1, .mv (.tmp 11), none⟩]
def Xn70_5 : C := regL [0, 1, 5] none [⟨some 12, .mv (.tmp 0), none⟩, ⟨some 13, .mv (.tmp 1), none⟩, ⟨some 14, .bin 2 .quo (.tmp 12) (.tmp 13), none⟩, ⟨some 5, .mv (.tmp 14), none⟩]
def Xn70_8 : C := regL [5, 18] none [⟨some 15, .mv (.tmp 0), none⟩, ⟨some 16, .mv (.tmp 1), none⟩, ⟨some 17, .bin 2 .rem (.tmp 15) (.tmp 16), none⟩, ⟨some 18, .bin 2 .lss (.tmp 17) (.const (.int .i64 0)), none⟩]
def Xn70_10 : C := regL [5] none [⟨some 19, .mv (.tmp 5), none⟩, ⟨some 20, .bin 2 .sub (.tmp 19) (.const (.int .i64 1)), none⟩, ⟨some 5, .mv (.tmp 20), none⟩]
def Xn70_9 : C := .cond (.tmp 18) Xn70_10 .skip
def Xn70_7 : C := .seq Xn70_8 Xn70_9
def Xn70_13 : C := regL [4] none [⟨some 21, .mv (.tmp 5), none⟩, ⟨some 4, .mv (.tmp 21), none⟩]
def Xn70_12 : C := .seq Xn70_13 .ret
def Xn70_6 : C := seqL [5] Xn70_7 Xn70_12
def Xn70_4 : C := .seq Xn70_5 Xn70_6
def Xn70_2 : C := .seq Xn70_3 Xn70_4
def Xn70_0 : C := .seq Xn70_1 Xn70_2
theorem Xt70 : Text Try.prog 70 Xn70_0 22 2 [.t 4] := ⟨⟨Try.f70, [], Try.func70, by kernel_rfl, by kernel_rfl, by kernel_rfl, by kernel_rfl⟩⟩
def Xn71_1 : C := regL [1] none [⟨some 1, .box true 30 (.tmp 0), none⟩, ⟨some 2, .mv (.const (.int .i64 0)), none⟩]
def Xn71_4 : C := regL [1, 3] none [⟨some 3, .mv (.const (.int .i64 0)), none⟩]
def Xn71_9 : C := regL [1, 3, 5] none [⟨some 4, .mv (.tmp 3), none⟩, ⟨some 5, .bin 3 .lss (.tmp 4) (.const (.int .i64 3)), none⟩]
def Xn71_10 : C := .cond (.tmp 5) .skip (.exit 0)
def Xn71_8 : C := .seq Xn71_9 Xn71_10
def Xn71_16 : C := regL [1, 3, 12] none [⟨some 8, .mv (.tmp 3), none⟩, ⟨some 9, .iaa 3 1 (.tmp 1) (.tmp 8), none⟩, ⟨some 10, .ld 2 1 false (.tmp 9), none⟩, ⟨some 11, .call 74 [.tmp 10, .const (.int .i64 (-131072)), .const (.int .i64 131072)], none⟩, ⟨some 12, .un .not (.tmp 11), none⟩]
def Xn71_19 : C := regL [2] none [⟨some 2, .mv (.const (.int .i64 3)), none⟩]
def Xn71_18 : C := .seq Xn71_19 .ret
def Xn71_17 : C := .cond (.tmp 12) Xn71_18 .skip
def Xn71_15 : C := .seq Xn71_16 Xn71_17
def Xn71_14 : C := .block 1 Xn71_15
def Xn71_22 : C := regL [1, 3] none [⟨some 6, .mv (.tmp 3), none⟩, ⟨some 7, .bin 3 .add (.tmp 6) (.const (.int .i64 1)), none⟩, ⟨some 3, .mv (.tmp 7), none⟩]
def Xn71_13 : C := seqL [1, 3] Xn71_14 Xn71_22
def Xn71_7 : C := seqL [1, 3] Xn71_8 Xn71_13
def Xn71_6 : C := loopL [1, 3] Xn71_7
def Xn71_5 : C := .block 0 Xn71_6
def Xn71_3 : C := .seq Xn71_4 Xn71_5
def Xn71_24 : C := regL [2] none [⟨some 2, .mv (.const (.int .i64 0)), none⟩]
def Xn71_23 : C := .seq Xn71_24 .ret
def Xn71_2 : C := seqL [] Xn71_3 Xn71_23
def Xn71_0 : C := .seq Xn71_1 Xn71_2
theorem Xt71 : Text Try.prog 71 Xn71_0 13 1 [.t 2] := ⟨⟨Try.f71, [1], Try.func71, by kernel_rfl, by kernel_rfl, by kernel_rfl, by kernel_rfl⟩⟩
def Xn72_1 : C := regL [1] none [⟨some 1, .box true 46 (.tmp 0), none⟩, ⟨some 2, .mv (.const (.int .i64 0)), none⟩]
def Xn72_4 : C := regL [12] none [⟨some 3, .fa 0 (.tmp 1), none⟩, ⟨some 4, .ld 2 1 false (.tmp 3), none⟩, ⟨some 5, .call 74 [.tmp 4, .const (.int .i64 (-1000)), .const (.int .i64 1000)], none⟩, ⟨some 6, .un .not (.tmp 5), none⟩, ⟨some 7, .mv (.tmp 6), none⟩, ⟨some 8, .fa 1 (.tmp 1), some (7, false)⟩, ⟨some 9, .ld 2 1 false (.tmp 8), some (7, false)⟩, ⟨some 10, .call 74 [.tmp 9, .const (.int .i64 (-1000)), .const (.int .i64 1000)], some (7, false)⟩, ⟨some 11, .un .not (.tmp 10), some (7, false)⟩, ⟨some 12, .pick 7 (.const (.bool true)) (.tmp 11), none⟩]
def Xn72_7 : C := regL [2] none [⟨some 2, .mv (.const (.int .i64 3)), none⟩]
def Xn72_6 : C := .seq Xn72_7 .ret
def Xn72_5 : C := .cond (.tmp 12) Xn72_6 .skip
def Xn72_3 : C := .seq Xn72_4 Xn72_5
def Xn72_11 : C := regL [2] none [⟨some 2, .mv (.const (.int .i64 0)), none⟩]
def Xn72_10 : C := .seq Xn72_11 .ret
def Xn72_2 : C := seqL [] Xn72_3 Xn72_10
def Xn72_0 : C := .seq Xn72_1 Xn72_2
theorem Xt72 : Text Try.prog 72 Xn72_0 13 1 [.t 2] := ⟨⟨Try.f72, [1], Try.func72, by kernel_rfl, by kernel_rfl, by kernel_rfl, by kernel_rfl⟩⟩
def Xn73_1 : C := regL [0, 1] none [⟨some 4, .mv (.const (.int .i64 0)), none⟩]
def Xn73_3 : C := regL [4] none [⟨some 5, .mv (.tmp 0), none⟩, ⟨some 6, .bin 2 .mul (.const (.int .i64 2)) (.tmp 5), none⟩, ⟨some 7, .mv (.tmp 1), none⟩, ⟨some 8, .bin 2 .add (.tmp 6) (.tmp 7), none⟩, ⟨some 9, .mv (.tmp 1), none⟩, ⟨some 10, .bin 2 .mul (.const (.int .i64 2)) (.tmp 9), none⟩, ⟨some 11, .call 101 [.tmp 8, .tmp 10], none⟩, ⟨some 4, .mv (.tmp 11), none⟩]
def Xn73_2 : C := .seq Xn73_3 .ret
def Xn73_0 : C := .seq Xn73_1 Xn73_2
theorem Xt73 : Text Try.prog 73 Xn73_0 12 2 [.t 4] := ⟨⟨Try.f73, [], Try.func73, by kernel_rfl, by kernel_rfl, by kernel_rfl, by kernel_rfl⟩⟩
def Xn74_1 : C := regL [0, 1, 2] none [⟨some 6, .mv (.const (.bool false)), none⟩]
def Xn74_3 : C := regL [6] none [⟨some 7, .mv (.tmp 0), none⟩, ⟨some 8, .mv (.tmp 1), none⟩, ⟨some 9, .bin 2 .geq (.tmp 7) (.tmp 8), none⟩, ⟨some 10, .mv (.tmp 9), none⟩, ⟨some 11, .mv (.tmp 0), some (10, true)⟩, ⟨some 12, .mv (.tmp 2), some (10, true)⟩, ⟨some 13, .bin 2 .leq (.tmp 11) (.tmp 12), some (10, true)⟩, ⟨some 14, .pick 10 (.tmp 13) (.const (.bool false)), none⟩, ⟨some 6, .mv (.tmp 14), none⟩]
def Xn74_2 : C := .seq Xn74_3 .ret
def Xn74_0 : C := .seq Xn74_1 Xn74_2
theorem Xt74 : Text Try.prog 74 Xn74_0 15 3 [.t 6] := ⟨⟨Try.f74, [], Try.func74, by kernel_rfl, by kernel_rfl, by kernel_rfl, by kernel_rfl⟩⟩
def Xn75_1 : C := regL [0] none [⟨some 2, .mv (.const (.int .i64 0)), none⟩]
def Xn75_4 : C := regL [5] none [⟨some 3, .mv (.tmp 0), none⟩, ⟨some 4, .call 74 [.tmp 3, .const (.int .i64 1), .const (.int .i64 16777216)], none⟩, ⟨some 5, .un .not (.tmp 4), none⟩]
def Xn75_7 : C := regL [2] none [⟨some 2, .mv (.const (.int .i64 3)), none⟩]
def Xn75_6 : C := .seq Xn75_7 .ret
def Xn75_5 : C := .cond (.tmp 5) Xn75_6 .skip
def Xn75_3 : C := .seq Xn75_4 Xn75_5
def Xn75_11 : C := regL [2] none [⟨some 2, .mv (.const (.int .i64 0)), none⟩]
def Xn75_10 : C := .seq Xn75_11 .ret
def Xn75_2 : C := seqL [] Xn75_3 Xn75_10
def Xn75_0 : C := .seq Xn75_1 Xn75_2
theorem Xt75 : Text Try.prog 75 Xn75_0 6 1 [.t 2] := ⟨⟨Try.f75, [], Try.func75, by kernel_rfl, by kernel_rfl, by kernel_rfl, by kernel_rfl⟩⟩
def Xn81_1 : C := regL [0, 1, 2] none [⟨some 6, .mv (.const (.int .i64 0)), none⟩]
def Xn81_3 : C := regL [6] none [⟨some 7, .mv (.tmp 0), none⟩, ⟨some 8, .mv (.tmp 1), none⟩, ⟨some 9, .un .neg (.tmp 8), none⟩, ⟨some 10, .mv (.tmp 2), none⟩, ⟨some 11, .call 102 [.tmp 7, .tmp 9, .tmp 10], none⟩, ⟨some 12, .un .neg (.tmp 11), none⟩, ⟨some 6, .mv (.tmp 12), none⟩]
def Xn81_2 : C := .seq Xn81_3 .ret
def Xn81_0 : C := .seq Xn81_1 Xn81_2
theorem Xt81 : Text Try.prog 81 Xn81_0 13 3 [.t 6] := ⟨⟨Try.f81, [], Try.func81, by kernel_rfl, by kernel_rfl, by kernel_rfl, by kernel_rfl⟩⟩
def Xn86_1 : C := regL [1, 2] none [⟨some 1, .box true 74 (.tmp 0), none⟩, ⟨some 2, .alc 30 (.agg #[.int .i64 0, .int .i64 0, .int .i64 0]), none⟩, ⟨some 3, .mv (.const (.int .i64 0)), none⟩]
def Xn86_4 : C := regL [1, 2, 4] none [⟨some 8, .ld 74 4 true (.tmp 1), none⟩, ⟨some 9, .call 111 [.tmp 8], none⟩, ⟨some 4, .mv (.tmp 9), none⟩]
def Xn86_6 : C := regL [1, 2, 4, 11] none [⟨some 10, .mv (.tmp 4), none⟩, ⟨some 11, .bin 22 .neq (.tmp 10) (.const (.int .i64 0)), none⟩]
def Xn86_9 : C := regL [2, 3] none [⟨some 12, .ld 30 3 true (.tmp 2), none⟩, ⟨some 13, .mv (.tmp 4), none⟩, ⟨none, .st 30 3 (.tmp 2) (.tmp 12), none⟩, ⟨some 3, .mv (.tmp 13), none⟩]
def Xn86_8 : C := .seq Xn86_9 .ret
def Xn86_7 : C := .cond (.tmp 11) Xn86_8 .skip
def Xn86_5 : C := .seq Xn86_6 Xn86_7
def Xn86_3 : C := .seq Xn86_4 Xn86_5
def Xn86_13 : C := regL [2, 5] none [⟨some 14, .fa 1 (.tmp 1), none⟩, ⟨some 15, .ld 71 1 false (.tmp 14), none⟩, ⟨some 16, .call 112 [.tmp 15], none⟩, ⟨some 5, .alc 145 (.agg #[.int .i64 0, .int .i64 0, .int .i64 0, .int .i64 0]), none⟩, ⟨none, .st 145 4 (.tmp 5) (.tmp 16), none⟩]
def Xn86_16 : C := regL [2, 5, 18, 19] none [⟨some 17, .fa 1 (.tmp 5), none⟩, ⟨some 18, .ld 30 3 true (.tmp 17), none⟩, ⟨some 19, .mv (.const (.int .i64 0)), none⟩]
def Xn86_20 : C := regL [2, 5, 18, 19, 20] none [⟨some 20, .bin 3 .lss (.tmp 19) (.const (.int .i64 3)), none⟩]
def Xn86_22 : C := .cond (.tmp 20) .skip (.exit 0)
def Xn86_28 : C := regL [2, 5, 6, 7, 18, 19] none [⟨some 21, .mv (.tmp 19), none⟩, ⟨some 22, .idx 3 1 false (.tmp 18) (.tmp 19), none⟩, ⟨some 6, .mv (.tmp 21), none⟩, ⟨some 7, .mv (.tmp 22), none⟩]
def Xn86_29 : C := regL [2, 5, 18, 19] none [⟨some 23, .mv (.tmp 6), none⟩, ⟨some 24, .mv (.tmp 7), none⟩, ⟨some 25, .fa 0 (.tmp 5), none⟩, ⟨some 26, .ld 2 1 false (.tmp 25), none⟩, ⟨some 27, .bin 2 .add (.tmp 24) (.tmp 26), none⟩, ⟨some 28, .fa 0 (.tmp 5), none⟩, ⟨some 29, .ld 2 1 false (.tmp 28), none⟩, ⟨some 30, .bin 2 .mul (.const (.int .i64 2)) (.tmp 29), none⟩, ⟨some 31, .call 113 [.tmp 27, .tmp 30], none⟩, ⟨some 32, .iaa 3 1 (.tmp 2) (.tmp 23), none⟩, ⟨none, .st 2 1 (.tmp 32) (.tmp 31), none⟩]
def Xn86_27 : C := .seq Xn86_28 Xn86_29
def Xn86_26 : C := .block 1 Xn86_27
def Xn86_30 : C := regL [2, 5, 18, 19] none [⟨some 33, .bin 3 .add (.tmp 19) (.const (.int .i64 1)), none⟩, ⟨some 19, .mv (.tmp 33), none⟩]
def Xn86_25 : C := seqL [2, 5, 18, 19] Xn86_26 Xn86_30
def Xn86_21 : C := seqL [2, 5, 18, 19] Xn86_22 Xn86_25
def Xn86_19 : C := .seq Xn86_20 Xn86_21
def Xn86_18 : C := loopL [2, 5, 18, 19] Xn86_19
def Xn86_17 : C := .block 0 Xn86_18
def Xn86_15 : C := .seq Xn86_16 Xn86_17
def Xn86_32 : C := regL [2, 3] none [⟨some 34, .ld 30 3 true (.tmp 2), none⟩, ⟨none, .st 30 3 (.tmp 2) (.tmp 34), none⟩, ⟨some 3, .mv (.const (.int .i64 0)), none⟩]
def Xn86_31 : C := .seq Xn86_32 .ret
def Xn86_14 : C := seqL [2] Xn86_15 Xn86_31
def Xn86_12 : C := .seq Xn86_13 Xn86_14
def Xn86_2 : C := seqL [1, 2] Xn86_3 Xn86_12
def Xn86_0 : C := .seq Xn86_1 Xn86_2
theorem Xt86 : Text Try.prog 86 Xn86_0 35 1 [.c 2 3 true, .t 3] := ⟨⟨Try.f86, [1], Try.func86, by kernel_rfl, by kernel_rfl, by kernel_rfl, by kernel_rfl⟩⟩
def Xn87_1 : C := regL [1] none [⟨some 1, .box true 74 (.tmp 0), none⟩, ⟨some 2, .mv (.const (.int .i64 0)), none⟩, ⟨some 3, .mv (.const (.int .i64 0)), none⟩]
def Xn87_4 : C := regL [1, 4] none [⟨some 5, .ld 74 4 true (.tmp 1), none⟩, ⟨some 6, .call 111 [.tmp 5], none⟩, ⟨some 4, .mv (.tmp 6), none⟩]
def Xn87_6 : C := regL [1, 4, 8] none [⟨some 7, .mv (.tmp 4), none⟩, ⟨some 8, .bin 22 .neq (.tmp 7) (.const (.int .i64 0)), none⟩]
def Xn87_9 : C := regL [2, 3] none [⟨some 9, .mv (.tmp 4), none⟩, ⟨some 2, .mv (.const (.int .i64 0)), none⟩, ⟨some 3, .mv (.tmp 9), none⟩]
def Xn87_8 : C := .seq Xn87_9 .ret
def Xn87_7 : C := .cond (.tmp 8) Xn87_8 .skip
def Xn87_5 : C := .seq Xn87_6 Xn87_7
def Xn87_3 : C := .seq Xn87_4 Xn87_5
def Xn87_13 : C := regL [2, 3] none [⟨some 10, .fa 1 (.tmp 1), none⟩, ⟨some 11, .ld 71 1 false (.tmp 10), none⟩, ⟨some 12, .call 112 [.tmp 11], none⟩, ⟨some 13, .fl 0 1 false (.tmp 12), none⟩, ⟨some 2, .mv (.tmp 13), none⟩, ⟨some 3, .mv (.const (.int .i64 0)), none⟩]
def Xn87_12 : C := .seq Xn87_13 .ret
def Xn87_2 : C := seqL [1] Xn87_3 Xn87_12
def Xn87_0 : C := .seq Xn87_1 Xn87_2
theorem Xt87 : Text Try.prog 87 Xn87_0 14 1 [.t 2, .t 3] := ⟨⟨Try.f87, [1], Try.func87, by kernel_rfl, by kernel_rfl, by kernel_rfl, by kernel_rfl⟩⟩
def Xn88_1 : C := regL [1, 2] none [⟨some 1, .box true 74 (.tmp 0), none⟩, ⟨some 2, .alc 30 (.agg #[.int .i64 0, .int .i64 0, .int .i64 0]), none⟩, ⟨some 3, .mv (.const (.int .i64 0)), none⟩]
def Xn88_4 : C := regL [1, 2, 10] none [⟨some 8, .ld 74 4 true (.tmp 1), none⟩, ⟨some 9, .call 114 [.tmp 8], none⟩, ⟨some 10, .bin 22 .neq (.tmp 9) (.const (.int .i64 0)), none⟩]
def Xn88_7 : C := regL [2, 3] none [⟨some 11, .bld (.agg #[.int .i64 0, .int .i64 0, .int .i64 0]) [], none⟩, ⟨some 12, .ld 74 4 true (.tmp 1), none⟩, ⟨some 13, .call 114 [.tmp 12], none⟩, ⟨none, .st 30 3 (.tmp 2) (.tmp 11), none⟩, ⟨some 3, .mv (.tmp 13), none⟩]
def Xn88_6 : C := .seq Xn88_7 .ret
def Xn88_5 : C := .cond (.tmp 10) Xn88_6 .skip
def Xn88_3 : C := .seq Xn88_4 Xn88_5
def Xn88_11 : C := regL [2, 4, 5] (some [0, 1, 3, 0, 8, 31, 0, 127, 255]) [⟨some 14, .fa 1 (.tmp 1), none⟩, ⟨some 15, .ld 71 1 false (.tmp 14), none⟩, ⟨some 16, .call 115 [.tmp 15], none⟩, ⟨some 17, .fa 1 (.tmp 1), none⟩, ⟨some 18, .ld 71 1 false (.tmp 17), none⟩, ⟨some 19, .call 116 [.tmp 18], none⟩, ⟨some 4, .alc 30 (.agg #[.int .i64 0, .int .i64 0, .int .i64 0]), none⟩, ⟨none, .st 30 3 (.tmp 4) (.tmp 16), none⟩, ⟨some 5, .mv (.tmp 19), none⟩]
def Xn88_13 : C := regL [2, 4, 5, 6] none [⟨some 6, .alc 30 (.agg #[.int .i64 0, .int .i64 0, .int .i64 0]), none⟩]
def Xn88_16 : C := regL [2, 4, 5, 6, 7] none [⟨some 7, .mv (.const (.int .i64 0)), none⟩]
def Xn88_21 : C := regL [2, 4, 5, 6, 7, 21] none [⟨some 20, .mv (.tmp 7), none⟩, ⟨some 21, .bin 3 .lss (.tmp 20) (.const (.int .i64 3)), none⟩]
def Xn88_22 : C := .cond (.tmp 21) .skip (.exit 0)
def Xn88_20 : C := .seq Xn88_21 Xn88_22
def Xn88_27 : C := regL [2, 4, 5, 6, 7] none [⟨some 24, .mv (.tmp 7), none⟩, ⟨some 25, .mv (.tmp 7), none⟩, ⟨some 26, .iaa 3 1 (.tmp 4) (.tmp 25), none⟩, ⟨some 27, .ld 2 1 false (.tmp 26), none⟩, ⟨some 28, .mv (.tmp 5), none⟩, ⟨some 29, .bin 2 .add (.tmp 27) (.tmp 28), none⟩, ⟨some 30, .mv (.tmp 5), none⟩, ⟨some 31, .bin 2 .mul (.const (.int .i64 2)) (.tmp 30), none⟩, ⟨some 32, .call 101 [.tmp 29, .tmp 31], none⟩, ⟨some 33, .iaa 3 1 (.tmp 6) (.tmp 24), none⟩, ⟨none, .st 2 1 (.tmp 33) (.tmp 32), none⟩]
def Xn88_26 : C := .block 1 Xn88_27
def Xn88_28 : C := regL [2, 4, 5, 6, 7] none [⟨some 22, .mv (.tmp 7), none⟩, ⟨some 23, .bin 3 .add (.tmp 22) (.const (.int .i64 1)), none⟩, ⟨some 7, .mv (.tmp 23), none⟩]
def Xn88_25 : C := seqL [2, 4, 5, 6, 7] Xn88_26 Xn88_28
def Xn88_19 : C := seqL [2, 4, 5, 6, 7] Xn88_20 Xn88_25
def Xn88_18 : C := loopL [2, 4, 5, 6, 7] Xn88_19
def Xn88_17 : C := .block 0 Xn88_18
def Xn88_15 : C := .seq Xn88_16 Xn88_17
def Xn88_30 : C := regL [2, 3] none [⟨some 34, .ld 30 3 true (.tmp 6), none⟩, ⟨none, .st 30 3 (.tmp 2) (.tmp 34), none⟩, ⟨some 3, .mv (.const (.int .i64 0)), none⟩]
def Xn88_29 : C := .seq Xn88_30 .ret
def Xn88_14 : C := seqL [2, 6] Xn88_15 Xn88_29
def Xn88_12 : C := .seq Xn88_13 Xn88_14
def Xn88_10 : C := .seq Xn88_11 Xn88_12
def Xn88_2 : C := seqL [1, 2] Xn88_3 Xn88_10
def Xn88_0 : C := .seq Xn88_1 Xn88_2
theorem Xt88 : Text Try.prog 88 Xn88_0 35 1 [.c 2 3 true, .t 3] := ⟨⟨Try.f88, [1], Try.func88, by kernel_rfl, by kernel_rfl, by kernel_rfl, by kernel_rfl⟩⟩
def Xn89_1 : C := regL [1] none [⟨some 1, .box true 74 (.tmp 0), none⟩, ⟨some 2, .mv (.const (.int .i64 0)), none⟩, ⟨some 3, .mv (.const (.int .i64 0)), none⟩]
def Xn89_4 : C := regL [1, 6] none [⟨some 4, .ld 74 4 true (.tmp 1), none⟩, ⟨some 5, .call 114 [.tmp 4], none⟩, ⟨some 6, .bin 22 .neq (.tmp 5) (.const (.int .i64 0)), none⟩]
def Xn89_7 : C := regL [2, 3] none [⟨some 7, .ld 74 4 true (.tmp 1), none⟩, ⟨some 8, .call 114 [.tmp 7], none⟩, ⟨some 2, .mv (.const (.int .i64 0)), none⟩, ⟨some 3, .mv (.tmp 8), none⟩]
def Xn89_6 : C := .seq Xn89_7 .ret
def Xn89_5 : C := .cond (.tmp 6) Xn89_6 .skip
def Xn89_3 : C := .seq Xn89_4 Xn89_5
def Xn89_11 : C := regL [2, 3] none [⟨some 9, .fa 1 (.tmp 1), none⟩, ⟨some 10, .ld 71 1 false (.tmp 9), none⟩, ⟨some 11, .call 116 [.tmp 10], none⟩, ⟨some 2, .mv (.tmp 11), none⟩, ⟨some 3, .mv (.const (.int .i64 0)), none⟩]
def Xn89_10 : C := .seq Xn89_11 .ret
def Xn89_2 : C := seqL [1] Xn89_3 Xn89_10
def Xn89_0 : C := .seq Xn89_1 Xn89_2
theorem Xt89 : Text Try.prog 89 Xn89_0 12 1 [.t 2, .t 3] := ⟨⟨Try.f89, [1], Try.func89, by kernel_rfl, by kernel_rfl, by kernel_rfl, by kernel_rfl⟩⟩
def Xn94_1 : C := regL [1] none [⟨some 1, .box true 89 (.tmp 0), none⟩, ⟨some 2, .mv (.const (.int .i64 0)), none⟩]
def Xn94_3 : C := regL [3, 4, 5] none [⟨some 7, .ld 89 3 true (.tmp 1), none⟩, ⟨some 8, .call 123 [.tmp 7], none⟩, ⟨some 6, .mv (.tmp 8), none⟩, ⟨some 9, .ext 0 (.tmp 6), none⟩, ⟨some 10, .ext 1 (.tmp 6), none⟩, ⟨some 11, .ext 2 (.tmp 6), none⟩, ⟨some 3, .mv (.tmp 9), none⟩, ⟨some 4, .mv (.tmp 10), none⟩, ⟨some 5, .mv (.tmp 11), none⟩]
def Xn94_6 : C := regL [3, 4, 13] none [⟨some 12, .mv (.tmp 5), none⟩, ⟨some 13, .un .not (.tmp 12), none⟩]
def Xn94_9 : C := regL [2] none [⟨some 14, .mv (.tmp 3), none⟩, ⟨some 2, .mv (.tmp 14), none⟩]
def Xn94_8 : C := .seq Xn94_9 .ret
def Xn94_7 : C := .cond (.tmp 13) Xn94_8 .skip
def Xn94_5 : C := .seq Xn94_6 Xn94_7
def Xn94_14 : C := regL [3, 15] none [⟨some 15, .mv (.tmp 4), none⟩]
def Xn94_16 : C := regL [3] none [⟨some 16, .mv (.tmp 3), none⟩, ⟨some 17, .bin 2 .add (.tmp 16) (.const (.int .i64 1)), none⟩, ⟨some 3, .mv (.tmp 17), none⟩]
def Xn94_15 : C := .cond (.tmp 15) Xn94_16 .skip
def Xn94_13 : C := .seq Xn94_14 Xn94_15
def Xn94_19 : C := regL [2] none [⟨some 18, .mv (.tmp 3), none⟩, ⟨some 19, .un .neg (.tmp 18), none⟩, ⟨some 2, .mv (.tmp 19), none⟩]
def Xn94_18 : C := .seq Xn94_19 .ret
def Xn94_12 : C := seqL [3] Xn94_13 Xn94_18
def Xn94_4 : C := seqL [3, 4] Xn94_5 Xn94_12
def Xn94_2 : C := .seq Xn94_3 Xn94_4
def Xn94_0 : C := .seq Xn94_1 Xn94_2
theorem Xt94 : Text Try.prog 94 Xn94_0 20 1 [.t 2] := ⟨⟨Try.f94, [1], Try.func94, by kernel_rfl, by kernel_rfl, by kernel_rfl, by kernel_rfl⟩⟩
def Xn95_1 : C := regL [1] none [⟨some 1, .box true 94 (.tmp 0), none⟩, ⟨some 2, .mv (.const (.int .i64 0)), none⟩]
def Xn95_3 : C := regL [1, 3] none [⟨some 4, .mkf 124 [] [.tmp 1], none⟩, ⟨some 3, .mv (.tmp 4), none⟩]
def Xn95_5 : C := regL [2] (some [0, 1, 3, 0, 8, 31, 0, 64, 192, 0, 536, 2008, 4095, 0, 8192, 24576, 0, 67096, 255512, 524287, 1048575]) [⟨some 5, .iaa 3 3 (.tmp 1) (.const (.int .i64 0)), none⟩, ⟨some 6, .iaa 3 1 (.tmp 5) (.const (.int .i64 0)), none⟩, ⟨some 7, .ld 2 1 false (.tmp 6), none⟩, ⟨some 8, .mv (.tmp 3), none⟩, ⟨some 9, .callv (.tmp 8) [.const (.int .i64 1), .const (.int .i64 2)], none⟩, ⟨some 10, .bin 2 .mul (.tmp 7) (.tmp 9), none⟩, ⟨some 11, .iaa 3 3 (.tmp 1) (.const (.int .i64 0)), none⟩, ⟨some 12, .iaa 3 1 (.tmp 11) (.const (.int .i64 1)), none⟩, ⟨some 13, .ld 2 1 false (.tmp 12), none⟩, ⟨some 14, .mv (.tmp 3), none⟩, ⟨some 15, .callv (.tmp 14) [.const (.int .i64 0), .const (.int .i64 2)], none⟩, ⟨some 16, .bin 2 .mul (.tmp 13) (.tmp 15), none⟩, ⟨some 17, .bin 2 .sub (.tmp 10) (.tmp 16), none⟩, ⟨some 18, .iaa 3 3 (.tmp 1) (.const (.int .i64 0)), none⟩, ⟨some 19, .iaa 3 1 (.tmp 18) (.const (.int .i64 2)), none⟩, ⟨some 20, .ld 2 1 false (.tmp 19), none⟩, ⟨some 21, .mv (.tmp 3), none⟩, ⟨some 22, .callv (.tmp 21) [.const (.int .i64 0), .const (.int .i64 1)], none⟩, ⟨some 23, .bin 2 .mul (.tmp 20) (.tmp 22), none⟩, ⟨some 24, .bin 2 .add (.tmp 17) (.tmp 23), none⟩, ⟨some 2, .mv (.tmp 24), none⟩]
def Xn95_4 : C := .seq Xn95_5 .ret
def Xn95_2 : C := .seq Xn95_3 Xn95_4
def Xn95_0 : C := .seq Xn95_1 Xn95_2
theorem Xt95 : Text Try.prog 95 Xn95_0 25 1 [.t 2] := ⟨⟨Try.f95, [1], Try.func95, by kernel_rfl, by kernel_rfl, by kernel_rfl, by kernel_rfl⟩⟩
def Xn96_1 : C := regL [0, 1] none [⟨some 4, .mv (.const (.int .i64 0)), none⟩]
def Xn96_4 : C := regL [0, 1, 7, 8] none [⟨some 6, .mv (.tmp 0), none⟩, ⟨some 7, .len (.tmp 6), none⟩, ⟨some 8, .mv (.const (.int .i64 0)), none⟩]
def Xn96_8 : C := regL [0, 1, 7, 8, 9] none [⟨some 9, .bin 3 .lss (.tmp 8) (.tmp 7), none⟩]
def Xn96_10 : C := .cond (.tmp 9) .skip (.exit 0)
def Xn96_16 : C := regL [0, 1, 5, 7, 8] none [⟨some 10, .mv (.tmp 8), none⟩, ⟨some 5, .mv (.tmp 10), none⟩]
def Xn96_18 : C := regL [0, 1, 5, 7, 8, 16] none [⟨some 11, .mv (.tmp 1), none⟩, ⟨some 12, .mv (.tmp 0), none⟩, ⟨some 13, .mv (.tmp 5), none⟩, ⟨some 14, .ia 1 (.tmp 12) (.tmp 13), none⟩, ⟨some 15, .ld 2 1 false (.tmp 14), none⟩, ⟨some 16, .callv (.tmp 11) [.tmp 15], none⟩]
def Xn96_21 : C := regL [4] none [⟨some 17, .mv (.tmp 5), none⟩, ⟨some 4, .mv (.tmp 17), none⟩]
def Xn96_20 : C := .seq Xn96_21 .ret
def Xn96_19 : C := .cond (.tmp 16) Xn96_20 .skip
def Xn96_17 : C := .seq Xn96_18 Xn96_19
def Xn96_15 : C := .seq Xn96_16 Xn96_17
def Xn96_14 : C := .block 1 Xn96_15
def Xn96_24 : C := regL [0, 1, 7, 8] none [⟨some 18, .bin 3 .add (.tmp 8) (.const (.int .i64 1)), none⟩, ⟨some 8, .mv (.tmp 18), none⟩]
def Xn96_13 : C := seqL [0, 1, 7, 8] Xn96_14 Xn96_24
def Xn96_9 : C := seqL [0, 1, 7, 8] Xn96_10 Xn96_13
def Xn96_7 : C := .seq Xn96_8 Xn96_9
def Xn96_6 : C := loopL [0, 1, 7, 8] Xn96_7
def Xn96_5 : C := .block 0 Xn96_6
def Xn96_3 : C := .seq Xn96_4 Xn96_5
def Xn96_26 : C := regL [4] none [⟨some 4, .mv (.const (.int .i64 (-1))), none⟩]
def Xn96_25 : C := .seq Xn96_26 .ret
def Xn96_2 : C := seqL [] Xn96_3 Xn96_25
def Xn96_0 : C := .seq Xn96_1 Xn96_2
theorem Xt96 : Text Try.prog 96 Xn96_0 19 2 [.t 4] := ⟨⟨Try.f96, [], Try.func96, by kernel_rfl, by kernel_rfl, by kernel_rfl, by kernel_rfl⟩⟩
def Xn97_1 : C := regL [0] none [⟨some 2, .mv (.const (.bool false)), none⟩]
def Xn97_3 : C := regL [2] none [⟨some 3, .mv (.tmp 0), none⟩, ⟨some 4, .bin 2 .lss (.tmp 3) (.const (.int .i64 0)), none⟩, ⟨some 2, .mv (.tmp 4), none⟩]
def Xn97_2 : C := .seq Xn97_3 .ret
def Xn97_0 : C := .seq Xn97_1 Xn97_2
theorem Xt97 : Text Try.prog 97 Xn97_0 5 1 [.t 2] := ⟨⟨Try.f97, [], Try.func97, by kernel_rfl, by kernel_rfl, by kernel_rfl, by kernel_rfl⟩⟩
def Xn98_1 : C := regL [0, 1, 5, 6] none [⟨some 5, .box true 29 (.tmp 2), none⟩, ⟨some 6, .alc 30 (.agg #[.int .i64 0, .int .i64 0, .int .i64 0]), none⟩]
def Xn98_3 : C := regL [1, 6, 7, 8] none [⟨some 12, .mv (.tmp 0), none⟩, ⟨some 13, .ld 29 2 true (.tmp 5), none⟩, ⟨some 14, .call 63 [.tmp 12, .tmp 13], none⟩, ⟨some 11, .mv (.tmp 14), none⟩, ⟨some 15, .ext 0 (.tmp 11), none⟩, ⟨some 16, .ext 1 (.tmp 11), none⟩, ⟨some 7, .alc 30 (.agg #[.int .i64 0, .int .i64 0, .int .i64 0]), none⟩, ⟨none, .st 30 3 (.tmp 7) (.tmp 15), none⟩, ⟨some 8, .mv (.tmp 16), none⟩]
def Xn98_5 : C := regL [1, 6, 7, 8, 9] none [⟨some 9, .alc 30 (.agg #[.int .i64 0, .int .i64 0, .int .i64 0]), none⟩]
def Xn98_8 : C := regL [1, 6, 7, 8, 9, 10] none [⟨some 10, .mv (.const (.int .i64 0)), none⟩]
def Xn98_13 : C := regL [1, 6, 7, 8, 9, 10, 18] none [⟨some 17, .mv (.tmp 10), none⟩, ⟨some 18, .bin 3 .lss (.tmp 17) (.const (.int .i64 3)), none⟩]
def Xn98_14 : C := .cond (.tmp 18) .skip (.exit 0)
def Xn98_12 : C := .seq Xn98_13 Xn98_14
def Xn98_19 : C := regL [1, 6, 7, 8, 9, 10] none [⟨some 21, .mv (.tmp 10), none⟩, ⟨some 22, .mv (.tmp 1), none⟩, ⟨some 23, .mv (.tmp 10), none⟩, ⟨some 24, .iaa 3 1 (.tmp 7) (.tmp 23), none⟩, ⟨some 25, .ld 2 1 false (.tmp 24), none⟩, ⟨some 26, .mv (.tmp 8), none⟩, ⟨some 27, .call 81 [.tmp 22, .tmp 25, .tmp 26], none⟩, ⟨some 28, .iaa 3 1 (.tmp 9) (.tmp 21), none⟩, ⟨none, .st 2 1 (.tmp 28) (.tmp 27), none⟩]
def Xn98_18 : C := .block 1 Xn98_19
def Xn98_20 : C := regL [1, 6, 7, 8, 9, 10] none [⟨some 19, .mv (.tmp 10), none⟩, ⟨some 20, .bin 3 .add (.tmp 19) (.const (.int .i64 1)), none⟩, ⟨some 10, .mv (.tmp 20), none⟩]
def Xn98_17 : C := seqL [1, 6, 7, 8, 9, 10] Xn98_18 Xn98_20
def Xn98_11 : C := seqL [1, 6, 7, 8, 9, 10] Xn98_12 Xn98_17
def Xn98_10 : C := loopL [1, 6, 7, 8, 9, 10] Xn98_11
def Xn98_9 : C := .block 0 Xn98_10
def Xn98_7 : C := .seq Xn98_8 Xn98_9
def Xn98_22 : C := regL [6] none [⟨some 29, .ld 30 3 true (.tmp 9), none⟩, ⟨none, .st 30 3 (.tmp 6) (.tmp 29), none⟩]
def Xn98_21 : C := .seq Xn98_22 .ret
def Xn98_6 : C := seqL [6, 9] Xn98_7 Xn98_21
def Xn98_4 : C := .seq Xn98_5 Xn98_6
def Xn98_2 : C := .seq Xn98_3 Xn98_4
def Xn98_0 : C := .seq Xn98_1 Xn98_2
theorem Xt98 : Text Try.prog 98 Xn98_0 30 3 [.c 6 3 true] := ⟨⟨Try.f98, [5], Try.func98, by kernel_rfl, by kernel_rfl, by kernel_rfl, by kernel_rfl⟩⟩
def Xn99_1 : C := regL [0, 1] none [⟨some 4, .mv (.const (.bool false)), none⟩]
def Xn99_3 : C := regL [4] none [⟨some 5, .mv (.tmp 0), none⟩, ⟨some 6, .mv (.tmp 1), none⟩, ⟨some 7, .call 96 [.tmp 5, .tmp 6], none⟩, ⟨some 8, .bin 3 .geq (.tmp 7) (.const (.int .i64 0)), none⟩, ⟨some 4, .mv (.tmp 8), none⟩]
def Xn99_2 : C := .seq Xn99_3 .ret
def Xn99_0 : C := .seq Xn99_1 Xn99_2
theorem Xt99 : Text Try.prog 99 Xn99_0 9 2 [.t 4] := ⟨⟨Try.f99, [], Try.func99, by kernel_rfl, by kernel_rfl, by kernel_rfl, by kernel_rfl⟩⟩
def Xn100_1 : C := regL [0] none [⟨some 2, .mv (.const (.bool false)), none⟩]
def Xn100_3 : C := regL [2] none [⟨some 3, .mv (.tmp 0), none⟩, ⟨some 4, .call 53 [.tmp 3, .const (.int .i64 (-131072)), .const (.int .i64 131072)], none⟩, ⟨some 5, .un .not (.tmp 4), none⟩, ⟨some 2, .mv (.tmp 5), none⟩]
def Xn100_2 : C := .seq Xn100_3 .ret
def Xn100_0 : C := .seq Xn100_1 Xn100_2
theorem Xt100 : Text Try.prog 100 Xn100_0 6 1 [.t 2] := ⟨⟨Try.f100, [], Try.func100, by kernel_rfl, by kernel_rfl, by kernel_rfl, by kernel_rfl⟩⟩
def Xn101_1 : C := regL [0, 1] none [⟨some 4, .mv (.const (.int .i64 0)), none⟩]
def Xn101_3 : C := regL [0, 1, 5] none [⟨some 6, .mv (.tmp 0), none⟩, ⟨some 7, .mv (.tmp 1), none⟩, ⟨some 8, .bin 2 .quo (.tmp 6) (.tmp 7), none⟩, ⟨some 5, .mv (.tmp 8), none⟩]
def Xn101_6 : C := regL [5, 12] none [⟨some 9, .mv (.tmp 0), none⟩, ⟨some 10, .mv (.tmp 1), none⟩, ⟨some 11, .bin 2 .rem (.tmp 9) (.tmp 10), none⟩, ⟨some 12, .bin 2 .lss (.tmp 11) (.const (.int .i64 0)), none⟩]
def Xn101_8 : C := regL [5] none [⟨some 13, .mv (.tmp 5), none⟩, ⟨some 14, .bin 2 .sub (.tmp 13) (.const (.int .i64 1)), none⟩, ⟨some 5, .mv (.tmp 14), none⟩]
def Xn101_7 : C := .cond (.tmp 12) Xn101_8 .skip
def Xn101_5 : C := .seq Xn101_6 Xn101_7
def Xn101_11 : C := regL [4] none [⟨some 15, .mv (.tmp 5), none⟩, ⟨some 4, .mv (.tmp 15), none⟩]
def Xn101_10 : C := .seq Xn101_11 .ret
def Xn101_4 : C := seqL [5] Xn101_5 Xn101_10
def Xn101_2 : C := .seq Xn101_3 Xn101_4
def Xn101_0 : C := .seq Xn101_1 Xn101_2
theorem Xt101 : Text Try.prog 101 Xn101_0 16 2 [.t 4] := ⟨⟨Try.f101, [], Try.func101, by kernel_rfl, by kernel_rfl, by kernel_rfl, by kernel_rfl⟩⟩
def Xn102_1 : C := regL [0, 1, 2] none [⟨some 6, .mv (.const (.int .i64 0)), none⟩]
def Xn102_3 : C := regL [0, 1, 2, 7] none [⟨some 12, .mv (.tmp 1), none⟩, ⟨some 13, .mv (.tmp 2), none⟩, ⟨some 14, .call 101 [.tmp 12, .tmp 13], none⟩, ⟨some 7, .mv (.tmp 14), none⟩]
def Xn102_5 : C := regL [0, 2, 7, 8] none [⟨some 15, .mv (.tmp 1), none⟩, ⟨some 16, .mv (.tmp 7), none⟩, ⟨some 17, .mv (.tmp 2), none⟩, ⟨some 18, .bin 2 .mul (.tmp 16) (.tmp 17), none⟩, ⟨some 19, .bin 2 .sub (.tmp 15) (.tmp 18), none⟩, ⟨some 8, .mv (.tmp 19), none⟩]
def Xn102_7 : C := regL [0, 2, 7, 8, 9, 10] none [⟨some 9, .mv (.const (.int .i64 0)), none⟩, ⟨some 10, .mv (.const (.int .i64 0)), none⟩]
def Xn102_10 : C := regL [0, 2, 7, 8, 9, 10, 11] none [⟨some 11, .mv (.const (.int .i64 30)), none⟩]
def Xn102_15 : C := regL [0, 2, 7, 8, 9, 10, 11, 21] none [⟨some 20, .mv (.tmp 11), none⟩, ⟨some 21, .bin 3 .geq (.tmp 20) (.const (.int .i64 0)), none⟩]
def Xn102_16 : C := .cond (.tmp 21) .skip (.exit 0)
def Xn102_14 : C := .seq Xn102_15 Xn102_16
def Xn102_22 : C := regL [0, 2, 7, 8, 9, 10, 11] none [⟨some 24, .mv (.tmp 9), none⟩, ⟨some 25, .bin 2 .mul (.const (.int .i64 2)) (.tmp 24), none⟩, ⟨some 26, .mv (.tmp 10), none⟩, ⟨some 27, .bin 2 .mul (.const (.int .i64 2)) (.tmp 26), none⟩, ⟨some 9, .mv (.tmp 25), none⟩, ⟨some 10, .mv (.tmp 27), none⟩]
def Xn102_25 : C := regL [0, 2, 7, 8, 9, 10, 11, 33] none [⟨some 28, .mv (.tmp 0), none⟩, ⟨some 29, .mv (.tmp 11), none⟩, ⟨some 30, .cvt .u64 (.tmp 29), none⟩, ⟨some 31, .bin 2 .shr (.tmp 28) (.tmp 30), none⟩, ⟨some 32, .bin 2 .rem (.tmp 31) (.const (.int .i64 2)), none⟩, ⟨some 33, .bin 2 .eql (.tmp 32) (.const (.int .i64 1)), none⟩]
def Xn102_27 : C := regL [0, 2, 7, 8, 9, 10, 11] none [⟨some 34, .mv (.tmp 10), none⟩, ⟨some 35, .mv (.tmp 8), none⟩, ⟨some 36, .bin 2 .add (.tmp 34) (.tmp 35), none⟩, ⟨some 10, .mv (.tmp 36), none⟩]
def Xn102_26 : C := .cond (.tmp 33) Xn102_27 .skip
def Xn102_24 : C := .seq Xn102_25 Xn102_26
def Xn102_33 : C := regL [0, 2, 7, 8, 9, 10, 11, 39] none [⟨some 37, .mv (.tmp 10), none⟩, ⟨some 38, .mv (.tmp 2), none⟩, ⟨some 39, .bin 2 .geq (.tmp 37) (.tmp 38), none⟩]
def Xn102_34 : C := .cond (.tmp 39) .skip (.exit 2)
def Xn102_32 : C := .seq Xn102_33 Xn102_34
def Xn102_39 : C := regL [0, 2, 7, 8, 9, 10, 11] none [⟨some 40, .mv (.tmp 10), none⟩, ⟨some 41, .mv (.tmp 2), none⟩, ⟨some 42, .bin 2 .sub (.tmp 40) (.tmp 41), none⟩, ⟨some 10, .mv (.tmp 42), none⟩]
def Xn102_40 : C := regL [0, 2, 7, 8, 9, 10, 11] none [⟨some 43, .mv (.tmp 9), none⟩, ⟨some 44, .bin 2 .add (.tmp 43) (.const (.int .i64 1)), none⟩, ⟨some 9, .mv (.tmp 44), none⟩]
def Xn102_38 : C := .seq Xn102_39 Xn102_40
def Xn102_37 : C := .block 3 Xn102_38
def Xn102_31 : C := seqL [0, 2, 7, 8, 9, 10, 11] Xn102_32 Xn102_37
def Xn102_30 : C := loopL [0, 2, 7, 8, 9, 10, 11] Xn102_31
def Xn102_29 : C := .block 2 Xn102_30
def Xn102_23 : C := seqL [0, 2, 7, 8, 9, 10, 11] Xn102_24 Xn102_29
def Xn102_21 : C := .seq Xn102_22 Xn102_23
def Xn102_20 : C := .block 1 Xn102_21
def Xn102_41 : C := regL [0, 2, 7, 8, 9, 10, 11] none [⟨some 22, .mv (.tmp 11), none⟩, ⟨some 23, .bin 3 .sub (.tmp 22) (.const (.int .i64 1)), none⟩, ⟨some 11, .mv (.tmp 23), none⟩]
def Xn102_19 : C := seqL [0, 2, 7, 8, 9, 10, 11] Xn102_20 Xn102_41
def Xn102_13 : C := seqL [0, 2, 7, 8, 9, 10, 11] Xn102_14 Xn102_19
def Xn102_12 : C := loopL [0, 2, 7, 8, 9, 10, 11] Xn102_13
def Xn102_11 : C := .block 0 Xn102_12
def Xn102_9 : C := .seq Xn102_10 Xn102_11
def Xn102_43 : C := regL [6] none [⟨some 45, .mv (.tmp 7), none⟩, ⟨some 46, .mv (.tmp 0), none⟩, ⟨some 47, .bin 2 .mul (.tmp 45) (.tmp 46), none⟩, ⟨some 48, .mv (.tmp 9), none⟩, ⟨some 49, .bin 2 .add (.tmp 47) (.tmp 48), none⟩, ⟨some 6, .mv (.tmp 49), none⟩]
def Xn102_42 : C := .seq Xn102_43 .ret
def Xn102_8 : C := seqL [0, 7, 9] Xn102_9 Xn102_42
def Xn102_6 : C := .seq Xn102_7 Xn102_8
def Xn102_4 : C := .seq Xn102_5 Xn102_6
def Xn102_2 : C := .seq Xn102_3 Xn102_4
def Xn102_0 : C := .seq Xn102_1 Xn102_2
theorem Xt102 : Text Try.prog 102 Xn102_0 50 3 [.t 6] := ⟨⟨Try.f102, [], Try.func102, by kernel_rfl, by kernel_rfl, by kernel_rfl, by kernel_rfl⟩⟩
def Xn111_1 : C := regL [1] none [⟨some 1, .box true 74 (.tmp 0), none⟩, ⟨some 2, .mv (.const (.int .i64 0)), none⟩]
def Xn111_4 : C := regL [1, 22] none [⟨some 7, .fa 1 (.tmp 1), none⟩, ⟨some 8, .ld 71 1 false (.tmp 7), none⟩, ⟨some 9, .len (.tmp 8), none⟩, ⟨some 10, .bin 3 .lss (.tmp 9) (.const (.int .i64 1)), none⟩, ⟨some 11, .mv (.tmp 10), none⟩, ⟨some 12, .fa 1 (.tmp 1), some (11, false)⟩, ⟨some 13, .ld 71 1 false (.tmp 12), some (11, false)⟩, ⟨some 14, .len (.tmp 13), some (11, false)⟩, ⟨some 15, .bin 3 .gtr (.tmp 14) (.const (.int .i64 32)), some (11, false)⟩, ⟨some 16, .pick 11 (.const (.bool true)) (.tmp 15), none⟩, ⟨some 17, .mv (.tmp 16), none⟩, ⟨some 18, .fa 2 (.tmp 1), some (17, false)⟩, ⟨some 19, .ld 72 1 false (.tmp 18), some (17, false)⟩, ⟨some 20, .len (.tmp 19), some (17, false)⟩, ⟨some 21, .bin 3 .gtr (.tmp 20) (.const (.int .i64 32)), some (17, false)⟩, ⟨some 22, .pick 17 (.const (.bool true)) (.tmp 21), none⟩]
def Xn111_7 : C := regL [2] none [⟨some 2, .mv (.const (.int .i64 6)), none⟩]
def Xn111_6 : C := .seq Xn111_7 .ret
def Xn111_5 : C := .cond (.tmp 22) Xn111_6 .skip
def Xn111_3 : C := .seq Xn111_4 Xn111_5
def Xn111_12 : C := regL [1, 32] none [⟨some 23, .fa 0 (.tmp 1), none⟩, ⟨some 24, .ld 9 1 false (.tmp 23), none⟩, ⟨some 25, .call 131 [.tmp 24], none⟩, ⟨some 26, .un .not (.tmp 25), none⟩, ⟨some 27, .mv (.tmp 26), none⟩, ⟨some 28, .fa 3 (.tmp 1), some (27, false)⟩, ⟨some 29, .ld 2 1 false (.tmp 28), some (27, false)⟩, ⟨some 30, .call 132 [.tmp 29, .const (.int .i64 0), .const (.int .i64 1000)], some (27, false)⟩, ⟨some 31, .un .not (.tmp 30), some (27, false)⟩, ⟨some 32, .pick 27 (.const (.bool true)) (.tmp 31), none⟩]
def Xn111_15 : C := regL [2] none [⟨some 2, .mv (.const (.int .i64 2)), none⟩]
def Xn111_14 : C := .seq Xn111_15 .ret
def Xn111_13 : C := .cond (.tmp 32) Xn111_14 .skip
def Xn111_11 : C := .seq Xn111_12 Xn111_13
def Xn111_20 : C := regL [1, 34, 35, 36] none [⟨some 33, .fa 1 (.tmp 1), none⟩, ⟨some 34, .ld 71 1 false (.tmp 33), none⟩, ⟨some 35, .len (.tmp 34), none⟩, ⟨some 36, .mv (.const (.int .i64 0)), none⟩]
def Xn111_24 : C := regL [1, 34, 35, 36, 37] none [⟨some 37, .bin 3 .lss (.tmp 36) (.tmp 35), none⟩]
def Xn111_26 : C := .cond (.tmp 37) .skip (.exit 0)
def Xn111_32 : C := regL [1, 4, 34, 35, 36] none [⟨some 38, .ia 7 (.tmp 34) (.tmp 36), none⟩, ⟨some 39, .ld 162 7 true (.tmp 38), none⟩, ⟨some 4, .alc 162 (.agg #[.int .i64 0, .int .i64 0, .int .i64 0, .int .i64 0, .int .i64 0, .int .i64 0, .int .i64 0]), none⟩, ⟨none, .st 162 7 (.tmp 4) (.tmp 39), none⟩]
def Xn111_34 : C := regL [1, 34, 35, 36, 42] none [⟨some 40, .ld 162 7 true (.tmp 4), none⟩, ⟨some 41, .call 133 [.tmp 40], none⟩, ⟨some 42, .un .not (.tmp 41), none⟩]
def Xn111_37 : C := regL [2] none [⟨some 2, .mv (.const (.int .i64 2)), none⟩]
def Xn111_36 : C := .seq Xn111_37 .ret
def Xn111_35 : C := .cond (.tmp 42) Xn111_36 .skip
def Xn111_33 : C := .seq Xn111_34 Xn111_35
def Xn111_31 : C := .seq Xn111_32 Xn111_33
def Xn111_30 : C := .block 1 Xn111_31
def Xn111_40 : C := regL [1, 34, 35, 36] none [⟨some 43, .bin 3 .add (.tmp 36) (.const (.int .i64 1)), none⟩, ⟨some 36, .mv (.tmp 43), none⟩]
def Xn111_29 : C := seqL [1, 34, 35, 36] Xn111_30 Xn111_40
def Xn111_25 : C := seqL [1, 34, 35, 36] Xn111_26 Xn111_29
def Xn111_23 : C := .seq Xn111_24 Xn111_25
def Xn111_22 : C := loopL [1, 34, 35, 36] Xn111_23
def Xn111_21 : C := .block 0 Xn111_22
def Xn111_19 : C := .seq Xn111_20 Xn111_21
def Xn111_43 : C := regL [1, 45, 46, 47] none [⟨some 44, .fa 2 (.tmp 1), none⟩, ⟨some 45, .ld 72 1 false (.tmp 44), none⟩, ⟨some 46, .len (.tmp 45), none⟩, ⟨some 47, .mv (.const (.int .i64 0)), none⟩]
def Xn111_47 : C := regL [1, 45, 46, 47, 48] none [⟨some 48, .bin 3 .lss (.tmp 47) (.tmp 46), none⟩]
def Xn111_49 : C := .cond (.tmp 48) .skip (.exit 2)
def Xn111_55 : C := regL [1, 6, 45, 46, 47] none [⟨some 49, .ia 4 (.tmp 45) (.tmp 47), none⟩, ⟨some 50, .ld 165 4 true (.tmp 49), none⟩, ⟨some 6, .alc 165 (.agg #[.int .i64 0, .int .i64 0, .int .i64 0, .int .i64 0]), none⟩, ⟨none, .st 165 4 (.tmp 6) (.tmp 50), none⟩]
def Xn111_57 : C := regL [1, 45, 46, 47, 53] none [⟨some 51, .ld 165 4 true (.tmp 6), none⟩, ⟨some 52, .call 134 [.tmp 51], none⟩, ⟨some 53, .un .not (.tmp 52), none⟩]
def Xn111_60 : C := regL [2] none [⟨some 2, .mv (.const (.int .i64 2)), none⟩]
def Xn111_59 : C := .seq Xn111_60 .ret
def Xn111_58 : C := .cond (.tmp 53) Xn111_59 .skip
def Xn111_56 : C := .seq Xn111_57 Xn111_58
def Xn111_54 : C := .seq Xn111_55 Xn111_56
def Xn111_53 : C := .block 3 Xn111_54
def Xn111_63 : C := regL [1, 45, 46, 47] none [⟨some 54, .bin 3 .add (.tmp 47) (.const (.int .i64 1)), none⟩, ⟨some 47, .mv (.tmp 54), none⟩]
def Xn111_52 : C := seqL [1, 45, 46, 47] Xn111_53 Xn111_63
def Xn111_48 : C := seqL [1, 45, 46, 47] Xn111_49 Xn111_52
def Xn111_46 : C := .seq Xn111_47 Xn111_48
def Xn111_45 : C := loopL [1, 45, 46, 47] Xn111_46
def Xn111_44 : C := .block 2 Xn111_45
def Xn111_42 : C := .seq Xn111_43 Xn111_44
def Xn111_66 : C := regL [60] none [⟨some 55, .fa 1 (.tmp 1), none⟩, ⟨some 56, .ld 71 1 false (.tmp 55), none⟩, ⟨some 57, .call 112 [.tmp 56], none⟩, ⟨some 58, .fl 0 1 false (.tmp 57), none⟩, ⟨some 59, .call 132 [.tmp 58, .const (.int .i64 1), .const (.int .i64 16777216)], none⟩, ⟨some 60, .un .not (.tmp 59), none⟩]
def Xn111_69 : C := regL [2] none [⟨some 2, .mv (.const (.int .i64 2)), none⟩]
def Xn111_68 : C := .seq Xn111_69 .ret
def Xn111_67 : C := .cond (.tmp 60) Xn111_68 .skip
def Xn111_65 : C := .seq Xn111_66 Xn111_67
def Xn111_73 : C := regL [2] none [⟨some 2, .mv (.const (.int .i64 0)), none⟩]
def Xn111_72 : C := .seq Xn111_73 .ret
def Xn111_64 : C := seqL [] Xn111_65 Xn111_72
def Xn111_41 : C := seqL [1] Xn111_42 Xn111_64
def Xn111_18 : C := seqL [1] Xn111_19 Xn111_41
def Xn111_10 : C := seqL [1] Xn111_11 Xn111_18
def Xn111_2 : C := seqL [1] Xn111_3 Xn111_10
def Xn111_0 : C := .seq Xn111_1 Xn111_2
theorem Xt111 : Text Try.prog 111 Xn111_0 61 1 [.t 2] := ⟨⟨Try.f111, [1], Try.func111, by kernel_rfl, by kernel_rfl, by kernel_rfl, by kernel_rfl⟩⟩
def Xn112_1 : C := regL [0, 2] none [⟨some 2, .alc 145 (.agg #[.int .i64 0, .int .i64 0, .int .i64 0, .int .i64 0]), none⟩]
def Xn112_4 : C := regL [2, 5, 6, 7] none [⟨some 5, .mv (.tmp 0), none⟩, ⟨some 6, .len (.tmp 5), none⟩, ⟨some 7, .mv (.const (.int .i64 0)), none⟩]
def Xn112_8 : C := regL [2, 5, 6, 7, 8] none [⟨some 8, .bin 3 .lss (.tmp 7) (.tmp 6), none⟩]
def Xn112_10 : C := .cond (.tmp 8) .skip (.exit 0)
def Xn112_16 : C := regL [2, 4, 5, 6, 7] none [⟨some 9, .ia 7 (.tmp 5) (.tmp 7), none⟩, ⟨some 10, .ld 162 7 true (.tmp 9), none⟩, ⟨some 4, .alc 162 (.agg #[.int .i64 0, .int .i64 0, .int .i64 0, .int .i64 0, .int .i64 0, .int .i64 0, .int .i64 0]), none⟩, ⟨none, .st 162 7 (.tmp 4) (.tmp 10), none⟩]
def Xn112_17 : C := regL [2, 5, 6, 7] none [⟨some 11, .ld 162 7 true (.tmp 4), none⟩, ⟨some 12, .call 135 [.tmp 2, .tmp 11], none⟩]
def Xn112_15 : C := .seq Xn112_16 Xn112_17
def Xn112_14 : C := .block 1 Xn112_15
def Xn112_18 : C := regL [2, 5, 6, 7] none [⟨some 13, .bin 3 .add (.tmp 7) (.const (.int .i64 1)), none⟩, ⟨some 7, .mv (.tmp 13), none⟩]
def Xn112_13 : C := seqL [2, 5, 6, 7] Xn112_14 Xn112_18
def Xn112_9 : C := seqL [2, 5, 6, 7] Xn112_10 Xn112_13
def Xn112_7 : C := .seq Xn112_8 Xn112_9
def Xn112_6 : C := loopL [2, 5, 6, 7] Xn112_7
def Xn112_5 : C := .block 0 Xn112_6
def Xn112_3 : C := .seq Xn112_4 Xn112_5
def Xn112_20 : C := regL [2] none [⟨some 14, .ld 145 4 true (.tmp 2), none⟩, ⟨none, .st 145 4 (.tmp 2) (.tmp 14), none⟩]
def Xn112_19 : C := .seq Xn112_20 .ret
def Xn112_2 : C := seqL [2] Xn112_3 Xn112_19
def Xn112_0 : C := .seq Xn112_1 Xn112_2
theorem Xt112 : Text Try.prog 112 Xn112_0 15 1 [.c 2 4 true] := ⟨⟨Try.f112, [], Try.func112, by kernel_rfl, by kernel_rfl, by kernel_rfl, by kernel_rfl⟩⟩
def Xn113_1 : C := regL [0, 1] none [⟨some 4, .mv (.const (.int .i64 0)), none⟩]
def Xn113_3 : C := regL [0, 1, 5] none [⟨some 6, .mv (.tmp 0), none⟩, ⟨some 7, .mv (.tmp 1), none⟩, ⟨some 8, .bin 2 .quo (.tmp 6) (.tmp 7), none⟩, ⟨some 5, .mv (.tmp 8), none⟩]
def Xn113_6 : C := regL [5, 12] none [⟨some 9, .mv (.tmp 0), none⟩, ⟨some 10, .mv (.tmp 1), none⟩, ⟨some 11, .bin 2 .rem (.tmp 9) (.tmp 10), none⟩, ⟨some 12, .bin 2 .lss (.tmp 11) (.const (.int .i64 0)), none⟩]
def Xn113_8 : C := regL [5] none [⟨some 13, .mv (.tmp 5), none⟩, ⟨some 14, .bin 2 .sub (.tmp 13) (.const (.int .i64 1)), none⟩, ⟨some 5, .mv (.tmp 14), none⟩]
def Xn113_7 : C := .cond (.tmp 12) Xn113_8 .skip
def Xn113_5 : C := .seq Xn113_6 Xn113_7
def Xn113_11 : C := regL [4] none [⟨some 15, .mv (.tmp 5), none⟩, ⟨some 4, .mv (.tmp 15), none⟩]
def Xn113_10 : C := .seq Xn113_11 .ret
def Xn113_4 : C := seqL [5] Xn113_5 Xn113_10
def Xn113_2 : C := .seq Xn113_3 Xn113_4
def Xn113_0 : C := .seq Xn113_1 Xn113_2
theorem Xt113 : Text Try.prog 113 Xn113_0 16 2 [.t 4] := ⟨⟨Try.f113, [], Try.func113, by kernel_rfl, by kernel_rfl, by kernel_rfl, by kernel_rfl⟩⟩
def Xn114_1 : C := regL [1] none [⟨some 1, .box true 74 (.tmp 0), none⟩, ⟨some 2, .mv (.const (.int .i64 0)), none⟩]
def Xn114_4 : C := regL [1, 21] none [⟨some 6, .fa 1 (.tmp 1), none⟩, ⟨some 7, .ld 71 1 false (.tmp 6), none⟩, ⟨some 8, .len (.tmp 7), none⟩, ⟨some 9, .bin 3 .lss (.tmp 8) (.const (.int .i64 1)), none⟩, ⟨some 10, .mv (.tmp 9), none⟩, ⟨some 11, .fa 1 (.tmp 1), some (10, false)⟩, ⟨some 12, .ld 71 1 false (.tmp 11), some (10, false)⟩, ⟨some 13, .len (.tmp 12), some (10, false)⟩, ⟨some 14, .bin 3 .gtr (.tmp 13) (.const (.int .i64 32)), some (10, false)⟩, ⟨some 15, .pick 10 (.const (.bool true)) (.tmp 14), none⟩, ⟨some 16, .mv (.tmp 15), none⟩, ⟨some 17, .fa 2 (.tmp 1), some (16, false)⟩, ⟨some 18, .ld 72 1 false (.tmp 17), some (16, false)⟩, ⟨some 19, .len (.tmp 18), some (16, false)⟩, ⟨some 20, .bin 3 .gtr (.tmp 19) (.const (.int .i64 32)), some (16, false)⟩, ⟨some 21, .pick 16 (.const (.bool true)) (.tmp 20), none⟩]
def Xn114_7 : C := regL [2] none [⟨some 2, .mv (.const (.int .i64 6)), none⟩]
def Xn114_6 : C := .seq Xn114_7 .ret
def Xn114_5 : C := .cond (.tmp 21) Xn114_6 .skip
def Xn114_3 : C := .seq Xn114_4 Xn114_5
def Xn114_11 : C := regL [1, 3] none [⟨some 3, .mv (.const (.int .i64 0)), none⟩]
def Xn114_14 : C := regL [1, 3, 4] none [⟨some 4, .mv (.const (.int .i64 0)), none⟩]
def Xn114_19 : C := regL [1, 3, 4, 26] none [⟨some 22, .mv (.tmp 4), none⟩, ⟨some 23, .fa 1 (.tmp 1), none⟩, ⟨some 24, .ld 71 1 false (.tmp 23), none⟩, ⟨some 25, .len (.tmp 24), none⟩, ⟨some 26, .bin 3 .lss (.tmp 22) (.tmp 25), none⟩]
def Xn114_20 : C := .cond (.tmp 26) .skip (.exit 0)
def Xn114_18 : C := .seq Xn114_19 Xn114_20
def Xn114_27 : C := regL [1, 3, 4, 35] none [⟨some 29, .fa 1 (.tmp 1), none⟩, ⟨some 30, .ld 71 1 false (.tmp 29), none⟩, ⟨some 31, .mv (.tmp 4), none⟩, ⟨some 32, .ia 7 (.tmp 30) (.tmp 31), none⟩, ⟨some 33, .ld 162 7 true (.tmp 32), none⟩, ⟨some 34, .call 136 [.tmp 33], none⟩, ⟨some 35, .un .not (.tmp 34), none⟩]
def Xn114_30 : C := regL [2] none [⟨some 2, .mv (.const (.int .i64 2)), none⟩]
def Xn114_29 : C := .seq Xn114_30 .ret
def Xn114_28 : C := .cond (.tmp 35) Xn114_29 .skip
def Xn114_26 : C := .seq Xn114_27 Xn114_28
def Xn114_33 : C := regL [1, 3, 4] none [⟨some 36, .mv (.tmp 3), none⟩, ⟨some 37, .fa 1 (.tmp 1), none⟩, ⟨some 38, .ld 71 1 false (.tmp 37), none⟩, ⟨some 39, .mv (.tmp 4), none⟩, ⟨some 40, .ia 7 (.tmp 38) (.tmp 39), none⟩, ⟨some 41, .fa 6 (.tmp 40), none⟩, ⟨some 42, .ld 2 1 false (.tmp 41), none⟩, ⟨some 43, .bin 2 .add (.tmp 36) (.tmp 42), none⟩, ⟨some 3, .mv (.tmp 43), none⟩]
def Xn114_25 : C := seqL [1, 3, 4] Xn114_26 Xn114_33
def Xn114_24 : C := .block 1 Xn114_25
def Xn114_34 : C := regL [1, 3, 4] none [⟨some 27, .mv (.tmp 4), none⟩, ⟨some 28, .bin 3 .add (.tmp 27) (.const (.int .i64 1)), none⟩, ⟨some 4, .mv (.tmp 28), none⟩]
def Xn114_23 : C := seqL [1, 3, 4] Xn114_24 Xn114_34
def Xn114_17 : C := seqL [1, 3, 4] Xn114_18 Xn114_23
def Xn114_16 : C := loopL [1, 3, 4] Xn114_17
def Xn114_15 : C := .block 0 Xn114_16
def Xn114_13 : C := .seq Xn114_14 Xn114_15
def Xn114_37 : C := regL [1, 3, 5] none [⟨some 5, .mv (.const (.int .i64 0)), none⟩]
def Xn114_42 : C := regL [1, 3, 5, 48] none [⟨some 44, .mv (.tmp 5), none⟩, ⟨some 45, .fa 2 (.tmp 1), none⟩, ⟨some 46, .ld 72 1 false (.tmp 45), none⟩, ⟨some 47, .len (.tmp 46), none⟩, ⟨some 48, .bin 3 .lss (.tmp 44) (.tmp 47), none⟩]
def Xn114_43 : C := .cond (.tmp 48) .skip (.exit 2)
def Xn114_41 : C := .seq Xn114_42 Xn114_43
def Xn114_49 : C := regL [1, 3, 5, 57] none [⟨some 51, .fa 2 (.tmp 1), none⟩, ⟨some 52, .ld 72 1 false (.tmp 51), none⟩, ⟨some 53, .mv (.tmp 5), none⟩, ⟨some 54, .ia 4 (.tmp 52) (.tmp 53), none⟩, ⟨some 55, .ld 165 4 true (.tmp 54), none⟩, ⟨some 56, .call 137 [.tmp 55], none⟩, ⟨some 57, .un .not (.tmp 56), none⟩]
def Xn114_52 : C := regL [2] none [⟨some 2, .mv (.const (.int .i64 2)), none⟩]
def Xn114_51 : C := .seq Xn114_52 .ret
def Xn114_50 : C := .cond (.tmp 57) Xn114_51 .skip
def Xn114_48 : C := .seq Xn114_49 Xn114_50
def Xn114_47 : C := .block 3 Xn114_48
def Xn114_55 : C := regL [1, 3, 5] none [⟨some 49, .mv (.tmp 5), none⟩, ⟨some 50, .bin 3 .add (.tmp 49) (.const (.int .i64 1)), none⟩, ⟨some 5, .mv (.tmp 50), none⟩]
def Xn114_46 : C := seqL [1, 3, 5] Xn114_47 Xn114_55
def Xn114_40 : C := seqL [1, 3, 5] Xn114_41 Xn114_46
def Xn114_39 : C := loopL [1, 3, 5] Xn114_40
def Xn114_38 : C := .block 2 Xn114_39
def Xn114_36 : C := .seq Xn114_37 Xn114_38
def Xn114_58 : C := regL [72] none [⟨some 58, .fa 0 (.tmp 1), none⟩, ⟨some 59, .ld 9 1 false (.tmp 58), none⟩, ⟨some 60, .call 138 [.tmp 59], none⟩, ⟨some 61, .un .not (.tmp 60), none⟩, ⟨some 62, .mv (.tmp 61), none⟩, ⟨some 63, .mv (.tmp 3), some (62, false)⟩, ⟨some 64, .call 139 [.tmp 63, .const (.int .i64 1), .const (.int .i64 16777216)], some (62, false)⟩, ⟨some 65, .un .not (.tmp 64), some (62, false)⟩, ⟨some 66, .pick 62 (.const (.bool true)) (.tmp 65), none⟩, ⟨some 67, .mv (.tmp 66), none⟩, ⟨some 68, .fa 3 (.tmp 1), some (67, false)⟩, ⟨some 69, .ld 2 1 false (.tmp 68), some (67, false)⟩, ⟨some 70, .call 139 [.tmp 69, .const (.int .i64 0), .const (.int .i64 1000)], some (67, false)⟩, ⟨some 71, .un .not (.tmp 70), some (67, false)⟩, ⟨some 72, .pick 67 (.const (.bool true)) (.tmp 71), none⟩]
def Xn114_61 : C := regL [2] none [⟨some 2, .mv (.const (.int .i64 2)), none⟩]
def Xn114_60 : C := .seq Xn114_61 .ret
def Xn114_59 : C := .cond (.tmp 72) Xn114_60 .skip
def Xn114_57 : C := .seq Xn114_58 Xn114_59
def Xn114_65 : C := regL [2] none [⟨some 2, .mv (.const (.int .i64 0)), none⟩]
def Xn114_64 : C := .seq Xn114_65 .ret
def Xn114_56 : C := seqL [] Xn114_57 Xn114_64
def Xn114_35 : C := seqL [1, 3] Xn114_36 Xn114_56
def Xn114_12 : C := seqL [1, 3] Xn114_13 Xn114_35
def Xn114_10 : C := .seq Xn114_11 Xn114_12
def Xn114_2 : C := seqL [1] Xn114_3 Xn114_10
def Xn114_0 : C := .seq Xn114_1 Xn114_2
theorem Xt114 : Text Try.prog 114 Xn114_0 73 1 [.t 2] := ⟨⟨Try.f114, [1], Try.func114, by kernel_rfl, by kernel_rfl, by kernel_rfl, by kernel_rfl⟩⟩
def Xn115_1 : C := regL [0, 2] none [⟨some 2, .alc 30 (.agg #[.int .i64 0, .int .i64 0, .int .i64 0]), none⟩]
def Xn115_3 : C := regL [0, 2, 3] none [⟨some 3, .alc 30 (.agg #[.int .i64 0, .int .i64 0, .int .i64 0]), none⟩]
def Xn115_6 : C := regL [0, 2, 3, 4] none [⟨some 4, .mv (.const (.int .i64 0)), none⟩]
def Xn115_11 : C := regL [0, 2, 3, 4, 9] none [⟨some 6, .mv (.tmp 4), none⟩, ⟨some 7, .mv (.tmp 0), none⟩, ⟨some 8, .len (.tmp 7), none⟩, ⟨some 9, .bin 3 .lss (.tmp 6) (.tmp 8), none⟩]
def Xn115_12 : C := .cond (.tmp 9) .skip (.exit 0)
def Xn115_10 : C := .seq Xn115_11 Xn115_12
def Xn115_18 : C := regL [0, 2, 3, 4, 5] none [⟨some 12, .mv (.tmp 0), none⟩, ⟨some 13, .mv (.tmp 4), none⟩, ⟨some 14, .ia 7 (.tmp 12) (.tmp 13), none⟩, ⟨some 15, .ld 162 7 true (.tmp 14), none⟩, ⟨some 5, .alc 162 (.agg #[.int .i64 0, .int .i64 0, .int .i64 0, .int .i64 0, .int .i64 0, .int .i64 0, .int .i64 0]), none⟩, ⟨none, .st 162 7 (.tmp 5) (.tmp 15), none⟩]
def Xn115_20 : C := regL [0, 2, 3, 4, 5] none [⟨some 16, .iaa 3 1 (.tmp 3) (.const (.int .i64 0)), none⟩, ⟨some 17, .ld 2 1 false (.tmp 16), none⟩, ⟨some 18, .fa 6 (.tmp 5), none⟩, ⟨some 19, .ld 2 1 false (.tmp 18), none⟩, ⟨some 20, .fa 0 (.tmp 5), none⟩, ⟨some 21, .ld 2 1 false (.tmp 20), none⟩, ⟨some 22, .bin 2 .mul (.const (.int .i64 2)) (.tmp 21), none⟩, ⟨some 23, .fa 3 (.tmp 5), none⟩, ⟨some 24, .ld 2 1 false (.tmp 23), none⟩, ⟨some 25, .bin 2 .add (.tmp 22) (.tmp 24), none⟩, ⟨some 26, .bin 2 .mul (.tmp 19) (.tmp 25), none⟩, ⟨some 27, .bin 2 .add (.tmp 17) (.tmp 26), none⟩, ⟨some 28, .iaa 3 1 (.tmp 3) (.const (.int .i64 0)), none⟩, ⟨none, .st 2 1 (.tmp 28) (.tmp 27), none⟩]
def Xn115_22 : C := regL [0, 2, 3, 4, 5] none [⟨some 29, .iaa 3 1 (.tmp 3) (.const (.int .i64 1)), none⟩, ⟨some 30, .ld 2 1 false (.tmp 29), none⟩, ⟨some 31, .fa 6 (.tmp 5), none⟩, ⟨some 32, .ld 2 1 false (.tmp 31), none⟩, ⟨some 33, .fa 1 (.tmp 5), none⟩, ⟨some 34, .ld 2 1 false (.tmp 33), none⟩, ⟨some 35, .bin 2 .mul (.const (.int .i64 2)) (.tmp 34), none⟩, ⟨some 36, .fa 4 (.tmp 5), none⟩, ⟨some 37, .ld 2 1 false (.tmp 36), none⟩, ⟨some 38, .bin 2 .add (.tmp 35) (.tmp 37), none⟩, ⟨some 39, .bin 2 .mul (.tmp 32) (.tmp 38), none⟩, ⟨some 40, .bin 2 .add (.tmp 30) (.tmp 39), none⟩, ⟨some 41, .iaa 3 1 (.tmp 3) (.const (.int .i64 1)), none⟩, ⟨none, .st 2 1 (.tmp 41) (.tmp 40), none⟩]
def Xn115_23 : C := regL [0, 2, 3, 4] none [⟨some 42, .iaa 3 1 (.tmp 3) (.const (.int .i64 2)), none⟩, ⟨some 43, .ld 2 1 false (.tmp 42), none⟩, ⟨some 44, .fa 6 (.tmp 5), none⟩, ⟨some 45, .ld 2 1 false (.tmp 44), none⟩, ⟨some 46, .fa 2 (.tmp 5), none⟩, ⟨some 47, .ld 2 1 false (.tmp 46), none⟩, ⟨some 48, .bin 2 .mul (.const (.int .i64 2)) (.tmp 47), none⟩, ⟨some 49, .fa 5 (.tmp 5), none⟩, ⟨some 50, .ld 2 1 false (.tmp 49), none⟩, ⟨some 51, .bin 2 .add (.tmp 48) (.tmp 50), none⟩, ⟨some 52, .bin 2 .mul (.tmp 45) (.tmp 51), none⟩, ⟨some 53, .bin 2 .add (.tmp 43) (.tmp 52), none⟩, ⟨some 54, .iaa 3 1 (.tmp 3) (.const (.int .i64 2)), none⟩, ⟨none, .st 2 1 (.tmp 54) (.tmp 53), none⟩]
def Xn115_21 : C := .seq Xn115_22 Xn115_23
def Xn115_19 : C := .seq Xn115_20 Xn115_21
def Xn115_17 : C := .seq Xn115_18 Xn115_19
def Xn115_16 : C := .block 1 Xn115_17
def Xn115_24 : C := regL [0, 2, 3, 4] none [⟨some 10, .mv (.tmp 4), none⟩, ⟨some 11, .bin 3 .add (.tmp 10) (.const (.int .i64 1)), none⟩, ⟨some 4, .mv (.tmp 11), none⟩]
def Xn115_15 : C := seqL [0, 2, 3, 4] Xn115_16 Xn115_24
def Xn115_9 : C := seqL [0, 2, 3, 4] Xn115_10 Xn115_15
def Xn115_8 : C := loopL [0, 2, 3, 4] Xn115_9
def Xn115_7 : C := .block 0 Xn115_8
def Xn115_5 : C := .seq Xn115_6 Xn115_7
def Xn115_26 : C := regL [2] none [⟨some 55, .ld 30 3 true (.tmp 3), none⟩, ⟨none, .st 30 3 (.tmp 2) (.tmp 55), none⟩]
def Xn115_25 : C := .seq Xn115_26 .ret
def Xn115_4 : C := seqL [2, 3] Xn115_5 Xn115_25
def Xn115_2 : C := .seq Xn115_3 Xn115_4
def Xn115_0 : C := .seq Xn115_1 Xn115_2
theorem Xt115 : Text Try.prog 115 Xn115_0 56 1 [.c 2 3 true] := ⟨⟨Try.f115, [], Try.func115, by kernel_rfl, by kernel_rfl, by kernel_rfl, by kernel_rfl⟩⟩
def Xn116_1 : C := regL [0] none [⟨some 2, .mv (.const (.int .i64 0)), none⟩]
def Xn116_3 : C := regL [0, 3] none [⟨some 3, .mv (.const (.int .i64 0)), none⟩]
def Xn116_6 : C := regL [0, 3, 4] none [⟨some 4, .mv (.const (.int .i64 0)), none⟩]
def Xn116_11 : C := regL [0, 3, 4, 8] none [⟨some 5, .mv (.tmp 4), none⟩, ⟨some 6, .mv (.tmp 0), none⟩, ⟨some 7, .len (.tmp 6), none⟩, ⟨some 8, .bin 3 .lss (.tmp 5) (.tmp 7), none⟩]
def Xn116_12 : C := .cond (.tmp 8) .skip (.exit 0)
def Xn116_10 : C := .seq Xn116_11 Xn116_12
def Xn116_17 : C := regL [0, 3, 4] none [⟨some 11, .mv (.tmp 3), none⟩, ⟨some 12, .mv (.tmp 0), none⟩, ⟨some 13, .mv (.tmp 4), none⟩, ⟨some 14, .ia 7 (.tmp 12) (.tmp 13), none⟩, ⟨some 15, .fa 6 (.tmp 14), none⟩, ⟨some 16, .ld 2 1 false (.tmp 15), none⟩, ⟨some 17, .bin 2 .add (.tmp 11) (.tmp 16), none⟩, ⟨some 3, .mv (.tmp 17), none⟩]
def Xn116_16 : C := .block 1 Xn116_17
def Xn116_18 : C := regL [0, 3, 4] none [⟨some 9, .mv (.tmp 4), none⟩, ⟨some 10, .bin 3 .add (.tmp 9) (.const (.int .i64 1)), none⟩, ⟨some 4, .mv (.tmp 10), none⟩]
def Xn116_15 : C := seqL [0, 3, 4] Xn116_16 Xn116_18
def Xn116_9 : C := seqL [0, 3, 4] Xn116_10 Xn116_15
def Xn116_8 : C := loopL [0, 3, 4] Xn116_9
def Xn116_7 : C := .block 0 Xn116_8
def Xn116_5 : C := .seq Xn116_6 Xn116_7
def Xn116_20 : C := regL [2] none [⟨some 18, .mv (.tmp 3), none⟩, ⟨some 2, .mv (.tmp 18), none⟩]
def Xn116_19 : C := .seq Xn116_20 .ret
def Xn116_4 : C := seqL [3] Xn116_5 Xn116_19
def Xn116_2 : C := .seq Xn116_3 Xn116_4
def Xn116_0 : C := .seq Xn116_1 Xn116_2
theorem Xt116 : Text Try.prog 116 Xn116_0 19 1 [.t 2] := ⟨⟨Try.f116, [], Try.func116, by kernel_rfl, by kernel_rfl, by kernel_rfl, by kernel_rfl⟩⟩
def Xn123_1 : C := regL [1] none [⟨some 1, .box true 89 (.tmp 0), none⟩, ⟨some 2, .mv (.const (.int .i64 0)), none⟩, ⟨some 3, .mv (.const (.bool false)), none⟩, ⟨some 4, .mv (.const (.bool false)), none⟩]
def Xn123_3 : C := regL [1, 4] none [⟨some 9, .fa 0 (.tmp 1), none⟩, ⟨some 10, .ld 2 1 false (.tmp 9), none⟩, ⟨some 11, .bin 2 .lss (.tmp 10) (.const (.int .i64 0)), none⟩, ⟨some 12, .fa 1 (.tmp 1), none⟩, ⟨some 13, .ld 2 1 false (.tmp 12), none⟩, ⟨some 14, .bin 2 .lss (.tmp 13) (.const (.int .i64 0)), none⟩, ⟨some 15, .eqb 4 true (.tmp 11) (.tmp 14), none⟩, ⟨some 4, .mv (.tmp 15), none⟩]
def Xn123_5 : C := regL [1, 4, 5, 6] none [⟨some 17, .fa 0 (.tmp 1), none⟩, ⟨some 18, .ld 2 1 false (.tmp 17), none⟩, ⟨some 19, .fa 0 (.tmp 1), none⟩, ⟨some 20, .ld 2 1 false (.tmp 19), none⟩, ⟨some 21, .un .neg (.tmp 20), none⟩, ⟨some 22, .mx [.tmp 18, .tmp 21], none⟩, ⟨some 23, .cvt .u64 (.tmp 22), none⟩, ⟨some 24, .fa 1 (.tmp 1), none⟩, ⟨some 25, .ld 2 1 false (.tmp 24), none⟩, ⟨some 26, .fa 1 (.tmp 1), none⟩, ⟨some 27, .ld 2 1 false (.tmp 26), none⟩, ⟨some 28, .un .neg (.tmp 27), none⟩, ⟨some 29, .mx [.tmp 25, .tmp 28], none⟩, ⟨some 30, .cvt .u64 (.tmp 29), none⟩, ⟨some 31, .call 143 [.tmp 23, .tmp 30], none⟩, ⟨some 16, .mv (.tmp 31), none⟩, ⟨some 32, .ext 0 (.tmp 16), none⟩, ⟨some 33, .ext 1 (.tmp 16), none⟩, ⟨some 5, .mv (.tmp 32), none⟩, ⟨some 6, .mv (.tmp 33), none⟩]
def Xn123_7 : C := regL [4, 7, 8] none [⟨some 35, .mv (.tmp 5), none⟩, ⟨some 36, .mv (.tmp 6), none⟩, ⟨some 37, .fa 2 (.tmp 1), none⟩, ⟨some 38, .ld 2 1 false (.tmp 37), none⟩, ⟨some 39, .cvt .u64 (.tmp 38), none⟩, ⟨some 40, .call 144 [.tmp 35, .tmp 36, .tmp 39], none⟩, ⟨some 34, .mv (.tmp 40), none⟩, ⟨some 41, .ext 0 (.tmp 34), none⟩, ⟨some 42, .ext 1 (.tmp 34), none⟩, ⟨some 7, .mv (.tmp 41), none⟩, ⟨some 8, .mv (.tmp 42), none⟩]
def Xn123_9 : C := regL [2, 3, 4] none [⟨some 43, .mv (.tmp 7), none⟩, ⟨some 44, .cvt .i64 (.tmp 43), none⟩, ⟨some 45, .mv (.tmp 8), none⟩, ⟨some 46, .bin 170 .gtr (.tmp 45) (.const (.int .u64 0)), none⟩, ⟨some 47, .mv (.tmp 4), none⟩, ⟨some 2, .mv (.tmp 44), none⟩, ⟨some 3, .mv (.tmp 46), none⟩, ⟨some 4, .mv (.tmp 47), none⟩]
def Xn123_8 : C := .seq Xn123_9 .ret
def Xn123_6 : C := .seq Xn123_7 Xn123_8
def Xn123_4 : C := .seq Xn123_5 Xn123_6
def Xn123_2 : C := .seq Xn123_3 Xn123_4
def Xn123_0 : C := .seq Xn123_1 Xn123_2
theorem Xt123 : Text Try.prog 123 Xn123_0 48 1 [.t 2, .t 3, .t 4] := ⟨⟨Try.f123, [1], Try.func123, by kernel_rfl, by kernel_rfl, by kernel_rfl, by kernel_rfl⟩⟩
def Xn124_1 : C := regL [0, 1, 2] none [⟨some 5, .mv (.const (.int .i64 0)), none⟩]
def Xn124_3 : C := regL [5] (some [0, 0, 3, 7, 0, 0, 48, 112, 255, 0, 0, 1536, 3584, 0, 0, 24576, 57344, 130560, 262143, 524287]) [⟨some 6, .mv (.tmp 0), none⟩, ⟨some 7, .iaa 3 3 (.tmp 2) (.const (.int .i64 1)), none⟩, ⟨some 8, .iaa 3 1 (.tmp 7) (.tmp 6), none⟩, ⟨some 9, .ld 2 1 false (.tmp 8), none⟩, ⟨some 10, .mv (.tmp 1), none⟩, ⟨some 11, .iaa 3 3 (.tmp 2) (.const (.int .i64 2)), none⟩, ⟨some 12, .iaa 3 1 (.tmp 11) (.tmp 10), none⟩, ⟨some 13, .ld 2 1 false (.tmp 12), none⟩, ⟨some 14, .bin 2 .mul (.tmp 9) (.tmp 13), none⟩, ⟨some 15, .mv (.tmp 0), none⟩, ⟨some 16, .iaa 3 3 (.tmp 2) (.const (.int .i64 2)), none⟩, ⟨some 17, .iaa 3 1 (.tmp 16) (.tmp 15), none⟩, ⟨some 18, .ld 2 1 false (.tmp 17), none⟩, ⟨some 19, .mv (.tmp 1), none⟩, ⟨some 20, .iaa 3 3 (.tmp 2) (.const (.int .i64 1)), none⟩, ⟨some 21, .iaa 3 1 (.tmp 20) (.tmp 19), none⟩, ⟨some 22, .ld 2 1 false (.tmp 21), none⟩, ⟨some 23, .bin 2 .mul (.tmp 18) (.tmp 22), none⟩, ⟨some 24, .bin 2 .sub (.tmp 14) (.tmp 23), none⟩, ⟨some 5, .mv (.tmp 24), none⟩]
def Xn124_2 : C := .seq Xn124_3 .ret
def Xn124_0 : C := .seq Xn124_1 Xn124_2
theorem Xt124 : Text Try.prog 124 Xn124_0 25 3 [.t 5] := ⟨⟨Try.f124, [], Try.func124, by kernel_rfl, by kernel_rfl, by kernel_rfl, by kernel_rfl⟩⟩
end Go.Proofs.Ytfkjdjlcaojedaa

namespace Go.Proofs.Ytfkjdjlcaojedaa
open Go Sy
set_option maxRecDepth 100000
def Xn131_1 : C := regL [0] none [⟨some 2, .mv (.const (.bool false)), none⟩]
def Xn131_4 : C := regL [0, 12] none [⟨some 5, .mv (.tmp 0), none⟩, ⟨some 6, .slen (.tmp 5), none⟩, ⟨some 7, .bin 3 .lss (.tmp 6) (.const (.int .i64 1)), none⟩, ⟨some 8, .mv (.tmp 7), none⟩, ⟨some 9, .mv (.tmp 0), some (8, false)⟩, ⟨some 10, .slen (.tmp 9), some (8, false)⟩, ⟨some 11, .bin 3 .gtr (.tmp 10) (.const (.int .i64 20)), some (8, false)⟩, ⟨some 12, .pick 8 (.const (.bool true)) (.tmp 11), none⟩]
def Xn131_7 : C := regL [2] none [⟨some 2, .mv (.const (.bool false)), none⟩]
def Xn131_6 : C := .seq Xn131_7 .ret
def Xn131_5 : C := .cond (.tmp 12) Xn131_6 .skip
def Xn131_3 : C := .seq Xn131_4 Xn131_5
def Xn131_12 : C := regL [14] none [⟨some 13, .mv (.tmp 0), none⟩, ⟨some 14, .rgs (.tmp 13), none⟩]
def Xn131_16 : C := regL [14, 15, 16] none [⟨some 15, .nxs (.tmp 14), none⟩, ⟨some 16, .ext 0 (.tmp 15), none⟩]
def Xn131_18 : C := .cond (.tmp 16) .skip (.exit 0)
def Xn131_23 : C := regL [4, 14] none [⟨some 17, .ext 2 (.tmp 15), none⟩, ⟨some 4, .mv (.tmp 17), none⟩]
def Xn131_25 : C := regL [14, 31] none [⟨some 18, .mv (.tmp 4), none⟩, ⟨some 19, .bin 21 .lss (.tmp 18) (.const (.int .i32 97)), none⟩, ⟨some 20, .mv (.tmp 19), none⟩, ⟨some 21, .mv (.tmp 4), some (20, false)⟩, ⟨some 22, .bin 21 .gtr (.tmp 21) (.const (.int .i32 122)), some (20, false)⟩, ⟨some 23, .pick 20 (.const (.bool true)) (.tmp 22), none⟩, ⟨some 24, .mv (.tmp 23), none⟩, ⟨some 25, .mv (.tmp 4), some (24, true)⟩, ⟨some 26, .bin 21 .lss (.tmp 25) (.const (.int .i32 48)), some (24, true)⟩, ⟨some 27, .mv (.tmp 26), some (24, true)⟩, ⟨some 28, .mv (.tmp 4), some (27, false)⟩, ⟨some 29, .bin 21 .gtr (.tmp 28) (.const (.int .i32 57)), some (27, false)⟩, ⟨some 30, .pick 27 (.const (.bool true)) (.tmp 29), some (24, true)⟩, ⟨some 31, .pick 24 (.tmp 30) (.const (.bool false)), none⟩]
def Xn131_28 : C := regL [2] none [⟨some 2, .mv (.const (.bool false)), none⟩]
def Xn131_27 : C := .seq Xn131_28 .ret
def Xn131_26 : C := .cond (.tmp 31) Xn131_27 .skip
def Xn131_24 : C := .seq Xn131_25 Xn131_26
def Xn131_22 : C := .seq Xn131_23 Xn131_24
def Xn131_21 : C := .block 1 Xn131_22
def Xn131_17 : C := seqL [14, 15] Xn131_18 Xn131_21
def Xn131_15 : C := .seq Xn131_16 Xn131_17
def Xn131_14 : C := loopL [14] Xn131_15
def Xn131_13 : C := .block 0 Xn131_14
def Xn131_11 : C := .seq Xn131_12 Xn131_13
def Xn131_32 : C := regL [2] none [⟨some 2, .mv (.const (.bool true)), none⟩]
def Xn131_31 : C := .seq Xn131_32 .ret
def Xn131_10 : C := seqL [] Xn131_11 Xn131_31
def Xn131_2 : C := seqL [0] Xn131_3 Xn131_10
def Xn131_0 : C := .seq Xn131_1 Xn131_2
theorem Xt131 : Text Try.prog 131 Xn131_0 32 1 [.t 2] := ⟨⟨Try.f131, [], Try.func131, by kernel_rfl, by kernel_rfl, by kernel_rfl, by kernel_rfl⟩⟩
def Xn132_1 : C := regL [0, 1, 2] none [⟨some 6, .mv (.const (.bool false)), none⟩]
def Xn132_3 : C := regL [6] none [⟨some 7, .mv (.tmp 0), none⟩, ⟨some 8, .mv (.tmp 1), none⟩, ⟨some 9, .bin 2 .geq (.tmp 7) (.tmp 8), none⟩, ⟨some 10, .mv (.tmp 9), none⟩, ⟨some 11, .mv (.tmp 0), some (10, true)⟩, ⟨some 12, .mv (.tmp 2), some (10, true)⟩, ⟨some 13, .bin 2 .leq (.tmp 11) (.tmp 12), some (10, true)⟩, ⟨some 14, .pick 10 (.tmp 13) (.const (.bool false)), none⟩, ⟨some 6, .mv (.tmp 14), none⟩]
def Xn132_2 : C := .seq Xn132_3 .ret
def Xn132_0 : C := .seq Xn132_1 Xn132_2
theorem Xt132 : Text Try.prog 132 Xn132_0 15 3 [.t 6] := ⟨⟨Try.f132, [], Try.func132, by kernel_rfl, by kernel_rfl, by kernel_rfl, by kernel_rfl⟩⟩
def Xn133_1 : C := regL [1] none [⟨some 1, .box true 162 (.tmp 0), none⟩, ⟨some 2, .mv (.const (.bool false)), none⟩]
def Xn133_3 : C := regL [1, 3, 4] (some [0, 1, 0, 4, 0, 16, 63, 0, 128, 0, 512, 0, 2048, 8064, 0, 0, 49279, 131071]) [⟨some 7, .fa 0 (.tmp 1), none⟩, ⟨some 8, .ld 2 1 false (.tmp 7), none⟩, ⟨some 9, .fa 1 (.tmp 1), none⟩, ⟨some 10, .ld 2 1 false (.tmp 9), none⟩, ⟨some 11, .fa 2 (.tmp 1), none⟩, ⟨some 12, .ld 2 1 false (.tmp 11), none⟩, ⟨some 13, .bld (.agg #[.int .i64 0, .int .i64 0, .int .i64 0]) [(0, 1, .tmp 8), (1, 1, .tmp 10), (2, 1, .tmp 12)], none⟩, ⟨some 14, .fa 3 (.tmp 1), none⟩, ⟨some 15, .ld 2 1 false (.tmp 14), none⟩, ⟨some 16, .fa 4 (.tmp 1), none⟩, ⟨some 17, .ld 2 1 false (.tmp 16), none⟩, ⟨some 18, .fa 5 (.tmp 1), none⟩, ⟨some 19, .ld 2 1 false (.tmp 18), none⟩, ⟨some 20, .bld (.agg #[.int .i64 0, .int .i64 0, .int .i64 0]) [(0, 1, .tmp 15), (1, 1, .tmp 17), (2, 1, .tmp 19)], none⟩, ⟨some 3, .alc 30 (.agg #[.int .i64 0, .int .i64 0, .int .i64 0]), none⟩, ⟨some 4, .alc 30 (.agg #[.int .i64 0, .int .i64 0, .int .i64 0]), none⟩, ⟨none, .st 30 3 (.tmp 3) (.tmp 13), none⟩, ⟨none, .st 30 3 (.tmp 4) (.tmp 20), none⟩]
def Xn133_5 : C := regL [1, 3, 4, 5] none [⟨some 21, .bld (.agg #[.int .i64 0, .int .i64 0, .int .i64 0]) [(0, 1, .const (.int .i64 (-131072))), (1, 1, .const (.int .i64 (-131072))), (2, 1, .const (.int .i64 0))], none⟩, ⟨some 5, .alc 30 (.agg #[.int .i64 0, .int .i64 0, .int .i64 0]), none⟩, ⟨none, .st 30 3 (.tmp 5) (.tmp 21), none⟩]
def Xn133_8 : C := regL [1, 3, 4, 5, 22] none [⟨some 22, .mv (.const (.int .i64 0)), none⟩]
def Xn133_12 : C := regL [1, 3, 4, 5, 22, 23] none [⟨some 23, .bin 3 .lss (.tmp 22) (.const (.int .i64 3)), none⟩]
def Xn133_14 : C := .cond (.tmp 23) .skip (.exit 0)
def Xn133_20 : C := regL [1, 3, 4, 5, 6, 22] none [⟨some 24, .mv (.tmp 22), none⟩, ⟨some 6, .mv (.tmp 24), none⟩]
def Xn133_22 : C := regL [1, 3, 4, 5, 22, 48] (some [0, 1, 3, 0, 8, 24, 63, 127, 255, 511, 1023, 2047, 4095, 8191, 16383, 32767, 65535, 131071, 32767, 294911, 819199, 1867775, 4194303, 8388607]) [⟨some 25, .mv (.tmp 6), none⟩, ⟨some 26, .iaa 3 1 (.tmp 3) (.tmp 25), none⟩, ⟨some 27, .ld 2 1 false (.tmp 26), none⟩, ⟨some 28, .mv (.tmp 6), none⟩, ⟨some 29, .iaa 3 1 (.tmp 5) (.tmp 28), none⟩, ⟨some 30, .ld 2 1 false (.tmp 29), none⟩, ⟨some 31, .call 132 [.tmp 27, .tmp 30, .const (.int .i64 131072)], none⟩, ⟨some 32, .un .not (.tmp 31), none⟩, ⟨some 33, .mv (.tmp 32), none⟩, ⟨some 34, .mv (.tmp 6), some (33, false)⟩, ⟨some 35, .iaa 3 1 (.tmp 4) (.tmp 34), some (33, false)⟩, ⟨some 36, .ld 2 1 false (.tmp 35), some (33, false)⟩, ⟨some 37, .bin 2 .lss (.tmp 36) (.const (.int .i64 1)), some (33, false)⟩, ⟨some 38, .pick 33 (.const (.bool true)) (.tmp 37), none⟩, ⟨some 39, .mv (.tmp 38), none⟩, ⟨some 40, .mv (.tmp 6), some (39, false)⟩, ⟨some 41, .iaa 3 1 (.tmp 4) (.tmp 40), some (39, false)⟩, ⟨some 42, .ld 2 1 false (.tmp 41), some (39, false)⟩, ⟨some 43, .mv (.tmp 6), some (39, false)⟩, ⟨some 44, .iaa 3 1 (.tmp 3) (.tmp 43), some (39, false)⟩, ⟨some 45, .ld 2 1 false (.tmp 44), some (39, false)⟩, ⟨some 46, .bin 2 .sub (.const (.int .i64 131072)) (.tmp 45), some (39, false)⟩, ⟨some 47, .bin 2 .gtr (.tmp 42) (.tmp 46), some (39, false)⟩, ⟨some 48, .pick 39 (.const (.bool true)) (.tmp 47), none⟩]
def Xn133_25 : C := regL [2] none [⟨some 2, .mv (.const (.bool false)), none⟩]
def Xn133_24 : C := .seq Xn133_25 .ret
def Xn133_23 : C := .cond (.tmp 48) Xn133_24 .skip
def Xn133_21 : C := .seq Xn133_22 Xn133_23
def Xn133_19 : C := .seq Xn133_20 Xn133_21
def Xn133_18 : C := .block 1 Xn133_19
def Xn133_28 : C := regL [1, 3, 4, 5, 22] none [⟨some 49, .bin 3 .add (.tmp 22) (.const (.int .i64 1)), none⟩, ⟨some 22, .mv (.tmp 49), none⟩]
def Xn133_17 : C := seqL [1, 3, 4, 5, 22] Xn133_18 Xn133_28
def Xn133_13 : C := seqL [1, 3, 4, 5, 22] Xn133_14 Xn133_17
def Xn133_11 : C := .seq Xn133_12 Xn133_13
def Xn133_10 : C := loopL [1, 3, 4, 5, 22] Xn133_11
def Xn133_9 : C := .block 0 Xn133_10
def Xn133_7 : C := .seq Xn133_8 Xn133_9
def Xn133_30 : C := regL [2] none [⟨some 50, .fa 6 (.tmp 1), none⟩, ⟨some 51, .ld 2 1 false (.tmp 50), none⟩, ⟨some 52, .call 132 [.tmp 51, .const (.int .i64 0), .const (.int .i64 16777216)], none⟩, ⟨some 2, .mv (.tmp 52), none⟩]
def Xn133_29 : C := .seq Xn133_30 .ret
def Xn133_6 : C := seqL [1] Xn133_7 Xn133_29
def Xn133_4 : C := .seq Xn133_5 Xn133_6
def Xn133_2 : C := .seq Xn133_3 Xn133_4
def Xn133_0 : C := .seq Xn133_1 Xn133_2
theorem Xt133 : Text Try.prog 133 Xn133_0 53 1 [.t 2] := ⟨⟨Try.f133, [1], Try.func133, by kernel_rfl, by kernel_rfl, by kernel_rfl, by kernel_rfl⟩⟩
def Xn134_1 : C := regL [1] none [⟨some 1, .box true 165 (.tmp 0), none⟩, ⟨some 2, .mv (.const (.bool false)), none⟩]
def Xn134_3 : C := regL [2] none [⟨some 3, .fa 0 (.tmp 1), none⟩, ⟨some 4, .ld 2 1 false (.tmp 3), none⟩, ⟨some 5, .call 132 [.tmp 4, .const (.int .i64 (-131072)), .const (.int .i64 131072)], none⟩, ⟨some 6, .mv (.tmp 5), none⟩, ⟨some 7, .fa 1 (.tmp 1), some (6, true)⟩, ⟨some 8, .ld 2 1 false (.tmp 7), some (6, true)⟩, ⟨some 9, .call 132 [.tmp 8, .const (.int .i64 (-131072)), .const (.int .i64 131072)], some (6, true)⟩, ⟨some 10, .pick 6 (.tmp 9) (.const (.bool false)), none⟩, ⟨some 11, .mv (.tmp 10), none⟩, ⟨some 12, .fa 2 (.tmp 1), some (11, true)⟩, ⟨some 13, .ld 2 1 false (.tmp 12), some (11, true)⟩, ⟨some 14, .call 132 [.tmp 13, .const (.int .i64 0), .const (.int .i64 131072)], some (11, true)⟩, ⟨some 15, .pick 11 (.tmp 14) (.const (.bool false)), none⟩, ⟨some 16, .mv (.tmp 15), none⟩, ⟨some 17, .fa 3 (.tmp 1), some (16, true)⟩, ⟨some 18, .ld 2 1 false (.tmp 17), some (16, true)⟩, ⟨some 19, .call 132 [.tmp 18, .const (.int .i64 0), .const (.int .i64 4194304)], some (16, true)⟩, ⟨some 20, .pick 16 (.tmp 19) (.const (.bool false)), none⟩, ⟨some 2, .mv (.tmp 20), none⟩]
def Xn134_2 : C := .seq Xn134_3 .ret
def Xn134_0 : C := .seq Xn134_1 Xn134_2
theorem Xt134 : Text Try.prog 134 Xn134_0 21 1 [.t 2] := ⟨⟨Try.f134, [1], Try.func134, by kernel_rfl, by kernel_rfl, by kernel_rfl, by kernel_rfl⟩⟩
def Xn135_1 : C := regL [0, 3] none [⟨some 3, .box true 162 (.tmp 1), none⟩]
def Xn135_3 : C := regL [0, 3, 4] none [⟨some 6, .ld 162 7 true (.tmp 3), none⟩, ⟨some 7, .call 146 [.tmp 6], none⟩, ⟨some 4, .alc 177 (.agg #[.int .i64 0, .int .i64 0, .int .i64 0, .int .i64 0, .int .i64 0, .int .i64 0]), none⟩, ⟨none, .st 177 6 (.tmp 4) (.tmp 7), none⟩]
def Xn135_5 : C := regL [0, 3, 4] (some [0, 1, 3, 7, 0, 16, 63, 127, 255, 511]) [⟨some 8, .mv (.tmp 0), none⟩, ⟨some 9, .nilc (.tmp 8), none⟩, ⟨some 10, .fa 0 (.tmp 9), none⟩, ⟨some 11, .ld 2 1 false (.tmp 10), none⟩, ⟨some 12, .fa 6 (.tmp 3), none⟩, ⟨some 13, .ld 2 1 false (.tmp 12), none⟩, ⟨some 14, .bin 2 .add (.tmp 11) (.tmp 13), none⟩, ⟨some 15, .nilc (.tmp 8), none⟩, ⟨some 16, .fa 0 (.tmp 15), none⟩, ⟨none, .st 2 1 (.tmp 16) (.tmp 14), none⟩]
def Xn135_7 : C := regL [0, 3, 4, 17] none [⟨some 17, .mv (.const (.int .i64 0)), none⟩]
def Xn135_11 : C := regL [0, 3, 4, 17, 18] none [⟨some 18, .bin 3 .lss (.tmp 17) (.const (.int .i64 3)), none⟩]
def Xn135_13 : C := .cond (.tmp 18) .skip (.exit 0)
def Xn135_19 : C := regL [0, 3, 4, 5, 17] none [⟨some 19, .mv (.tmp 17), none⟩, ⟨some 5, .mv (.tmp 19), none⟩]
def Xn135_20 : C := regL [0, 3, 4, 17] (some [0, 0, 1, 5, 15, 31, 0, 64, 0, 0, 768, 1792, 0, 0, 12288, 28672, 65280, 131008, 262143, 1, 524289, 2097151, 4194303]) [⟨some 20, .mv (.tmp 0), none⟩, ⟨some 21, .mv (.tmp 5), none⟩, ⟨some 22, .nilc (.tmp 20), none⟩, ⟨some 23, .fa 1 (.tmp 22), none⟩, ⟨some 24, .iaa 3 1 (.tmp 23) (.tmp 21), none⟩, ⟨some 25, .ld 2 1 false (.tmp 24), none⟩, ⟨some 26, .fa 6 (.tmp 3), none⟩, ⟨some 27, .ld 2 1 false (.tmp 26), none⟩, ⟨some 28, .mv (.tmp 5), none⟩, ⟨some 29, .fa 0 (.tmp 4), none⟩, ⟨some 30, .iaa 3 1 (.tmp 29) (.tmp 28), none⟩, ⟨some 31, .ld 2 1 false (.tmp 30), none⟩, ⟨some 32, .mv (.tmp 5), none⟩, ⟨some 33, .fa 3 (.tmp 4), none⟩, ⟨some 34, .iaa 3 1 (.tmp 33) (.tmp 32), none⟩, ⟨some 35, .ld 2 1 false (.tmp 34), none⟩, ⟨some 36, .bin 2 .add (.tmp 31) (.tmp 35), none⟩, ⟨some 37, .bin 2 .mul (.tmp 27) (.tmp 36), none⟩, ⟨some 38, .bin 2 .add (.tmp 25) (.tmp 37), none⟩, ⟨some 39, .nilc (.tmp 20), none⟩, ⟨some 40, .fa 1 (.tmp 39), none⟩, ⟨some 41, .iaa 3 1 (.tmp 40) (.tmp 21), none⟩, ⟨none, .st 2 1 (.tmp 41) (.tmp 38), none⟩]
def Xn135_18 : C := .seq Xn135_19 Xn135_20
def Xn135_17 : C := .block 1 Xn135_18
def Xn135_21 : C := regL [0, 3, 4, 17] none [⟨some 42, .bin 3 .add (.tmp 17) (.const (.int .i64 1)), none⟩, ⟨some 17, .mv (.tmp 42), none⟩]
def Xn135_16 : C := seqL [0, 3, 4, 17] Xn135_17 Xn135_21
def Xn135_12 : C := seqL [0, 3, 4, 17] Xn135_13 Xn135_16
def Xn135_10 : C := .seq Xn135_11 Xn135_12
def Xn135_9 : C := loopL [0, 3, 4, 17] Xn135_10
def Xn135_8 : C := .block 0 Xn135_9
def Xn135_6 : C := .seq Xn135_7 Xn135_8
def Xn135_4 : C := .seq Xn135_5 Xn135_6
def Xn135_2 : C := .seq Xn135_3 Xn135_4
def Xn135_0 : C := .seq Xn135_1 Xn135_2
theorem Xt135 : Text Try.prog 135 Xn135_0 43 2 [] := ⟨⟨Try.f135, [3], Try.func135, by kernel_rfl, by kernel_rfl, by kernel_rfl, by kernel_rfl⟩⟩
def Xn136_1 : C := regL [1] none [⟨some 1, .box true 162 (.tmp 0), none⟩, ⟨some 2, .mv (.const (.bool false)), none⟩]
def Xn136_3 : C := regL [2] none [⟨some 3, .fa 0 (.tmp 1), none⟩, ⟨some 4, .ld 2 1 false (.tmp 3), none⟩, ⟨some 5, .call 139 [.tmp 4, .const (.int .i64 (-131072)), .const (.int .i64 131072)], none⟩, ⟨some 6, .mv (.tmp 5), none⟩, ⟨some 7, .fa 1 (.tmp 1), some (6, true)⟩, ⟨some 8, .ld 2 1 false (.tmp 7), some (6, true)⟩, ⟨some 9, .call 139 [.tmp 8, .const (.int .i64 (-131072)), .const (.int .i64 131072)], some (6, true)⟩, ⟨some 10, .pick 6 (.tmp 9) (.const (.bool false)), none⟩, ⟨some 11, .mv (.tmp 10), none⟩, ⟨some 12, .fa 2 (.tmp 1), some (11, true)⟩, ⟨some 13, .ld 2 1 false (.tmp 12), some (11, true)⟩, ⟨some 14, .call 139 [.tmp 13, .const (.int .i64 0), .const (.int .i64 131072)], some (11, true)⟩, ⟨some 15, .pick 11 (.tmp 14) (.const (.bool false)), none⟩, ⟨some 16, .mv (.tmp 15), none⟩, ⟨some 17, .fa 3 (.tmp 1), some (16, true)⟩, ⟨some 18, .ld 2 1 false (.tmp 17), some (16, true)⟩, ⟨some 19, .bin 2 .geq (.tmp 18) (.const (.int .i64 1)), some (16, true)⟩, ⟨some 20, .pick 16 (.tmp 19) (.const (.bool false)), none⟩, ⟨some 21, .mv (.tmp 20), none⟩, ⟨some 22, .fa 4 (.tmp 1), some (21, true)⟩, ⟨some 23, .ld 2 1 false (.tmp 22), some (21, true)⟩, ⟨some 24, .bin 2 .geq (.tmp 23) (.const (.int .i64 1)), some (21, true)⟩, ⟨some 25, .pick 21 (.tmp 24) (.const (.bool false)), none⟩, ⟨some 26, .mv (.tmp 25), none⟩, ⟨some 27, .fa 5 (.tmp 1), some (26, true)⟩, ⟨some 28, .ld 2 1 false (.tmp 27), some (26, true)⟩, ⟨some 29, .bin 2 .geq (.tmp 28) (.const (.int .i64 1)), some (26, true)⟩, ⟨some 30, .pick 26 (.tmp 29) (.const (.bool false)), none⟩, ⟨some 31, .mv (.tmp 30), none⟩, ⟨some 32, .fa 3 (.tmp 1), some (31, true)⟩, ⟨some 33, .ld 2 1 false (.tmp 32), some (31, true)⟩, ⟨some 34, .fa 0 (.tmp 1), some (31, true)⟩, ⟨some 35, .ld 2 1 false (.tmp 34), some (31, true)⟩, ⟨some 36, .bin 2 .sub (.const (.int .i64 131072)) (.tmp 35), some (31, true)⟩, ⟨some 37, .bin 2 .leq (.tmp 33) (.tmp 36), some (31, true)⟩, ⟨some 38, .pick 31 (.tmp 37) (.const (.bool false)), none⟩, ⟨some 39, .mv (.tmp 38), none⟩, ⟨some 40, .fa 4 (.tmp 1), some (39, true)⟩, ⟨some 41, .ld 2 1 false (.tmp 40), some (39, true)⟩, ⟨some 42, .fa 1 (.tmp 1), some (39, true)⟩, ⟨some 43, .ld 2 1 false (.tmp 42), some (39, true)⟩, ⟨some 44, .bin 2 .sub (.const (.int .i64 131072)) (.tmp 43), some (39, true)⟩, ⟨some 45, .bin 2 .leq (.tmp 41) (.tmp 44), some (39, true)⟩, ⟨some 46, .pick 39 (.tmp 45) (.const (.bool false)), none⟩, ⟨some 47, .mv (.tmp 46), none⟩, ⟨some 48, .fa 5 (.tmp 1), some (47, true)⟩, ⟨some 49, .ld 2 1 false (.tmp 48), some (47, true)⟩, ⟨some 50, .fa 2 (.tmp 1), some (47, true)⟩, ⟨some 51, .ld 2 1 false (.tmp 50), some (47, true)⟩, ⟨some 52, .bin 2 .sub (.const (.int .i64 131072)) (.tmp 51), some (47, true)⟩, ⟨some 53, .bin 2 .leq (.tmp 49) (.tmp 52), some (47, true)⟩, ⟨some 54, .pick 47 (.tmp 53) (.const (.bool false)), none⟩, ⟨some 55, .mv (.tmp 54), none⟩, ⟨some 56, .fa 6 (.tmp 1), some (55, true)⟩, ⟨some 57, .ld 2 1 false (.tmp 56), some (55, true)⟩, ⟨some 58, .call 139 [.tmp 57, .const (.int .i64 0), .const (.int .i64 16777216)], some (55, true)⟩, ⟨some 59, .pick 55 (.tmp 58) (.const (.bool false)), none⟩, ⟨some 2, .mv (.tmp 59), none⟩]
def Xn136_2 : C := .seq Xn136_3 .ret
def Xn136_0 : C := .seq Xn136_1 Xn136_2
theorem Xt136 : Text Try.prog 136 Xn136_0 60 1 [.t 2] := ⟨⟨Try.f136, [1], Try.func136, by kernel_rfl, by kernel_rfl, by kernel_rfl, by kernel_rfl⟩⟩
def Xn137_1 : C := regL [1] none [⟨some 1, .box true 165 (.tmp 0), none⟩, ⟨some 2, .mv (.const (.bool false)), none⟩]
def Xn137_3 : C := regL [2] none [⟨some 3, .fa 0 (.tmp 1), none⟩, ⟨some 4, .ld 2 1 false (.tmp 3), none⟩, ⟨some 5, .call 139 [.tmp 4, .const (.int .i64 (-131072)), .const (.int .i64 131072)], none⟩, ⟨some 6, .mv (.tmp 5), none⟩, ⟨some 7, .fa 1 (.tmp 1), some (6, true)⟩, ⟨some 8, .ld 2 1 false (.tmp 7), some (6, true)⟩, ⟨some 9, .call 139 [.tmp 8, .const (.int .i64 (-131072)), .const (.int .i64 131072)], some (6, true)⟩, ⟨some 10, .pick 6 (.tmp 9) (.const (.bool false)), none⟩, ⟨some 11, .mv (.tmp 10), none⟩, ⟨some 12, .fa 2 (.tmp 1), some (11, true)⟩, ⟨some 13, .ld 2 1 false (.tmp 12), some (11, true)⟩, ⟨some 14, .call 139 [.tmp 13, .const (.int .i64 0), .const (.int .i64 131072)], some (11, true)⟩, ⟨some 15, .pick 11 (.tmp 14) (.const (.bool false)), none⟩, ⟨some 16, .mv (.tmp 15), none⟩, ⟨some 17, .fa 3 (.tmp 1), some (16, true)⟩, ⟨some 18, .ld 2 1 false (.tmp 17), some (16, true)⟩, ⟨some 19, .call 139 [.tmp 18, .const (.int .i64 0), .const (.int .i64 4194304)], some (16, true)⟩, ⟨some 20, .pick 16 (.tmp 19) (.const (.bool false)), none⟩, ⟨some 2, .mv (.tmp 20), none⟩]
def Xn137_2 : C := .seq Xn137_3 .ret
def Xn137_0 : C := .seq Xn137_1 Xn137_2
theorem Xt137 : Text Try.prog 137 Xn137_0 21 1 [.t 2] := ⟨⟨Try.f137, [1], Try.func137, by kernel_rfl, by kernel_rfl, by kernel_rfl, by kernel_rfl⟩⟩
def Xn138_1 : C := regL [0] none [⟨some 2, .mv (.const (.bool false)), none⟩]
def Xn138_4 : C := regL [0, 11] none [⟨some 4, .mv (.tmp 0), none⟩, ⟨some 5, .slen (.tmp 4), none⟩, ⟨some 6, .bin 3 .lss (.tmp 5) (.const (.int .i64 1)), none⟩, ⟨some 7, .mv (.tmp 6), none⟩, ⟨some 8, .mv (.tmp 0), some (7, false)⟩, ⟨some 9, .slen (.tmp 8), some (7, false)⟩, ⟨some 10, .bin 3 .gtr (.tmp 9) (.const (.int .i64 20)), some (7, false)⟩, ⟨some 11, .pick 7 (.const (.bool true)) (.tmp 10), none⟩]
def Xn138_7 : C := regL [2] none [⟨some 2, .mv (.const (.bool false)), none⟩]
def Xn138_6 : C := .seq Xn138_7 .ret
def Xn138_5 : C := .cond (.tmp 11) Xn138_6 .skip
def Xn138_3 : C := .seq Xn138_4 Xn138_5
def Xn138_12 : C := regL [0, 3] none [⟨some 3, .mv (.const (.int .i64 0)), none⟩]
def Xn138_17 : C := regL [0, 3, 15] none [⟨some 12, .mv (.tmp 3), none⟩, ⟨some 13, .mv (.tmp 0), none⟩, ⟨some 14, .slen (.tmp 13), none⟩, ⟨some 15, .bin 3 .lss (.tmp 12) (.tmp 14), none⟩]
def Xn138_18 : C := .cond (.tmp 15) .skip (.exit 0)
def Xn138_16 : C := .seq Xn138_17 Xn138_18
def Xn138_24 : C := regL [0, 3, 40] none [⟨some 18, .mv (.tmp 0), none⟩, ⟨some 19, .mv (.tmp 3), none⟩, ⟨some 20, .sidx (.tmp 18) (.tmp 19), none⟩, ⟨some 21, .bin 5 .geq (.tmp 20) (.const (.int .u8 97)), none⟩, ⟨some 22, .mv (.tmp 21), none⟩, ⟨some 23, .mv (.tmp 0), some (22, true)⟩, ⟨some 24, .mv (.tmp 3), some (22, true)⟩, ⟨some 25, .sidx (.tmp 23) (.tmp 24), some (22, true)⟩, ⟨some 26, .bin 5 .leq (.tmp 25) (.const (.int .u8 122)), some (22, true)⟩, ⟨some 27, .pick 22 (.tmp 26) (.const (.bool false)), none⟩, ⟨some 28, .mv (.tmp 27), none⟩, ⟨some 29, .mv (.tmp 0), some (28, false)⟩, ⟨some 30, .mv (.tmp 3), some (28, false)⟩, ⟨some 31, .sidx (.tmp 29) (.tmp 30), some (28, false)⟩, ⟨some 32, .bin 5 .geq (.tmp 31) (.const (.int .u8 48)), some (28, false)⟩, ⟨some 33, .mv (.tmp 32), some (28, false)⟩, ⟨some 34, .mv (.tmp 0), some (33, true)⟩, ⟨some 35, .mv (.tmp 3), some (33, true)⟩, ⟨some 36, .sidx (.tmp 34) (.tmp 35), some (33, true)⟩, ⟨some 37, .bin 5 .leq (.tmp 36) (.const (.int .u8 57)), some (33, true)⟩, ⟨some 38, .pick 33 (.tmp 37) (.const (.bool false)), some (28, false)⟩, ⟨some 39, .pick 28 (.const (.bool true)) (.tmp 38), none⟩, ⟨some 40, .un .not (.tmp 39), none⟩]
def Xn138_27 : C := regL [2] none [⟨some 2, .mv (.const (.bool false)), none⟩]
def Xn138_26 : C := .seq Xn138_27 .ret
def Xn138_25 : C := .cond (.tmp 40) Xn138_26 .skip
def Xn138_23 : C := .seq Xn138_24 Xn138_25
def Xn138_22 : C := .block 1 Xn138_23
def Xn138_30 : C := regL [0, 3] none [⟨some 16, .mv (.tmp 3), none⟩, ⟨some 17, .bin 3 .add (.tmp 16) (.const (.int .i64 1)), none⟩, ⟨some 3, .mv (.tmp 17), none⟩]
def Xn138_21 : C := seqL [0, 3] Xn138_22 Xn138_30
def Xn138_15 : C := seqL [0, 3] Xn138_16 Xn138_21
def Xn138_14 : C := loopL [0, 3] Xn138_15
def Xn138_13 : C := .block 0 Xn138_14
def Xn138_11 : C := .seq Xn138_12 Xn138_13
def Xn138_32 : C := regL [2] none [⟨some 2, .mv (.const (.bool true)), none⟩]
def Xn138_31 : C := .seq Xn138_32 .ret
def Xn138_10 : C := seqL [] Xn138_11 Xn138_31
def Xn138_2 : C := seqL [0] Xn138_3 Xn138_10
def Xn138_0 : C := .seq Xn138_1 Xn138_2
theorem Xt138 : Text Try.prog 138 Xn138_0 41 1 [.t 2] := ⟨⟨Try.f138, [], Try.func138, by kernel_rfl, by kernel_rfl, by kernel_rfl, by kernel_rfl⟩⟩
def Xn139_1 : C := regL [0, 1, 2] none [⟨some 6, .mv (.const (.bool false)), none⟩]
def Xn139_3 : C := regL [6] none [⟨some 7, .mv (.tmp 0), none⟩, ⟨some 8, .mv (.tmp 1), none⟩, ⟨some 9, .bin 2 .geq (.tmp 7) (.tmp 8), none⟩, ⟨some 10, .mv (.tmp 9), none⟩, ⟨some 11, .mv (.tmp 0), some (10, true)⟩, ⟨some 12, .mv (.tmp 2), some (10, true)⟩, ⟨some 13, .bin 2 .leq (.tmp 11) (.tmp 12), some (10, true)⟩, ⟨some 14, .pick 10 (.tmp 13) (.const (.bool false)), none⟩, ⟨some 6, .mv (.tmp 14), none⟩]
def Xn139_2 : C := .seq Xn139_3 .ret
def Xn139_0 : C := .seq Xn139_1 Xn139_2
theorem Xt139 : Text Try.prog 139 Xn139_0 15 3 [.t 6] := ⟨⟨Try.f139, [], Try.func139, by kernel_rfl, by kernel_rfl, by kernel_rfl, by kernel_rfl⟩⟩
def Xn143_1 : C := regL [0, 1] none [⟨some 4, .mv (.const (.int .u64 0)), none⟩, ⟨some 5, .mv (.const (.int .u64 0)), none⟩]
def Xn143_3 : C := regL [0, 1, 6] none [⟨some 14, .mv (.tmp 0), none⟩, ⟨some 15, .bin 170 .and (.tmp 14) (.const (.int .u64 4294967295)), none⟩, ⟨some 6, .mv (.tmp 15), none⟩]
def Xn143_5 : C := regL [0, 1, 6, 7] none [⟨some 16, .mv (.tmp 0), none⟩, ⟨some 17, .bin 170 .shr (.tmp 16) (.const (.int .u64 32)), none⟩, ⟨some 7, .mv (.tmp 17), none⟩]
def Xn143_7 : C := regL [0, 1, 6, 7, 8] none [⟨some 18, .mv (.tmp 1), none⟩, ⟨some 19, .bin 170 .and (.tmp 18) (.const (.int .u64 4294967295)), none⟩, ⟨some 8, .mv (.tmp 19), none⟩]
def Xn143_9 : C := regL [0, 1, 6, 7, 8, 9] none [⟨some 20, .mv (.tmp 1), none⟩, ⟨some 21, .bin 170 .shr (.tmp 20) (.const (.int .u64 32)), none⟩, ⟨some 9, .mv (.tmp 21), none⟩]
def Xn143_11 : C := regL [0, 1, 6, 7, 8, 9, 10] none [⟨some 22, .mv (.tmp 6), none⟩, ⟨some 23, .mv (.tmp 8), none⟩, ⟨some 24, .bin 170 .mul (.tmp 22) (.tmp 23), none⟩, ⟨some 10, .mv (.tmp 24), none⟩]
def Xn143_13 : C := regL [0, 1, 6, 7, 9, 11] none [⟨some 25, .mv (.tmp 7), none⟩, ⟨some 26, .mv (.tmp 8), none⟩, ⟨some 27, .bin 170 .mul (.tmp 25) (.tmp 26), none⟩, ⟨some 28, .mv (.tmp 10), none⟩, ⟨some 29, .bin 170 .shr (.tmp 28) (.const (.int .u64 32)), none⟩, ⟨some 30, .bin 170 .add (.tmp 27) (.tmp 29), none⟩, ⟨some 11, .mv (.tmp 30), none⟩]
def Xn143_15 : C := regL [0, 1, 6, 7, 9, 11, 12] none [⟨some 31, .mv (.tmp 11), none⟩, ⟨some 32, .bin 170 .and (.tmp 31) (.const (.int .u64 4294967295)), none⟩, ⟨some 12, .mv (.tmp 32), none⟩]
def Xn143_17 : C := regL [0, 1, 6, 7, 9, 12, 13] none [⟨some 33, .mv (.tmp 11), none⟩, ⟨some 34, .bin 170 .shr (.tmp 33) (.const (.int .u64 32)), none⟩, ⟨some 13, .mv (.tmp 34), none⟩]
def Xn143_19 : C := regL [0, 1, 7, 9, 12, 13] none [⟨some 35, .mv (.tmp 12), none⟩, ⟨some 36, .mv (.tmp 6), none⟩, ⟨some 37, .mv (.tmp 9), none⟩, ⟨some 38, .bin 170 .mul (.tmp 36) (.tmp 37), none⟩, ⟨some 39, .bin 170 .add (.tmp 35) (.tmp 38), none⟩, ⟨some 12, .mv (.tmp 39), none⟩]
def Xn143_21 : C := regL [0, 1, 4] none [⟨some 40, .mv (.tmp 7), none⟩, ⟨some 41, .mv (.tmp 9), none⟩, ⟨some 42, .bin 170 .mul (.tmp 40) (.tmp 41), none⟩, ⟨some 43, .mv (.tmp 13), none⟩, ⟨some 44, .bin 170 .add (.tmp 42) (.tmp 43), none⟩, ⟨some 45, .mv (.tmp 12), none⟩, ⟨some 46, .bin 170 .shr (.tmp 45) (.const (.int .u64 32)), none⟩, ⟨some 47, .bin 170 .add (.tmp 44) (.tmp 46), none⟩, ⟨some 4, .mv (.tmp 47), none⟩]
def Xn143_23 : C := regL [4, 5] none [⟨some 48, .mv (.tmp 0), none⟩, ⟨some 49, .mv (.tmp 1), none⟩, ⟨some 50, .bin 170 .mul (.tmp 48) (.tmp 49), none⟩, ⟨some 5, .mv (.tmp 50), none⟩]
def Xn143_22 : C := .seq Xn143_23 .ret
def Xn143_20 : C := .seq Xn143_21 Xn143_22
def Xn143_18 : C := .seq Xn143_19 Xn143_20
def Xn143_16 : C := .seq Xn143_17 Xn143_18
def Xn143_14 : C := .seq Xn143_15 Xn143_16
def Xn143_12 : C := .seq Xn143_13 Xn143_14
def Xn143_10 : C := .seq Xn143_11 Xn143_12
def Xn143_8 : C := .seq Xn143_9 Xn143_10
def Xn143_6 : C := .seq Xn143_7 Xn143_8
def Xn143_4 : C := .seq Xn143_5 Xn143_6
def Xn143_2 : C := .seq Xn143_3 Xn143_4
def Xn143_0 : C := .seq Xn143_1 Xn143_2
theorem Xt143 : Text Try.prog 143 Xn143_0 51 2 [.t 4, .t 5] := ⟨⟨Try.f143, [], Try.func143, by kernel_rfl, by kernel_rfl, by kernel_rfl, by kernel_rfl⟩⟩
def Xn144_1 : C := regL [0, 1, 2] none [⟨some 6, .mv (.const (.int .u64 0)), none⟩, ⟨some 7, .mv (.const (.int .u64 0)), none⟩]
def Xn144_4 : C := regL [0, 1, 2, 20] none [⟨some 19, .mv (.tmp 2), none⟩, ⟨some 20, .bin 170 .eql (.tmp 19) (.const (.int .u64 0)), none⟩]
def Xn144_6 : C := regL [0, 1, 2] none [⟨some 21, .ld 183 1 false (.global 0), none⟩, ⟨none, .dead, none⟩]
def Xn144_5 : C := .cond (.tmp 20) Xn144_6 .skip
def Xn144_3 : C := .seq Xn144_4 Xn144_5
def Xn144_10 : C := regL [0, 1, 2, 24] none [⟨some 22, .mv (.tmp 2), none⟩, ⟨some 23, .mv (.tmp 0), none⟩, ⟨some 24, .bin 170 .leq (.tmp 22) (.tmp 23), none⟩]
def Xn144_12 : C := regL [0, 1, 2] none [⟨some 25, .ld 183 1 false (.global 1), none⟩, ⟨none, .dead, none⟩]
def Xn144_11 : C := .cond (.tmp 24) Xn144_12 .skip
def Xn144_9 : C := .seq Xn144_10 Xn144_11
def Xn144_16 : C := regL [0, 1, 2, 27] none [⟨some 26, .mv (.tmp 0), none⟩, ⟨some 27, .bin 170 .eql (.tmp 26) (.const (.int .u64 0)), none⟩]
def Xn144_19 : C := regL [6, 7] (some [0, 0, 3, 0, 0, 24, 7, 127]) [⟨some 28, .mv (.tmp 1), none⟩, ⟨some 29, .mv (.tmp 2), none⟩, ⟨some 30, .bin 170 .quo (.tmp 28) (.tmp 29), none⟩, ⟨some 31, .mv (.tmp 1), none⟩, ⟨some 32, .mv (.tmp 2), none⟩, ⟨some 33, .bin 170 .rem (.tmp 31) (.tmp 32), none⟩, ⟨some 6, .mv (.tmp 30), none⟩, ⟨some 7, .mv (.tmp 33), none⟩]
def Xn144_18 : C := .seq Xn144_19 .ret
def Xn144_17 : C := .cond (.tmp 27) Xn144_18 .skip
def Xn144_15 : C := .seq Xn144_16 Xn144_17
def Xn144_23 : C := regL [0, 1, 2, 8] none [⟨some 34, .mv (.tmp 2), none⟩, ⟨some 35, .call 150 [.tmp 34], none⟩, ⟨some 36, .cvt .u64 (.tmp 35), none⟩, ⟨some 8, .mv (.tmp 36), none⟩]
def Xn144_25 : C := regL [0, 1, 2, 8] none [⟨some 37, .mv (.tmp 2), none⟩, ⟨some 38, .mv (.tmp 8), none⟩, ⟨some 39, .bin 170 .shl (.tmp 37) (.tmp 38), none⟩, ⟨some 2, .mv (.tmp 39), none⟩]
def Xn144_27 : C := regL [0, 1, 2, 8, 9] none [⟨some 40, .mv (.tmp 2), none⟩, ⟨some 41, .bin 170 .shr (.tmp 40) (.const (.int .u64 32)), none⟩, ⟨some 9, .mv (.tmp 41), none⟩]
def Xn144_29 : C := regL [0, 1, 2, 8, 9, 10] none [⟨some 42, .mv (.tmp 2), none⟩, ⟨some 43, .bin 170 .and (.tmp 42) (.const (.int .u64 4294967295)), none⟩, ⟨some 10, .mv (.tmp 43), none⟩]
def Xn144_31 : C := regL [1, 2, 8, 9, 10, 11] none [⟨some 44, .mv (.tmp 0), none⟩, ⟨some 45, .mv (.tmp 8), none⟩, ⟨some 46, .bin 170 .shl (.tmp 44) (.tmp 45), none⟩, ⟨some 47, .mv (.tmp 1), none⟩, ⟨some 48, .mv (.tmp 8), none⟩, ⟨some 49, .bin 157 .sub (.const (.int .u64 64)) (.tmp 48), none⟩, ⟨some 50, .bin 170 .shr (.tmp 47) (.tmp 49), none⟩, ⟨some 51, .bin 170 .or (.tmp 46) (.tmp 50), none⟩, ⟨some 11, .mv (.tmp 51), none⟩]
def Xn144_33 : C := regL [2, 8, 9, 10, 11, 12] none [⟨some 52, .mv (.tmp 1), none⟩, ⟨some 53, .mv (.tmp 8), none⟩, ⟨some 54, .bin 170 .shl (.tmp 52) (.tmp 53), none⟩, ⟨some 12, .mv (.tmp 54), none⟩]
def Xn144_35 : C := regL [2, 8, 9, 10, 11, 12, 13] none [⟨some 55, .mv (.tmp 12), none⟩, ⟨some 56, .bin 170 .shr (.tmp 55) (.const (.int .u64 32)), none⟩, ⟨some 13, .mv (.tmp 56), none⟩]
def Xn144_37 : C := regL [2, 8, 9, 10, 11, 13, 14] none [⟨some 57, .mv (.tmp 12), none⟩, ⟨some 58, .bin 170 .and (.tmp 57) (.const (.int .u64 4294967295)), none⟩, ⟨some 14, .mv (.tmp 58), none⟩]
def Xn144_39 : C := regL [2, 8, 9, 10, 11, 13, 14, 15] none [⟨some 59, .mv (.tmp 11), none⟩, ⟨some 60, .mv (.tmp 9), none⟩, ⟨some 61, .bin 170 .quo (.tmp 59) (.tmp 60), none⟩, ⟨some 15, .mv (.tmp 61), none⟩]
def Xn144_41 : C := regL [2, 8, 9, 10, 11, 13, 14, 15, 16] none [⟨some 62, .mv (.tmp 11), none⟩, ⟨some 63, .mv (.tmp 15), none⟩, ⟨some 64, .mv (.tmp 9), none⟩, ⟨some 65, .bin 170 .mul (.tmp 63) (.tmp 64), none⟩, ⟨some 66, .bin 170 .sub (.tmp 62) (.tmp 65), none⟩, ⟨some 16, .mv (.tmp 66), none⟩]
def Xn144_47 : C := regL [2, 8, 9, 10, 11, 13, 14, 15, 16, 78] none [⟨some 67, .mv (.tmp 15), none⟩, ⟨some 68, .bin 170 .geq (.tmp 67) (.const (.int .u64 4294967296)), none⟩, ⟨some 69, .mv (.tmp 68), none⟩, ⟨some 70, .mv (.tmp 15), some (69, false)⟩, ⟨some 71, .mv (.tmp 10), some (69, false)⟩, ⟨some 72, .bin 170 .mul (.tmp 70) (.tmp 71), some (69, false)⟩, ⟨some 73, .mv (.tmp 16), some (69, false)⟩, ⟨some 74, .bin 170 .mul (.const (.int .u64 4294967296)) (.tmp 73), some (69, false)⟩, ⟨some 75, .mv (.tmp 13), some (69, false)⟩, ⟨some 76, .bin 170 .add (.tmp 74) (.tmp 75), some (69, false)⟩, ⟨some 77, .bin 170 .gtr (.tmp 72) (.tmp 76), some (69, false)⟩, ⟨some 78, .pick 69 (.const (.bool true)) (.tmp 77), none⟩]
def Xn144_48 : C := .cond (.tmp 78) .skip (.exit 0)
def Xn144_46 : C := .seq Xn144_47 Xn144_48
def Xn144_53 : C := regL [2, 8, 9, 10, 11, 13, 14, 15, 16] none [⟨some 79, .mv (.tmp 15), none⟩, ⟨some 80, .bin 170 .sub (.tmp 79) (.const (.int .u64 1)), none⟩, ⟨some 15, .mv (.tmp 80), none⟩]
def Xn144_55 : C := regL [2, 8, 9, 10, 11, 13, 14, 15, 16] none [⟨some 81, .mv (.tmp 16), none⟩, ⟨some 82, .mv (.tmp 9), none⟩, ⟨some 83, .bin 170 .add (.tmp 81) (.tmp 82), none⟩, ⟨some 16, .mv (.tmp 83), none⟩]
def Xn144_57 : C := regL [2, 8, 9, 10, 11, 13, 14, 15, 16, 85] none [⟨some 84, .mv (.tmp 16), none⟩, ⟨some 85, .bin 170 .geq (.tmp 84) (.const (.int .u64 4294967296)), none⟩]
def Xn144_58 : C := .cond (.tmp 85) (.exit 0) .skip
def Xn144_56 : C := .seq Xn144_57 Xn144_58
def Xn144_54 : C := .seq Xn144_55 Xn144_56
def Xn144_52 : C := .seq Xn144_53 Xn144_54
def Xn144_51 : C := .block 1 Xn144_52
def Xn144_45 : C := seqL [2, 8, 9, 10, 11, 13, 14, 15, 16] Xn144_46 Xn144_51
def Xn144_44 : C := loopL [2, 8, 9, 10, 11, 13, 14, 15, 16] Xn144_45
def Xn144_43 : C := .block 0 Xn144_44
def Xn144_62 : C := regL [2, 8, 9, 10, 14, 15, 17] none [⟨some 86, .mv (.tmp 11), none⟩, ⟨some 87, .bin 170 .mul (.tmp 86) (.const (.int .u64 4294967296)), none⟩, ⟨some 88, .mv (.tmp 13), none⟩, ⟨some 89, .bin 170 .add (.tmp 87) (.tmp 88), none⟩, ⟨some 90, .mv (.tmp 15), none⟩, ⟨some 91, .mv (.tmp 2), none⟩, ⟨some 92, .bin 170 .mul (.tmp 90) (.tmp 91), none⟩, ⟨some 93, .bin 170 .sub (.tmp 89) (.tmp 92), none⟩, ⟨some 17, .mv (.tmp 93), none⟩]
def Xn144_64 : C := regL [2, 8, 9, 10, 14, 15, 17, 18] none [⟨some 94, .mv (.tmp 17), none⟩, ⟨some 95, .mv (.tmp 9), none⟩, ⟨some 96, .bin 170 .quo (.tmp 94) (.tmp 95), none⟩, ⟨some 18, .mv (.tmp 96), none⟩]
def Xn144_66 : C := regL [2, 8, 9, 10, 14, 15, 16, 17, 18] none [⟨some 97, .mv (.tmp 17), none⟩, ⟨some 98, .mv (.tmp 18), none⟩, ⟨some 99, .mv (.tmp 9), none⟩, ⟨some 100, .bin 170 .mul (.tmp 98) (.tmp 99), none⟩, ⟨some 101, .bin 170 .sub (.tmp 97) (.tmp 100), none⟩, ⟨some 16, .mv (.tmp 101), none⟩]
def Xn144_72 : C := regL [2, 8, 9, 10, 14, 15, 16, 17, 18, 113] none [⟨some 102, .mv (.tmp 18), none⟩, ⟨some 103, .bin 170 .geq (.tmp 102) (.const (.int .u64 4294967296)), none⟩, ⟨some 104, .mv (.tmp 103), none⟩, ⟨some 105, .mv (.tmp 18), some (104, false)⟩, ⟨some 106, .mv (.tmp 10), some (104, false)⟩, ⟨some 107, .bin 170 .mul (.tmp 105) (.tmp 106), some (104, false)⟩, ⟨some 108, .mv (.tmp 16), some (104, false)⟩, ⟨some 109, .bin 170 .mul (.const (.int .u64 4294967296)) (.tmp 108), some (104, false)⟩, ⟨some 110, .mv (.tmp 14), some (104, false)⟩, ⟨some 111, .bin 170 .add (.tmp 109) (.tmp 110), some (104, false)⟩, ⟨some 112, .bin 170 .gtr (.tmp 107) (.tmp 111), some (104, false)⟩, ⟨some 113, .pick 104 (.const (.bool true)) (.tmp 112), none⟩]
def Xn144_73 : C := .cond (.tmp 113) .skip (.exit 2)
def Xn144_71 : C := .seq Xn144_72 Xn144_73
def Xn144_78 : C := regL [2, 8, 9, 10, 14, 15, 16, 17, 18] none [⟨some 114, .mv (.tmp 18), none⟩, ⟨some 115, .bin 170 .sub (.tmp 114) (.const (.int .u64 1)), none⟩, ⟨some 18, .mv (.tmp 115), none⟩]
def Xn144_80 : C := regL [2, 8, 9, 10, 14, 15, 16, 17, 18] none [⟨some 116, .mv (.tmp 16), none⟩, ⟨some 117, .mv (.tmp 9), none⟩, ⟨some 118, .bin 170 .add (.tmp 116) (.tmp 117), none⟩, ⟨some 16, .mv (.tmp 118), none⟩]
def Xn144_82 : C := regL [2, 8, 9, 10, 14, 15, 16, 17, 18, 120] none [⟨some 119, .mv (.tmp 16), none⟩, ⟨some 120, .bin 170 .geq (.tmp 119) (.const (.int .u64 4294967296)), none⟩]
def Xn144_83 : C := .cond (.tmp 120) (.exit 2) .skip
def Xn144_81 : C := .seq Xn144_82 Xn144_83
def Xn144_79 : C := .seq Xn144_80 Xn144_81
def Xn144_77 : C := .seq Xn144_78 Xn144_79
def Xn144_76 : C := .block 3 Xn144_77
def Xn144_70 : C := seqL [2, 8, 9, 10, 14, 15, 16, 17, 18] Xn144_71 Xn144_76
def Xn144_69 : C := loopL [2, 8, 9, 10, 14, 15, 16, 17, 18] Xn144_70
def Xn144_68 : C := .block 2 Xn144_69
def Xn144_87 : C := regL [6, 7] none [⟨some 121, .mv (.tmp 15), none⟩, ⟨some 122, .bin 170 .mul (.tmp 121) (.const (.int .u64 4294967296)), none⟩, ⟨some 123, .mv (.tmp 18), none⟩, ⟨some 124, .bin 170 .add (.tmp 122) (.tmp 123), none⟩, ⟨some 125, .mv (.tmp 17), none⟩, ⟨some 126, .bin 170 .mul (.tmp 125) (.const (.int .u64 4294967296)), none⟩, ⟨some 127, .mv (.tmp 14), none⟩, ⟨some 128, .bin 170 .add (.tmp 126) (.tmp 127), none⟩, ⟨some 129, .mv (.tmp 18), none⟩, ⟨some 130, .mv (.tmp 2), none⟩, ⟨some 131, .bin 170 .mul (.tmp 129) (.tmp 130), none⟩, ⟨some 132, .bin 170 .sub (.tmp 128) (.tmp 131), none⟩, ⟨some 133, .mv (.tmp 8), none⟩, ⟨some 134, .bin 170 .shr (.tmp 132) (.tmp 133), none⟩, ⟨some 6, .mv (.tmp 124), none⟩, ⟨some 7, .mv (.tmp 134), none⟩]
def Xn144_86 : C := .seq Xn144_87 .ret
def Xn144_67 : C := seqL [2, 8, 14, 15, 17, 18] Xn144_68 Xn144_86
def Xn144_65 : C := .seq Xn144_66 Xn144_67
def Xn144_63 : C := .seq Xn144_64 Xn144_65
def Xn144_61 : C := .seq Xn144_62 Xn144_63
def Xn144_42 : C := seqL [2, 8, 9, 10, 11, 13, 14, 15] Xn144_43 Xn144_61
def Xn144_40 : C := .seq Xn144_41 Xn144_42
def Xn144_38 : C := .seq Xn144_39 Xn144_40
def Xn144_36 : C := .seq Xn144_37 Xn144_38
def Xn144_34 : C := .seq Xn144_35 Xn144_36
def Xn144_32 : C := .seq Xn144_33 Xn144_34
def Xn144_30 : C := .seq Xn144_31 Xn144_32
def Xn144_28 : C := .seq Xn144_29 Xn144_30
def Xn144_26 : C := .seq Xn144_27 Xn144_28
def Xn144_24 : C := .seq Xn144_25 Xn144_26
def Xn144_22 : C := .seq Xn144_23 Xn144_24
def Xn144_14 : C := seqL [0, 1, 2] Xn144_15 Xn144_22
def Xn144_8 : C := seqL [0, 1, 2] Xn144_9 Xn144_14
def Xn144_2 : C := seqL [0, 1, 2] Xn144_3 Xn144_8
def Xn144_0 : C := .seq Xn144_1 Xn144_2
theorem Xt144 : Text Try.prog 144 Xn144_0 135 3 [.t 6, .t 7] := ⟨⟨Try.f144, [], Try.func144, by kernel_rfl, by kernel_rfl, by kernel_rfl, by kernel_rfl⟩⟩
def Xn146_1 : C := regL [1, 2] none [⟨some 1, .box true 162 (.tmp 0), none⟩, ⟨some 2, .alc 177 (.agg #[.int .i64 0, .int .i64 0, .int .i64 0, .int .i64 0, .int .i64 0, .int .i64 0]), none⟩]
def Xn146_3 : C := regL [2] none [⟨some 3, .fa 0 (.tmp 1), none⟩, ⟨some 4, .ld 2 1 false (.tmp 3), none⟩, ⟨some 5, .fa 1 (.tmp 1), none⟩, ⟨some 6, .ld 2 1 false (.tmp 5), none⟩, ⟨some 7, .fa 2 (.tmp 1), none⟩, ⟨some 8, .ld 2 1 false (.tmp 7), none⟩, ⟨some 9, .bld (.agg #[.int .i64 0, .int .i64 0, .int .i64 0]) [(0, 1, .tmp 4), (1, 1, .tmp 6), (2, 1, .tmp 8)], none⟩, ⟨some 10, .fa 0 (.tmp 1), none⟩, ⟨some 11, .ld 2 1 false (.tmp 10), none⟩, ⟨some 12, .fa 3 (.tmp 1), none⟩, ⟨some 13, .ld 2 1 false (.tmp 12), none⟩, ⟨some 14, .bin 2 .add (.tmp 11) (.tmp 13), none⟩, ⟨some 15, .fa 1 (.tmp 1), none⟩, ⟨some 16, .ld 2 1 false (.tmp 15), none⟩, ⟨some 17, .fa 4 (.tmp 1), none⟩, ⟨some 18, .ld 2 1 false (.tmp 17), none⟩, ⟨some 19, .bin 2 .add (.tmp 16) (.tmp 18), none⟩, ⟨some 20, .fa 2 (.tmp 1), none⟩, ⟨some 21, .ld 2 1 false (.tmp 20), none⟩, ⟨some 22, .fa 5 (.tmp 1), none⟩, ⟨some 23, .ld 2 1 false (.tmp 22), none⟩, ⟨some 24, .bin 2 .add (.tmp 21) (.tmp 23), none⟩, ⟨some 25, .bld (.agg #[.int .i64 0, .int .i64 0, .int .i64 0]) [(0, 1, .tmp 14), (1, 1, .tmp 19), (2, 1, .tmp 24)], none⟩, ⟨some 26, .bld (.agg #[.int .i64 0, .int .i64 0, .int .i64 0, .int .i64 0, .int .i64 0, .int .i64 0]) [(0, 3, .tmp 9), (3, 3, .tmp 25)], none⟩, ⟨none, .st 177 6 (.tmp 2) (.tmp 26), none⟩]
def Xn146_2 : C := .seq Xn146_3 .ret
def Xn146_0 : C := .seq Xn146_1 Xn146_2
theorem Xt146 : Text Try.prog 146 Xn146_0 27 1 [.c 2 6 true] := ⟨⟨Try.f146, [1], Try.func146, by kernel_rfl, by kernel_rfl, by kernel_rfl, by kernel_rfl⟩⟩
def Xn150_1 : C := regL [0] none [⟨some 2, .mv (.const (.int .i64 0)), none⟩]
def Xn150_3 : C := regL [2] none [⟨some 3, .mv (.tmp 0), none⟩, ⟨some 4, .call 153 [.tmp 3], none⟩, ⟨some 5, .bin 3 .sub (.const (.int .i64 64)) (.tmp 4), none⟩, ⟨some 2, .mv (.tmp 5), none⟩]
def Xn150_2 : C := .seq Xn150_3 .ret
def Xn150_0 : C := .seq Xn150_1 Xn150_2
theorem Xt150 : Text Try.prog 150 Xn150_0 6 1 [.t 2] := ⟨⟨Try.f150, [], Try.func150, by kernel_rfl, by kernel_rfl, by kernel_rfl, by kernel_rfl⟩⟩
def Xn153_1 : C := regL [0, 2] none [⟨some 2, .mv (.const (.int .i64 0)), none⟩]
def Xn153_4 : C := regL [0, 2, 4] none [⟨some 3, .mv (.tmp 0), none⟩, ⟨some 4, .bin 170 .geq (.tmp 3) (.const (.int .u64 4294967296)), none⟩]
def Xn153_7 : C := regL [0] none [⟨some 5, .mv (.tmp 0), none⟩, ⟨some 6, .bin 170 .shr (.tmp 5) (.const (.int .u64 32)), none⟩, ⟨some 0, .mv (.tmp 6), none⟩]
def Xn153_8 : C := regL [0, 2] none [⟨some 2, .mv (.const (.int .i64 32)), none⟩]
def Xn153_6 : C := .seq Xn153_7 Xn153_8
def Xn153_5 : C := .cond (.tmp 4) Xn153_6 .skip
def Xn153_3 : C := .seq Xn153_4 Xn153_5
def Xn153_12 : C := regL [0, 2, 8] none [⟨some 7, .mv (.tmp 0), none⟩, ⟨some 8, .bin 170 .geq (.tmp 7) (.const (.int .u64 65536)), none⟩]
def Xn153_15 : C := regL [0, 2] none [⟨some 9, .mv (.tmp 0), none⟩, ⟨some 10, .bin 170 .shr (.tmp 9) (.const (.int .u64 16)), none⟩, ⟨some 0, .mv (.tmp 10), none⟩]
def Xn153_16 : C := regL [0, 2] none [⟨some 11, .mv (.tmp 2), none⟩, ⟨some 12, .bin 3 .add (.tmp 11) (.const (.int .i64 16)), none⟩, ⟨some 2, .mv (.tmp 12), none⟩]
def Xn153_14 : C := .seq Xn153_15 Xn153_16
def Xn153_13 : C := .cond (.tmp 8) Xn153_14 .skip
def Xn153_11 : C := .seq Xn153_12 Xn153_13
def Xn153_20 : C := regL [0, 2, 14] none [⟨some 13, .mv (.tmp 0), none⟩, ⟨some 14, .bin 170 .geq (.tmp 13) (.const (.int .u64 256)), none⟩]
def Xn153_23 : C := regL [0, 2] none [⟨some 15, .mv (.tmp 0), none⟩, ⟨some 16, .bin 170 .shr (.tmp 15) (.const (.int .u64 8)), none⟩, ⟨some 0, .mv (.tmp 16), none⟩]
def Xn153_24 : C := regL [0, 2] none [⟨some 17, .mv (.tmp 2), none⟩, ⟨some 18, .bin 3 .add (.tmp 17) (.const (.int .i64 8)), none⟩, ⟨some 2, .mv (.tmp 18), none⟩]
def Xn153_22 : C := .seq Xn153_23 Xn153_24
def Xn153_21 : C := .cond (.tmp 14) Xn153_22 .skip
def Xn153_19 : C := .seq Xn153_20 Xn153_21
def Xn153_27 : C := regL [2] none [⟨some 19, .mv (.tmp 2), none⟩, ⟨some 20, .mv (.tmp 0), none⟩, ⟨some 21, .cvt .u8 (.tmp 20), none⟩, ⟨some 22, .sidx (.const (.string ⟨#[0, 1, 2, 2, 3, 3, 3, 3, 4, 4, 4, 4, 4, 4, 4, 4, 5, 5, 5, 5, 5, 5, 5, 5, 5, 5, 5, 5, 5, 5, 5, 5, 6, 6, 6, 6, 6, 6, 6, 6, 6, 6, 6, 6, 6, 6, 6, 6, 6, 6, 6, 6, 6, 6, 6, 6, 6, 6, 6, 6, 6, 6, 6, 6, 7, 7, 7, 7, 7, 7, 7, 7, 7, 7, 7, 7, 7, 7, 7, 7, 7, 7, 7, 7, 7, 7, 7, 7, 7, 7, 7, 7, 7, 7, 7, 7, 7, 7, 7, 7, 7, 7, 7, 7, 7, 7, 7, 7, 7, 7, 7, 7, 7, 7, 7, 7, 7, 7, 7, 7, 7, 7, 7, 7, 7, 7, 7, 7, 8, 8, 8, 8, 8, 8, 8, 8, 8, 8, 8, 8, 8, 8, 8, 8, 8, 8, 8, 8, 8, 8, 8, 8, 8, 8, 8, 8, 8, 8, 8, 8, 8, 8, 8, 8, 8, 8, 8, 8, 8, 8, 8, 8, 8, 8, 8, 8, 8, 8, 8, 8, 8, 8, 8, 8, 8, 8, 8, 8, 8, 8, 8, 8, 8, 8, 8, 8, 8, 8, 8, 8, 8, 8, 8, 8, 8, 8, 8, 8, 8, 8, 8, 8, 8, 8, 8, 8, 8, 8, 8, 8, 8, 8, 8, 8, 8, 8, 8, 8, 8, 8, 8, 8, 8, 8, 8, 8, 8, 8, 8, 8, 8, 8, 8, 8, 8, 8, 8, 8, 8, 8, 8, 8, 8, 8, 8, 8]⟩)) (.tmp 21), none⟩, ⟨some 23, .cvt .i64 (.tmp 22), none⟩, ⟨some 24, .bin 3 .add (.tmp 19) (.tmp 23), none⟩, ⟨some 2, .mv (.tmp 24), none⟩]
def Xn153_26 : C := .seq Xn153_27 .ret
def Xn153_18 : C := seqL [0, 2] Xn153_19 Xn153_26
def Xn153_10 : C := seqL [0, 2] Xn153_11 Xn153_18
def Xn153_2 : C := seqL [0, 2] Xn153_3 Xn153_10
def Xn153_0 : C := .seq Xn153_1 Xn153_2
theorem Xt153 : Text Try.prog 153 Xn153_0 25 1 [.t 2] := ⟨⟨Try.f153, [], Try.func153, by kernel_rfl, by kernel_rfl, by kernel_rfl, by kernel_rfl⟩⟩
end Go.Proofs.Ytfkjdjlcaojedaa

namespace Go.Proofs.Ytfkjdjlcaojedaa
open Go Sy
set_option maxRecDepth 100000
set_option maxHeartbeats 4000000
set_option linter.unusedVariables false
set_option linter.unusedSimpArgs false
theorem mixed : Try.prog.follows .mixedOrders = true := by kernel_rfl
abbrev iv (n : Int) : AV := .v (.int .i64 n)
abbrev bv (b : Bool) : AV := .v (.bool b)
abbrev uv (n : Nat) : AV := .v (.int .u64 n)
theorem maskN (a : Nat) (ha : a < 18446744073709551616) : bits .and .u64 (a : Int) 4294967295 = ((a % 4294967296 : Nat) : Int) := by
  have h := bits_and_u64_nat a 4294967295 ha (by omega)
  have e : a &&& 4294967295 = a % 4294967296 := Nat.and_two_pow_sub_one_eq_mod a 32
  rw [e] at h
  exact h
theorem shrC (a : Int) (s : Nat) (b : Int) (h : (2 : Int) ^ min s IntKind.u64.bits = b) (hb : 0 ≤ b) : a.fdiv (2 ^ min s IntKind.u64.bits) = a / b := by
  rw [h, Int.fdiv_eq_ediv_of_nonneg _ hb]
theorem shr32 (a : Int) : a.fdiv (2 ^ min 32 IntKind.u64.bits) = a / 4294967296 := shrC a 32 _ (by decide) (by decide)
theorem shr16 (a : Int) : a.fdiv (2 ^ min 16 IntKind.u64.bits) = a / 65536 := shrC a 16 _ (by decide) (by decide)
theorem shr8 (a : Int) : a.fdiv (2 ^ min 8 IntKind.u64.bits) = a / 256 := shrC a 8 _ (by decide) (by decide)
theorem divN (a : Nat) : (a : Int) / 4294967296 = ((a / 4294967296 : Nat) : Int) := by omega
theorem mulN (a b : Nat) : (a : Int) * (b : Int) = ((a * b : Nat) : Int) := (Int.natCast_mul a b).symm
theorem addN (a b : Nat) : (a : Int) + (b : Int) = ((a + b : Nat) : Int) := (Int.natCast_add a b).symm
theorem wrapN (a : Nat) (ha : a < 18446744073709551616) : IntKind.u64.wrap (a : Int) = (a : Int) := by rw [IntKind.wrap_u64]; omega
theorem wrapM (a : Nat) : IntKind.u64.wrap (a : Int) = ((a % 18446744073709551616 : Nat) : Int) := by rw [IntKind.wrap_u64]; omega
theorem fn143 (x y : Nat) (hx : x < 18446744073709551616) (hy : y < 18446744073709551616) : Sy.Fn Try.prog 143 [uv x, uv y] (.tup [uv (x * y / 18446744073709551616), uv (x * y % 18446744073709551616)]) := by
  refine Fn_of_W mixed Xt143 rfl ?_
  obtain ⟨bd, bt, bw, hhi⟩ := Lib.mul64_hi x y hx hy
  have ba := Lib.half_mul_le (a := x / 4294967296) (b := y / 4294967296) (by omega) (by omega)
  have bb := Lib.half_mul_le (a := x / 4294967296) (b := y % 4294967296) (by omega) (by omega)
  have bc := Lib.half_mul_le (a := x % 4294967296) (b := y / 4294967296) (by omega) (by omega)
  have ba' : x / 4294967296 * (y / 4294967296) < 18446744073709551616 := by omega
  have bb' : x / 4294967296 * (y % 4294967296) < 18446744073709551616 := by omega
  have bc' : x % 4294967296 * (y / 4294967296) < 18446744073709551616 := by omega
  have bh1 : x / 4294967296 * (y / 4294967296) + (x / 4294967296 * (y % 4294967296) + x % 4294967296 * (y % 4294967296) / 4294967296) / 4294967296 < 18446744073709551616 := by omega
  have bh : x / 4294967296 * (y / 4294967296) + (x / 4294967296 * (y % 4294967296) + x % 4294967296 * (y % 4294967296) / 4294967296) / 4294967296 + ((x / 4294967296 * (y % 4294967296) + x % 4294967296 * (y % 4294967296) / 4294967296) % 4294967296 + x % 4294967296 * (y / 4294967296)) / 4294967296 < 18446744073709551616 := by omega
  repeat' (first | refine w1g ?_ | refine w1l ?_ | refine w1q ?_ | refine w1b ?_ | refine w1p ?_ | ((first | refine w1r ?_ | refine w1k ?_ | refine w1e ?_); (refine sy1 ?_; try exact True.intro)) | refine an2 ?_ | fail)
  simp only [maskN x hx, maskN y hy, shr32, divN, mulN, addN, wrapN _ bd, wrapN _ bb', wrapN _ bt, maskN _ bt, wrapN _ bc', wrapN _ bw, wrapN _ ba', wrapN _ bh1, wrapN _ bh, wrapM (x * y)]
  rw [hhi]
  exact W_ret ⟨[_, _], ⟨rfl, rfl, rfl⟩, rfl⟩
end Go.Proofs.Ytfkjdjlcaojedaa

namespace Go.Proofs.Ytfkjdjlcaojedaa
open Go Sy
set_option maxRecDepth 100000
set_option maxHeartbeats 4000000
set_option linter.unusedVariables false
set_option linter.unusedSimpArgs false
abbrev uw (n : Int) : AV := .v (.int .u64 n)
def Bits (x : Int) (n : Nat) : Prop := 2 ^ n ≤ 2 * x ∧ x < 2 ^ n
theorem Bits.up {x : Int} {n : Nat} (k : Nat) (h : Bits (x / 2 ^ k) n) : Bits x (n + k) := by
  obtain ⟨h1, h2⟩ := h
  have hk : (0 : Int) < 2 ^ k := Int.pow_pos (by omega)
  have hm := Int.mul_ediv_add_emod x (2 ^ k)
  have hr := Int.emod_lt_of_pos x hk
  have hr0 := Int.emod_nonneg x (Int.ne_of_gt hk)
  have e : (2 : Int) ^ (n + k) = 2 ^ n * 2 ^ k := Int.pow_add ..
  have m1 := Int.mul_le_mul_of_nonneg_right h1 (Int.le_of_lt hk)
  have m2 := Int.mul_le_mul_of_nonneg_right (show x / 2 ^ k + 1 ≤ 2 ^ n by omega) (Int.le_of_lt hk)
  unfold Bits
  rw [e]
  rw [Int.add_mul] at m2
  rw [Int.mul_assoc, Int.mul_comm (x / 2 ^ k)] at m1
  rw [Int.mul_comm (x / 2 ^ k)] at m2
  constructor <;> omega
def lo (b x : Int) : Int := if b ≤ x then x / b else x
def nb (b : Int) (k : Nat) (x : Int) : Nat := if b ≤ x then k else 0
theorem Bits.lo {b x : Int} {n : Nat} (k : Nat) (hb : (2 : Int) ^ k = b) (h : Bits (lo b x) n) : Bits x (n + nb b k x) := by
  unfold Go.Proofs.Ytfkjdjlcaojedaa.lo at h
  unfold nb
  subst hb
  split
  · rename_i h1; rw [if_pos h1] at h; exact h.up k
  · rename_i h1; rw [if_neg h1] at h; exact h
def tab : ByteArray := ⟨#[0, 1, 2, 2, 3, 3, 3, 3, 4, 4, 4, 4, 4, 4, 4, 4, 5, 5, 5, 5, 5, 5, 5, 5, 5, 5, 5, 5, 5, 5, 5, 5, 6, 6, 6, 6, 6, 6, 6, 6, 6, 6, 6, 6, 6, 6, 6, 6, 6, 6, 6, 6, 6, 6, 6, 6, 6, 6, 6, 6, 6, 6, 6, 6, 7, 7, 7, 7, 7, 7, 7, 7, 7, 7, 7, 7, 7, 7, 7, 7, 7, 7, 7, 7, 7, 7, 7, 7, 7, 7, 7, 7, 7, 7, 7, 7, 7, 7, 7, 7, 7, 7, 7, 7, 7, 7, 7, 7, 7, 7, 7, 7, 7, 7, 7, 7, 7, 7, 7, 7, 7, 7, 7, 7, 7, 7, 7, 7, 8, 8, 8, 8, 8, 8, 8, 8, 8, 8, 8, 8, 8, 8, 8, 8, 8, 8, 8, 8, 8, 8, 8, 8, 8, 8, 8, 8, 8, 8, 8, 8, 8, 8, 8, 8, 8, 8, 8, 8, 8, 8, 8, 8, 8, 8, 8, 8, 8, 8, 8, 8, 8, 8, 8, 8, 8, 8, 8, 8, 8, 8, 8, 8, 8, 8, 8, 8, 8, 8, 8, 8, 8, 8, 8, 8, 8, 8, 8, 8, 8, 8, 8, 8, 8, 8, 8, 8, 8, 8, 8, 8, 8, 8, 8, 8, 8, 8, 8, 8, 8, 8, 8, 8, 8, 8, 8, 8, 8, 8, 8, 8, 8, 8, 8, 8, 8, 8, 8, 8, 8, 8, 8, 8, 8, 8, 8, 8]⟩
def tabOK (i : Nat) : Bool := decide (byteAt tab i ≤ 8) && (decide (i = 0) || (decide (2 ^ byteAt tab i ≤ 2 * i) && decide (i < 2 ^ byteAt tab i)))
theorem tab_all : (List.range 256).all tabOK = true := by decide +kernel
theorem tab_size : tab.size = 256 := by decide +kernel
theorem tab_bits {u : Int} (h0 : 0 ≤ u) (h : u < 256) : byteAt tab u.toNat ≤ 8 ∧ (0 < u → Bits u (byteAt tab u.toNat)) := by
  have h1 := List.all_eq_true.1 tab_all u.toNat (by simp; omega)
  unfold tabOK at h1
  simp only [Bool.and_eq_true, Bool.or_eq_true, decide_eq_true_eq] at h1
  refine ⟨h1.1, fun h2 => ?_⟩
  have h3 := h1.2.resolve_left (by omega)
  unfold Bits
  have e : ((u.toNat : Nat) : Int) = u := by omega
  generalize byteAt tab u.toNat = n at *
  have e2 : ((2 ^ n : Nat) : Int) = (2 : Int) ^ n := Int.natCast_pow 2 n
  omega
theorem fn153 (x : Int) (h0 : 0 ≤ x) (hx : x < 18446744073709551616) : ∃ n : Nat, n ≤ 64 ∧ (0 < x → Bits x n) ∧ Sy.Fn Try.prog 153 [uw x] (iv n) := by
  generalize hy : lo 4294967296 x = y
  have hyb : 0 ≤ y ∧ y < 4294967296 := by subst hy; unfold lo; split <;> omega
  generalize hm : nb 4294967296 32 x = m
  have hmb : m ≤ 32 := by subst hm; unfold nb; split <;> omega
  generalize hz : lo 65536 y = z
  have hzb : 0 ≤ z ∧ z < 65536 := by subst hz; unfold lo; split <;> omega
  generalize hk : m + nb 65536 16 y = k
  have hkb : k ≤ 48 := by subst hk; unfold nb; split <;> omega
  generalize hu : lo 256 z = u
  have hub : 0 ≤ u ∧ u < 256 := by subst hu; unfold lo; split <;> omega
  generalize hj : k + nb 256 8 z = j
  have hjb : j ≤ 56 := by subst hj; unfold nb; split <;> omega
  have ht := tab_bits hub.1 hub.2
  have hpos : 0 < x → 0 < u := fun h => by
    have h1 : 0 < y := by subst hy; unfold lo; split <;> omega
    have h2 : 0 < z := by subst hz; unfold lo; split <;> omega
    subst hu; unfold lo; split <;> omega
  refine ⟨j + byteAt tab u.toNat, by omega, fun h => ?_, ?_⟩
  · have h1 := ht.2 (hpos h)
    rw [← hu] at h1
    have h2 := h1.lo 8 (by decide)
    rw [hu, ← hz] at h2
    have h3 := h2.lo 16 (by decide)
    rw [hz, ← hy] at h3
    have h4 := h3.lo 32 (by decide)
    rw [hy] at h4
    rw [← hj, ← hk, ← hm]
    rw [show nb 4294967296 32 x + nb 65536 16 y + nb 256 8 z + byteAt tab u.toNat = byteAt tab u.toNat + nb 256 8 z + nb 65536 16 y + nb 4294967296 32 x by omega]
    exact h4
  refine Fn_of_W mixed Xt153 rfl ?_
  repeat' (first | refine w1g ?_ | refine w1l ?_ | refine w1q ?_ | refine w1b ?_ | refine w1p ?_ | ((first | refine w1r ?_ | refine w1k ?_ | refine w1e ?_); (refine sy1 ?_; try exact True.intro)) | refine an2 ?_ | fail)
  refine W_meet [(0, uw y), (2, iv m)] [] ?_ ?_
  · subst hy hm
    unfold lo nb
    refine W_condD (by rfl) (fun h => ?_) (fun h => ?_)
    · rw [if_pos h, if_pos h]
      repeat' (first | refine w1g ?_ | refine w1l ?_ | refine w1q ?_ | refine w1b ?_ | refine w1p ?_ | ((first | refine w1r ?_ | refine w1k ?_ | refine w1e ?_); simp (maxSteps := 400000) (disch := omega) only [push_cast, ↓reduceIte, reduceCtorEq, Nat.reduceAdd, Nat.reduceSub, Nat.reduceEqDiff, Nat.reduceLeDiff, Nat.reduceLT, Nat.reduceBEq, Nat.reduceDiv, Nat.reduceMod, Nat.reducePow, Nat.reduceMul, Int.reduceToNat, Int.reduceLT, Int.reduceLE, shr32]) | refine an2 ?_ | fail)
      refine ⟨by rfl, ?_⟩
      (refine syE ?_; try exact True.intro)
      all_goals omega
    · rw [if_neg h, if_neg h]
      repeat' (first | refine w1g ?_ | refine w1l ?_ | refine w1q ?_ | refine w1b ?_ | refine w1p ?_ | ((first | refine w1r ?_ | refine w1k ?_ | refine w1e ?_); (refine sy1 ?_; try exact True.intro)) | refine an2 ?_ | fail)
      rfl
  (refine sy1 ?_; try exact True.intro)
  repeat' (first | refine w1g ?_ | refine w1l ?_ | refine w1q ?_ | refine w1b ?_ | refine w1p ?_ | ((first | refine w1r ?_ | refine w1k ?_ | refine w1e ?_); (refine sy1 ?_; try exact True.intro)) | refine an2 ?_ | fail)
  refine W_meet [(0, uw z), (2, iv k)] [] ?_ ?_
  · subst hz hk
    unfold lo nb
    refine W_condD (by rfl) (fun h => ?_) (fun h => ?_)
    · rw [if_pos h, if_pos h]
      repeat' (first | refine w1g ?_ | refine w1l ?_ | refine w1q ?_ | refine w1b ?_ | refine w1p ?_ | ((first | refine w1r ?_ | refine w1k ?_ | refine w1e ?_); simp (maxSteps := 400000) (disch := omega) only [push_cast, ↓reduceIte, reduceCtorEq, Nat.reduceAdd, Nat.reduceSub, Nat.reduceEqDiff, Nat.reduceLeDiff, Nat.reduceLT, Nat.reduceBEq, Nat.reduceDiv, Nat.reduceMod, Nat.reducePow, Nat.reduceMul, Int.reduceToNat, Int.reduceLT, Int.reduceLE, shr16]) | refine an2 ?_ | fail)
      refine ⟨by rfl, ?_⟩
      (refine syE ?_; try exact True.intro)
      all_goals omega
    · rw [if_neg h, if_neg h]
      repeat' (first | refine w1g ?_ | refine w1l ?_ | refine w1q ?_ | refine w1b ?_ | refine w1p ?_ | ((first | refine w1r ?_ | refine w1k ?_ | refine w1e ?_); (refine sy1 ?_; try exact True.intro)) | refine an2 ?_ | fail)
      rfl
  (refine sy1 ?_; try exact True.intro)
  repeat' (first | refine w1g ?_ | refine w1l ?_ | refine w1q ?_ | refine w1b ?_ | refine w1p ?_ | ((first | refine w1r ?_ | refine w1k ?_ | refine w1e ?_); (refine sy1 ?_; try exact True.intro)) | refine an2 ?_ | fail)
  refine W_meet [(0, uw u), (2, iv j)] [] ?_ ?_
  · subst hu hj
    unfold lo nb
    refine W_condD (by rfl) (fun h => ?_) (fun h => ?_)
    · rw [if_pos h, if_pos h]
      repeat' (first | refine w1g ?_ | refine w1l ?_ | refine w1q ?_ | refine w1b ?_ | refine w1p ?_ | ((first | refine w1r ?_ | refine w1k ?_ | refine w1e ?_); simp (maxSteps := 400000) (disch := omega) only [push_cast, ↓reduceIte, reduceCtorEq, Nat.reduceAdd, Nat.reduceSub, Nat.reduceEqDiff, Nat.reduceLeDiff, Nat.reduceLT, Nat.reduceBEq, Nat.reduceDiv, Nat.reduceMod, Nat.reducePow, Nat.reduceMul, Int.reduceToNat, Int.reduceLT, Int.reduceLE, shr8]) | refine an2 ?_ | fail)
      refine ⟨by rfl, ?_⟩
      (refine syE ?_; try exact True.intro)
      all_goals omega
    · rw [if_neg h, if_neg h]
      repeat' (first | refine w1g ?_ | refine w1l ?_ | refine w1q ?_ | refine w1b ?_ | refine w1p ?_ | ((first | refine w1r ?_ | refine w1k ?_ | refine w1e ?_); (refine sy1 ?_; try exact True.intro)) | refine an2 ?_ | fail)
      rfl
  (refine sy1 ?_; try exact True.intro)
  have hw : IntKind.u8.wrap u = u := by rw [IntKind.wrap_u8]; omega
  refine W_seq (W_regL ?_)
  rw [show ({ data := _ } : ByteArray) = tab from rfl]
  simp (maxSteps := 400000) (disch := omega) only [push_cast, ↓reduceIte, reduceCtorEq, Nat.reduceAdd, Nat.reduceSub, Nat.reduceEqDiff, Nat.reduceLeDiff, Nat.reduceLT, Nat.reduceBEq, Nat.reduceDiv, Nat.reduceMod, Nat.reducePow, Nat.reduceMul, Int.reduceToNat, Int.reduceLT, Int.reduceLE, hw, tab_size]
  refine ⟨⟨hub.1, hub.2⟩, ?_⟩
  exact W_ret ⟨[_], ⟨rfl, rfl⟩, rfl⟩
theorem fn150 (x : Int) (h0 : 0 < x) (hx : x < 18446744073709551616) : ∃ n : Nat, n ≤ 64 ∧ Bits x n ∧ Sy.Fn Try.prog 150 [uw x] (iv (64 - n)) := by
  obtain ⟨n, hn, hb, c⟩ := fn153 x (by omega) hx
  refine ⟨n, hn, hb h0, ?_⟩
  refine Fn_of_W mixed Xt150 rfl ?_
  repeat' (first | refine w1g ?_ | refine w1l ?_ | refine w1q ?_ | refine w1b ?_ | refine w1p ?_ | ((first | refine w1r ?_ | refine w1k ?_ | refine w1e ?_ | refine CallC.now (c) ?_); (refine sy1 ?_; try exact True.intro)) | refine an2 ?_ | fail)
  exact W_ret ⟨[_], ⟨rfl, rfl⟩, rfl⟩
end Go.Proofs.Ytfkjdjlcaojedaa

namespace Go.Proofs.Ytfkjdjlcaojedaa
open Go Sy
set_option maxRecDepth 100000
set_option linter.unusedVariables false
structure Half (Y u d : Int) : Prop where
  y : 9223372036854775808 ≤ Y ∧ Y < 18446744073709551616
  u : 0 ≤ u ∧ u < Y
  d : 0 ≤ d ∧ d < 4294967296
def Half.q (Y u d : Int) : Int := (u * 4294967296 + d) / Y
theorem split_Y (Y q : Int) : q * Y = (q * (Y / 4294967296)) * 4294967296 + q * (Y % 4294967296) := by
  have h : Y = Y / 4294967296 * 4294967296 + Y % 4294967296 := by omega
  rw [Int.mul_assoc, ← Int.mul_add, ← h]
theorem Half.no {Y u d q r : Int} (h : Half Y u d) (e : q * (Y / 4294967296) + r = u) (hc : q * (Y % 4294967296) ≤ 4294967296 * r + d) : q ≤ Half.q Y u d := by
  unfold Half.q
  have := h.y
  rw [Int.le_ediv_iff_mul_le (by omega), split_Y Y q]
  omega
theorem Half.yes {Y u d q r : Int} (h : Half Y u d) (e : q * (Y / 4294967296) + r = u) (hc : 4294967296 * r + d < q * (Y % 4294967296)) : Half.q Y u d < q := by
  unfold Half.q
  have := h.y
  rw [Int.ediv_lt_iff_lt_mul (by omega), split_Y Y q]
  omega
theorem Half.lt {Y u d : Int} (h : Half Y u d) : 0 ≤ Half.q Y u d ∧ Half.q Y u d < 4294967296 := by
  have h1 := h.y; have h2 := h.u; have h3 := h.d
  unfold Half.q
  constructor
  · exact Int.ediv_nonneg (by omega) (by omega)
  · rw [Int.ediv_lt_iff_lt_mul (by omega)]
    omega
theorem Half.start {Y u d : Int} (h : Half Y u d) : u / (Y / 4294967296) * (Y / 4294967296) + u % (Y / 4294967296) = u ∧ Half.q Y u d ≤ u / (Y / 4294967296) ∧ u / (Y / 4294967296) ≤ 4294967297 ∧ 0 ≤ u % (Y / 4294967296) ∧ u % (Y / 4294967296) < 4294967296 := by
  have h1 := h.y; have h2 := h.u; have h3 := h.d
  have hlt := h.lt
  have hp : 0 < Y / 4294967296 := by omega
  have e := Int.ediv_mul_add_emod u (Y / 4294967296)
  have e1 := Int.emod_nonneg u (Int.ne_of_gt hp)
  have e2 := Int.emod_lt_of_pos u hp
  refine ⟨e, ?_, ?_, e1, by omega⟩
  · rw [Int.le_ediv_iff_mul_le hp]
    have h4 : Half.q Y u d * Y ≤ u * 4294967296 + d := Int.ediv_mul_le _ (by omega)
    rw [split_Y Y (Half.q Y u d)] at h4
    have h5 : 0 ≤ Half.q Y u d * (Y % 4294967296) := Int.mul_nonneg hlt.1 (by omega)
    omega
  · have h4 : u / (Y / 4294967296) < 4294967298 := by
      rw [Int.ediv_lt_iff_lt_mul hp]
      omega
    omega
theorem Half.step {Y u d q r : Int} (h : Half Y u d) (e : q * (Y / 4294967296) + r = u) (hq : Half.q Y u d ≤ q) (hc : 4294967296 ≤ q ∨ 4294967296 * r + d < q * (Y % 4294967296)) : (q - 1) * (Y / 4294967296) + (r + Y / 4294967296) = u ∧ Half.q Y u d ≤ q - 1 := by
  have hlt := h.lt
  refine ⟨by rw [Int.sub_mul, Int.one_mul]; omega, ?_⟩
  rcases hc with hc | hc
  · omega
  · have := h.yes e hc; omega
theorem Half.break {Y u d q r : Int} (h : Half Y u d) (e : q * (Y / 4294967296) + r = u) (hq : Half.q Y u d ≤ q) (hb : q ≤ 4294967296) (hr : 4294967296 ≤ r) : q = Half.q Y u d := by
  have h1 := h.y; have h2 := h.u; have h3 := h.d
  have hlt := h.lt
  have m : q * (Y % 4294967296) ≤ 4294967296 * 4294967295 := Int.mul_le_mul hb (by omega) (by omega) (by omega)
  have := h.no e (by omega)
  omega
theorem Half.stop {Y u d q r : Int} (h : Half Y u d) (e : q * (Y / 4294967296) + r = u) (hq : Half.q Y u d ≤ q) (hc : q * (Y % 4294967296) ≤ 4294967296 * r + d) : q = Half.q Y u d := by
  have := h.no e hc
  omega
def Half.r (Y u d : Int) : Int := u * 4294967296 + d - Half.q Y u d * Y
theorem Half.r_lt {Y u d : Int} (h : Half Y u d) : 0 ≤ Half.r Y u d ∧ Half.r Y u d < Y := by
  have h1 := h.y
  have e := Int.ediv_mul_add_emod (u * 4294967296 + d) Y
  have e1 := Int.emod_nonneg (u * 4294967296 + d) (show Y ≠ 0 by omega)
  have e2 := Int.emod_lt_of_pos (u * 4294967296 + d) (show 0 < Y by omega)
  unfold Half.r Half.q
  omega
theorem long_div {y P N u d1 d0 : Int} (hy : 0 < y) (hP : 0 < P) (e : N * P = u * 18446744073709551616 + d1 * 4294967296 + d0) (h : Half (y * P) u d1) (h0 : Half (y * P) (Half.r (y * P) u d1) d0) :
    Half.q (y * P) u d1 * 4294967296 + Half.q (y * P) (Half.r (y * P) u d1) d0 = N / y ∧ Half.r (y * P) (Half.r (y * P) u d1) d0 / P = N % y := by
  have hr := h0.r_lt
  have e1 : Half.r (y * P) u d1 = u * 4294967296 + d1 - Half.q (y * P) u d1 * (y * P) := rfl
  have e2 : Half.r (y * P) (Half.r (y * P) u d1) d0 = Half.r (y * P) u d1 * 4294967296 + d0 - Half.q (y * P) (Half.r (y * P) u d1) d0 * (y * P) := rfl
  generalize hR0 : Half.r (y * P) (Half.r (y * P) u d1) d0 = R0 at *
  generalize hR1 : Half.r (y * P) u d1 = R1 at *
  generalize hq1 : Half.q (y * P) u d1 = q1 at *
  generalize hq0 : Half.q (y * P) R1 d0 = q0 at *
  have e3 : (q1 * 4294967296 + q0) * (y * P) = q1 * (y * P) * 4294967296 + q0 * (y * P) := by
    rw [Int.add_mul, Int.mul_assoc, Int.mul_comm 4294967296, ← Int.mul_assoc]
  have e4 : R0 = (N - (q1 * 4294967296 + q0) * y) * P := by
    rw [Int.sub_mul, Int.mul_assoc, e3]
    omega
  have e5 : R0 / P = N - (q1 * 4294967296 + q0) * y := by
    rw [e4, Int.mul_ediv_cancel _ (Int.ne_of_gt hP)]
  have e6 : 0 ≤ N - (q1 * 4294967296 + q0) * y := by
    rw [e4] at hr
    exact Int.nonneg_of_mul_nonneg_left hr.1 hP
  have e7 : N - (q1 * 4294967296 + q0) * y < y := by
    rw [e4] at hr
    exact Int.lt_of_mul_lt_mul_right hr.2 (Int.le_of_lt hP)
  have e8 : N / y = q1 * 4294967296 + q0 := by
    have h1 : q1 * 4294967296 + q0 ≤ N / y := by rw [Int.le_ediv_iff_mul_le hy]; omega
    have h2 : N / y < q1 * 4294967296 + q0 + 1 := by rw [Int.ediv_lt_iff_lt_mul hy, Int.add_mul]; omega
    omega
  refine ⟨e8.symm, ?_⟩
  rw [e5, Int.emod_def, e8, Int.mul_comm]
theorem shift_up {y : Int} {n : Nat} (h : Bits y n) (hn : n ≤ 64) : 9223372036854775808 ≤ y * 2 ^ (64 - n) ∧ y * 2 ^ (64 - n) < 18446744073709551616 := by
  obtain ⟨h1, h2⟩ := h
  have hk : (0 : Int) < 2 ^ (64 - n) := Int.pow_pos (by omega)
  have e : (2 : Int) ^ n * 2 ^ (64 - n) = 18446744073709551616 := by
    rw [← Int.pow_add, show n + (64 - n) = 64 by omega]; rfl
  have m1 := Int.mul_le_mul_of_nonneg_right h1 (Int.le_of_lt hk)
  have m2 := Int.mul_lt_mul_of_pos_right h2 hk
  rw [Int.mul_assoc] at m1
  omega
theorem shift_parts {hi lo y : Int} {n : Nat} (hn : n ≤ 64) (h : 0 ≤ hi ∧ hi < y) (hl : 0 ≤ lo ∧ lo < 18446744073709551616) :
    (hi * 18446744073709551616 + lo) * 2 ^ (64 - n) = (hi * 2 ^ (64 - n) + lo / 2 ^ n) * 18446744073709551616 + lo * 2 ^ (64 - n) % 18446744073709551616 ∧
    0 ≤ hi * 2 ^ (64 - n) + lo / 2 ^ n ∧ hi * 2 ^ (64 - n) + lo / 2 ^ n < y * 2 ^ (64 - n) ∧ 0 ≤ lo / 2 ^ n ∧ lo / 2 ^ n < 2 ^ (64 - n) := by
  have hk : (0 : Int) < 2 ^ (64 - n) := Int.pow_pos (by omega)
  have hk2 : (0 : Int) < 2 ^ n := Int.pow_pos (by omega)
  have e : (2 : Int) ^ n * 2 ^ (64 - n) = 18446744073709551616 := by
    rw [← Int.pow_add, show n + (64 - n) = 64 by omega]; rfl
  have e2 : lo * 2 ^ (64 - n) / 18446744073709551616 = lo / 2 ^ n := by
    rw [← e]; exact Int.mul_ediv_mul_of_pos_left _ _ hk
  have h1 : 0 ≤ lo / 2 ^ n := Int.ediv_nonneg hl.1 (Int.le_of_lt hk2)
  have h2 : lo / 2 ^ n < 2 ^ (64 - n) := by
    rw [Int.ediv_lt_iff_lt_mul hk2, Int.mul_comm, e]; exact hl.2
  have h3 : 0 ≤ hi * 2 ^ (64 - n) := Int.mul_nonneg h.1 (Int.le_of_lt hk)
  have h4 := Int.mul_le_mul_of_nonneg_right (show hi + 1 ≤ y by omega) (Int.le_of_lt hk)
  rw [Int.add_mul, Int.one_mul] at h4
  refine ⟨?_, by omega, by omega, h1, h2⟩
  rw [Int.add_mul, Int.mul_assoc, Int.mul_comm 18446744073709551616, ← Int.mul_assoc]
  omega
theorem or_add {a b : Int} {k : Nat} (ha : 0 ≤ a) (hb : 0 ≤ b) (hlt : b < 2 ^ k) (h : a * 2 ^ k + b < 18446744073709551616) : bits .or .u64 (a * 2 ^ k) b = a * 2 ^ k + b := by
  obtain ⟨x, rfl⟩ : ∃ x : Nat, a = x := ⟨a.toNat, by omega⟩
  obtain ⟨y, rfl⟩ : ∃ y : Nat, b = y := ⟨b.toNat, by omega⟩
  have e : (x : Int) * 2 ^ k = ((x * 2 ^ k : Nat) : Int) := by rw [Int.natCast_mul, Int.natCast_pow]; rfl
  have hl : y < 2 ^ k := by
    have : ((2 ^ k : Nat) : Int) = (2 : Int) ^ k := Int.natCast_pow 2 k
    omega
  rw [e] at h ⊢
  rw [bits_or_u64_nat _ _ (by omega) (by omega), ← Nat.shiftLeft_eq, ← Nat.shiftLeft_add_eq_or_of_lt hl]
  omega
end Go.Proofs.Ytfkjdjlcaojedaa

namespace Go.Proofs.Ytfkjdjlcaojedaa
open Go Sy
set_option maxRecDepth 100000
set_option maxHeartbeats 4000000
set_option linter.unusedVariables false
set_option linter.unusedSimpArgs false
theorem wrapU {x : Int} (h : 0 ≤ x ∧ x < 18446744073709551616) : IntKind.u64.wrap x = x := by rw [IntKind.wrap_u64]; omega
theorem maskI {a : Int} (h : 0 ≤ a ∧ a < 18446744073709551616) : bits .and .u64 a 4294967295 = a % 4294967296 := by
  obtain ⟨n, rfl⟩ : ∃ n : Nat, a = n := ⟨a.toNat, by omega⟩
  rw [maskN n (by omega)]; omega
theorem wrap_rem {a b c r : Int} (h : a + b - c = r) (hr : 0 ≤ r ∧ r < 18446744073709551616) : IntKind.u64.wrap (IntKind.u64.wrap (IntKind.u64.wrap a + b) - IntKind.u64.wrap c) = r := by
  simp only [IntKind.wrap_u64]; omega
theorem fn144 (hi lo y : Int) (h : 0 ≤ hi ∧ hi < y) (hl : 0 ≤ lo ∧ lo < 18446744073709551616) (hy : y < 18446744073709551616) : Sy.Fn Try.prog 144 [uw hi, uw lo, uw y] (.tup [uw ((hi * 18446744073709551616 + lo) / y), uw ((hi * 18446744073709551616 + lo) % y)]) := by
  refine Fn_of_W mixed Xt144 rfl ?_
  obtain ⟨n, hn, hb, c⟩ := fn150 y (by omega) hy
  have hsu := shift_up hb hn
  obtain ⟨hp1, hp2, hp3, hp4, hp5⟩ := shift_parts hn h hl
  repeat' (first | refine w1g ?_ | refine w1l ?_ | refine w1q ?_ | refine w1b ?_ | refine w1p ?_ | ((first | refine w1r ?_ | refine w1k ?_ | refine w1e ?_); (refine sy1 ?_; try exact True.intro)) | refine an2 ?_ | fail)
  refine W_cond (by rfl) (fun h1 => by rw [beq_iff_eq] at h1; omega) (fun _ => ?_)
  repeat' (first | refine w1g ?_ | refine w1l ?_ | refine w1q ?_ | refine w1b ?_ | refine w1p ?_ | ((first | refine w1r ?_ | refine w1k ?_ | refine w1e ?_); (refine sy1 ?_; try exact True.intro)) | refine an2 ?_ | fail)
  refine W_condD (by rfl) (fun h1 => by omega) (fun _ => ?_)
  repeat' (first | refine w1g ?_ | refine w1l ?_ | refine w1q ?_ | refine w1b ?_ | refine w1p ?_ | ((first | refine w1r ?_ | refine w1k ?_ | refine w1e ?_); (refine sy1 ?_; try exact True.intro)) | refine an2 ?_ | fail)
  refine W_cond (by rfl) (fun h1 => ?_) (fun h1 => ?_)
  · rw [beq_iff_eq] at h1
    subst h1
    have e1 := Int.ediv_nonneg hl.1 (show 0 ≤ y by omega)
    have e2 : lo / y ≤ lo := Int.ediv_le_self _ hl.1
    repeat' (first | refine w1g ?_ | refine w1l ?_ | refine w1q ?_ | refine w1b ?_ | refine w1p ?_ | ((first | refine w1r ?_ | refine w1k ?_ | refine w1e ?_); simp (maxSteps := 400000) (disch := omega) only [push_cast, ↓reduceIte, reduceCtorEq, Nat.reduceAdd, Nat.reduceSub, Nat.reduceEqDiff, Nat.reduceLeDiff, Nat.reduceLT, Nat.reduceBEq, Nat.reduceDiv, Nat.reduceMod, Nat.reducePow, Nat.reduceMul, Int.reduceToNat, Int.reduceLT, Int.reduceLE, Int.tdiv_eq_ediv_of_nonneg, Int.tmod_eq_emod_of_nonneg, wrapU]) | refine an2 ?_ | fail)
    exact W_ret ⟨[_, _], ⟨rfl, rfl, rfl⟩, by simp; rfl⟩
  have w1 : IntKind.u64.wrap (64 - (n : Int)) = 64 - n := wrapU ⟨by omega, by omega⟩
  have w2 : min (64 - (n : Int)).toNat IntKind.u64.bits = 64 - n := by show min _ 64 = _; omega
  have w3 : min n IntKind.u64.bits = n := by show min _ 64 = _; omega
  have w4 : IntKind.u64.wrap (n : Int) = n := wrapU ⟨by omega, by omega⟩
  have hk : (0 : Int) < 2 ^ (64 - n) := Int.pow_pos (by omega)
  have hh : 0 ≤ hi * 2 ^ (64 - n) := Int.mul_nonneg h.1 (Int.le_of_lt hk)
  have w5 : IntKind.u64.wrap (64 - (64 - (n : Int))) = n := by rw [show 64 - (64 - (n : Int)) = n by omega]; exact w4
  have w6 : IntKind.u64.wrap (y * 2 ^ (64 - n)) = y * 2 ^ (64 - n) := wrapU (by omega)
  have w7 : IntKind.u64.wrap (hi * 2 ^ (64 - n)) = hi * 2 ^ (64 - n) := wrapU (by omega)
  have w8 : lo.fdiv (2 ^ n) = lo / 2 ^ n := Int.fdiv_eq_ediv_of_nonneg _ (Int.le_of_lt (Int.pow_pos (by omega)))
  have w9 := or_add (a := hi) (b := lo / 2 ^ n) (k := 64 - n) h.1 hp4 hp5 (by omega)
  have w10 : IntKind.u64.wrap (lo * 2 ^ (64 - n)) = lo * 2 ^ (64 - n) % 18446744073709551616 := IntKind.wrap_u64 _
  have wm := maskI (a := y * 2 ^ (64 - n)) (by omega)
  have wm2 := maskI (a := lo * 2 ^ (64 - n) % 18446744073709551616) (by omega)
  have hld := fun d1 d0 => long_div (y := y) (P := 2 ^ (64 - n)) (N := hi * 18446744073709551616 + lo) (u := hi * 2 ^ (64 - n) + lo / 2 ^ n) (d1 := d1) (d0 := d0) (by omega) hk
  repeat' (first | refine w1g ?_ | refine w1l ?_ | refine w1q ?_ | refine w1b ?_ | refine w1p ?_ | ((first | refine w1r ?_ | refine w1k ?_ | refine w1e ?_ | refine CallC.now (c) ?_); simp (maxSteps := 400000) (disch := omega) only [push_cast, ↓reduceIte, reduceCtorEq, Nat.reduceAdd, Nat.reduceSub, Nat.reduceEqDiff, Nat.reduceLeDiff, Nat.reduceLT, Nat.reduceBEq, Nat.reduceDiv, Nat.reduceMod, Nat.reducePow, Nat.reduceMul, Int.reduceToNat, Int.reduceLT, Int.reduceLE, w1, w2, w3, w4, w5, w6, w7, w8, w9, w10, wm, wm2, shr32]) | refine an2 ?_ | fail)
  generalize hD : y * 2 ^ (64 - n) = Y at *
  generalize hU : hi * 2 ^ (64 - n) + lo / 2 ^ n = u at *
  generalize hE : lo * 2 ^ (64 - n) % 18446744073709551616 = e at *
  have heb : 0 ≤ e ∧ e < 18446744073709551616 := by subst hE; omega
  have H1 : Half Y u (e / 4294967296) := ⟨hsu, ⟨hp2, hp3⟩, by omega⟩
  obtain ⟨s1, s2, s3, s4, s5⟩ := H1.start
  have v1 : u.tdiv (Y / 4294967296) = u / (Y / 4294967296) := Int.tdiv_eq_ediv_of_nonneg hp2
  have s0 : 0 ≤ u / (Y / 4294967296) := Int.ediv_nonneg hp2 (by omega)
  have v2 : IntKind.u64.wrap (u / (Y / 4294967296)) = u / (Y / 4294967296) := wrapU (by omega)
  have s00 : 0 ≤ u / (Y / 4294967296) * (Y / 4294967296) := Int.mul_nonneg s0 (by omega)
  have v3 : IntKind.u64.wrap (u / (Y / 4294967296) * (Y / 4294967296)) = u / (Y / 4294967296) * (Y / 4294967296) := wrapU (by omega)
  have v4 : IntKind.u64.wrap (u - u / (Y / 4294967296) * (Y / 4294967296)) = u % (Y / 4294967296) := by
    rw [show u - u / (Y / 4294967296) * (Y / 4294967296) = u % (Y / 4294967296) by omega]; exact wrapU (by omega)
  rw [v1, v2, v3, v4]
  generalize hq0 : u / (Y / 4294967296) = q0 at *
  generalize hr0 : u % (Y / 4294967296) = r0 at *
  generalize hQ : Half.q Y u (e / 4294967296) = Q1 at *
  have wd : 0 ≤ e / 4294967296 ∧ e / 4294967296 < 4294967296 := by omega
  have we : 0 ≤ e % 4294967296 ∧ e % 4294967296 < 4294967296 := by omega
  have hQb := H1.lt
  refine W_meetB [(15, uw Q1)] [] ?_ ?_
  · refine W_loopU (fun p : Int × Int => [(15, uw p.1), (16, uw p.2)]) (fun i => []) (fun p => p.1 * (Y / 4294967296) + p.2 = u ∧ Q1 ≤ p.1 ∧ p.1 ≤ 4294967297 ∧ 0 ≤ p.2 ∧ p.2 < 4294967296) (fun p => p.1.toNat) (q0, r0) ⟨s1, s2, s3, s4, s5⟩ (by rfl) (by rfl) (fun p hp => ?_)
    obtain ⟨q, r⟩ := p
    obtain ⟨i1, i2, i3, i4, i5⟩ := hp
    simp only at i1 i2 i3 i4 i5
    have m0 : 0 ≤ q * (Y % 4294967296) := Int.mul_nonneg (by omega) (by omega)
    have v5 : IntKind.u64.wrap (4294967296 * r) = 4294967296 * r := wrapU (by omega)
    have v6 : IntKind.u64.wrap (4294967296 * r + e / 4294967296) = 4294967296 * r + e / 4294967296 := wrapU (by omega)
    have m1 : q < 4294967296 → q * (Y % 4294967296) ≤ 4294967295 * 4294967295 := fun hq => Int.mul_le_mul (by omega) (by omega) (by omega) (by omega)
    have v7 : q < 4294967296 → IntKind.u64.wrap (q * (Y % 4294967296)) = q * (Y % 4294967296) := fun hq => wrapU ⟨m0, by have := m1 hq; omega⟩
    (refine sy1 ?_; try exact True.intro)
    repeat' (first | refine w1g ?_ | refine w1l ?_ | refine w1q ?_ | refine w1b ?_ | refine w1p ?_ | ((first | refine w1r ?_ | refine w1k ?_ | refine w1e ?_); simp (maxSteps := 400000) (disch := omega) only [push_cast, ↓reduceIte, reduceCtorEq, Nat.reduceAdd, Nat.reduceSub, Nat.reduceEqDiff, Nat.reduceLeDiff, Nat.reduceLT, Nat.reduceBEq, Nat.reduceDiv, Nat.reduceMod, Nat.reducePow, Nat.reduceMul, Int.reduceToNat, Int.reduceLT, Int.reduceLE, v5, v6]) | refine an2 ?_ | fail)
    refine W_cond (by rfl) (fun hb => ?_) (fun hb => ?_)
    · have hc : 4294967296 ≤ q ∨ 4294967296 * r + e / 4294967296 < q * (Y % 4294967296) := by
        rw [Bool.or_eq_true, decide_eq_true_eq, decide_eq_true_eq] at hb
        by_cases hq : 4294967296 ≤ q
        · exact .inl hq
        · rw [v7 (by omega)] at hb
          exact .inr (hb.resolve_left hq)
      obtain ⟨t1, t2⟩ := H1.step i1 (by rw [hQ]; exact i2) hc
      rw [hQ] at t2
      have v8 : IntKind.u64.wrap (q - 1) = q - 1 := wrapU (by omega)
      have v9 : IntKind.u64.wrap (r + Y / 4294967296) = r + Y / 4294967296 := wrapU (by omega)
      repeat' (first | refine w1g ?_ | refine w1l ?_ | refine w1q ?_ | refine w1b ?_ | refine w1p ?_ | ((first | refine w1r ?_ | refine w1k ?_ | refine w1e ?_); simp (maxSteps := 400000) (disch := omega) only [push_cast, ↓reduceIte, reduceCtorEq, Nat.reduceAdd, Nat.reduceSub, Nat.reduceEqDiff, Nat.reduceLeDiff, Nat.reduceLT, Nat.reduceBEq, Nat.reduceDiv, Nat.reduceMod, Nat.reducePow, Nat.reduceMul, Int.reduceToNat, Int.reduceLT, Int.reduceLE, v8, v9]) | refine an2 ?_ | fail)
      refine W_condD (by rfl) (fun hr => ?_) (fun hr => ?_)
      · have hbr := H1.break t1 (by rw [hQ]; exact t2) (by omega) hr
        rw [hQ] at hbr
        repeat' (first | refine w1g ?_ | refine w1l ?_ | refine w1q ?_ | refine w1b ?_ | refine w1p ?_ | ((first | refine w1r ?_ | refine w1k ?_ | refine w1e ?_); (refine sy1 ?_; try exact True.intro)) | refine an2 ?_ | fail)
        refine ⟨by rfl, ?_⟩
        simp (maxSteps := 400000) (disch := omega) only [push_cast, ↓reduceIte, reduceCtorEq, Nat.reduceAdd, Nat.reduceSub, Nat.reduceEqDiff, Nat.reduceLeDiff, Nat.reduceLT, Nat.reduceBEq, Nat.reduceDiv, Nat.reduceMod, Nat.reducePow, Nat.reduceMul, Int.reduceToNat, Int.reduceLT, Int.reduceLE, S.mk.injEq, List.cons.injEq, Prod.mk.injEq, AV.v.injEq, Value.int.injEq, Value.bool.injEq, Blk.cells.injEq, hbr]
      · repeat' (first | refine w1g ?_ | refine w1l ?_ | refine w1q ?_ | refine w1b ?_ | refine w1p ?_ | ((first | refine w1r ?_ | refine w1k ?_ | refine w1e ?_); (refine sy1 ?_; try exact True.intro)) | refine an2 ?_ | fail)
        refine ⟨(q - 1, r + Y / 4294967296), ⟨t1, t2, by simp only []; omega, by simp only []; omega, by simp only []; omega⟩, by simp only []; omega, by rfl, ?_⟩
        (refine syE ?_; try exact True.intro)
    · rw [Bool.or_eq_false_iff, decide_eq_false_iff_not, decide_eq_false_iff_not] at hb
      have hst := H1.stop i1 (by rw [hQ]; exact i2) (by rw [v7 (by omega)] at hb; omega)
      rw [hQ] at hst
      repeat' (first | refine w1g ?_ | refine w1l ?_ | refine w1q ?_ | refine w1b ?_ | refine w1p ?_ | ((first | refine w1r ?_ | refine w1k ?_ | refine w1e ?_); (refine sy1 ?_; try exact True.intro)) | refine an2 ?_ | fail)
      refine ⟨by rfl, ?_⟩
      simp (maxSteps := 400000) (disch := omega) only [push_cast, ↓reduceIte, reduceCtorEq, Nat.reduceAdd, Nat.reduceSub, Nat.reduceEqDiff, Nat.reduceLeDiff, Nat.reduceLT, Nat.reduceBEq, Nat.reduceDiv, Nat.reduceMod, Nat.reducePow, Nat.reduceMul, Int.reduceToNat, Int.reduceLT, Int.reduceLE, S.mk.injEq, List.cons.injEq, Prod.mk.injEq, AV.v.injEq, Value.int.injEq, Value.bool.injEq, Blk.cells.injEq, hst]
  generalize hR : Half.r Y u (e / 4294967296) = R1 at *
  have hRb := H1.r_lt
  rw [hR] at hRb
  have H0 : Half Y R1 (e % 4294967296) := ⟨hsu, hRb, we⟩
  have hR' : u * 4294967296 + e / 4294967296 - Q1 * Y = R1 := by rw [← hR, ← hQ]; rfl
  have x1 : IntKind.u64.wrap (IntKind.u64.wrap (IntKind.u64.wrap (u * 4294967296) + e / 4294967296) - IntKind.u64.wrap (Q1 * Y)) = R1 := wrap_rem hR' (by omega)
  obtain ⟨s1', s2', s3', s4', s5'⟩ := H0.start
  have v1' : R1.tdiv (Y / 4294967296) = R1 / (Y / 4294967296) := Int.tdiv_eq_ediv_of_nonneg hRb.1
  have s0' : 0 ≤ R1 / (Y / 4294967296) := Int.ediv_nonneg hRb.1 (by omega)
  have v2' : IntKind.u64.wrap (R1 / (Y / 4294967296)) = R1 / (Y / 4294967296) := wrapU (by omega)
  have s00' : 0 ≤ R1 / (Y / 4294967296) * (Y / 4294967296) := Int.mul_nonneg s0' (by omega)
  have v3' : IntKind.u64.wrap (R1 / (Y / 4294967296) * (Y / 4294967296)) = R1 / (Y / 4294967296) * (Y / 4294967296) := wrapU (by omega)
  have v4' : IntKind.u64.wrap (R1 - R1 / (Y / 4294967296) * (Y / 4294967296)) = R1 % (Y / 4294967296) := by
    rw [show R1 - R1 / (Y / 4294967296) * (Y / 4294967296) = R1 % (Y / 4294967296) by omega]; exact wrapU (by omega)
  (refine sy1 ?_; try exact True.intro)
  repeat' (first | refine w1g ?_ | refine w1l ?_ | refine w1q ?_ | refine w1b ?_ | refine w1p ?_ | ((first | refine w1r ?_ | refine w1k ?_ | refine w1e ?_); simp (maxSteps := 400000) (disch := omega) only [push_cast, ↓reduceIte, reduceCtorEq, Nat.reduceAdd, Nat.reduceSub, Nat.reduceEqDiff, Nat.reduceLeDiff, Nat.reduceLT, Nat.reduceBEq, Nat.reduceDiv, Nat.reduceMod, Nat.reducePow, Nat.reduceMul, Int.reduceToNat, Int.reduceLT, Int.reduceLE, x1, v1', v2', v3', v4']) | refine an2 ?_ | fail)
  generalize hq0' : R1 / (Y / 4294967296) = q0' at *
  generalize hr0' : R1 % (Y / 4294967296) = r0' at *
  generalize hQ' : Half.q Y R1 (e % 4294967296) = Q0 at *
  have hQb' := H0.lt
  rw [hQ] at hQb
  rw [hQ'] at hQb'
  refine W_meetB [(18, uw Q0)] [] ?_ ?_
  · refine W_loopU (fun p : Int × Int => [(18, uw p.1), (16, uw p.2)]) (fun i => []) (fun p => p.1 * (Y / 4294967296) + p.2 = R1 ∧ Q0 ≤ p.1 ∧ p.1 ≤ 4294967297 ∧ 0 ≤ p.2 ∧ p.2 < 4294967296) (fun p => p.1.toNat) (q0', r0') ⟨s1', s2', s3', s4', s5'⟩ (by rfl) (by rfl) (fun p hp => ?_)
    obtain ⟨q, r⟩ := p
    obtain ⟨i1, i2, i3, i4, i5⟩ := hp
    simp only at i1 i2 i3 i4 i5
    have m0 : 0 ≤ q * (Y % 4294967296) := Int.mul_nonneg (by omega) (by omega)
    have v5 : IntKind.u64.wrap (4294967296 * r) = 4294967296 * r := wrapU (by omega)
    have v6 : IntKind.u64.wrap (4294967296 * r + e % 4294967296) = 4294967296 * r + e % 4294967296 := wrapU (by omega)
    have m1 : q < 4294967296 → q * (Y % 4294967296) ≤ 4294967295 * 4294967295 := fun hq => Int.mul_le_mul (by omega) (by omega) (by omega) (by omega)
    have v7 : q < 4294967296 → IntKind.u64.wrap (q * (Y % 4294967296)) = q * (Y % 4294967296) := fun hq => wrapU ⟨m0, by have := m1 hq; omega⟩
    (refine sy1 ?_; try exact True.intro)
    repeat' (first | refine w1g ?_ | refine w1l ?_ | refine w1q ?_ | refine w1b ?_ | refine w1p ?_ | ((first | refine w1r ?_ | refine w1k ?_ | refine w1e ?_); simp (maxSteps := 400000) (disch := omega) only [push_cast, ↓reduceIte, reduceCtorEq, Nat.reduceAdd, Nat.reduceSub, Nat.reduceEqDiff, Nat.reduceLeDiff, Nat.reduceLT, Nat.reduceBEq, Nat.reduceDiv, Nat.reduceMod, Nat.reducePow, Nat.reduceMul, Int.reduceToNat, Int.reduceLT, Int.reduceLE, v5, v6]) | refine an2 ?_ | fail)
    refine W_cond (by rfl) (fun hb => ?_) (fun hb => ?_)
    · have hc : 4294967296 ≤ q ∨ 4294967296 * r + e % 4294967296 < q * (Y % 4294967296) := by
        rw [Bool.or_eq_true, decide_eq_true_eq, decide_eq_true_eq] at hb
        by_cases hq : 4294967296 ≤ q
        · exact .inl hq
        · rw [v7 (by omega)] at hb
          exact .inr (hb.resolve_left hq)
      obtain ⟨t1, t2⟩ := H0.step i1 (by rw [hQ']; exact i2) hc
      rw [hQ'] at t2
      have v8 : IntKind.u64.wrap (q - 1) = q - 1 := wrapU (by omega)
      have v9 : IntKind.u64.wrap (r + Y / 4294967296) = r + Y / 4294967296 := wrapU (by omega)
      repeat' (first | refine w1g ?_ | refine w1l ?_ | refine w1q ?_ | refine w1b ?_ | refine w1p ?_ | ((first | refine w1r ?_ | refine w1k ?_ | refine w1e ?_); simp (maxSteps := 400000) (disch := omega) only [push_cast, ↓reduceIte, reduceCtorEq, Nat.reduceAdd, Nat.reduceSub, Nat.reduceEqDiff, Nat.reduceLeDiff, Nat.reduceLT, Nat.reduceBEq, Nat.reduceDiv, Nat.reduceMod, Nat.reducePow, Nat.reduceMul, Int.reduceToNat, Int.reduceLT, Int.reduceLE, v8, v9]) | refine an2 ?_ | fail)
      refine W_condD (by rfl) (fun hr => ?_) (fun hr => ?_)
      · have hbr := H0.break t1 (by rw [hQ']; exact t2) (by omega) hr
        rw [hQ'] at hbr
        repeat' (first | refine w1g ?_ | refine w1l ?_ | refine w1q ?_ | refine w1b ?_ | refine w1p ?_ | ((first | refine w1r ?_ | refine w1k ?_ | refine w1e ?_); (refine sy1 ?_; try exact True.intro)) | refine an2 ?_ | fail)
        refine ⟨by rfl, ?_⟩
        simp (maxSteps := 400000) (disch := omega) only [push_cast, ↓reduceIte, reduceCtorEq, Nat.reduceAdd, Nat.reduceSub, Nat.reduceEqDiff, Nat.reduceLeDiff, Nat.reduceLT, Nat.reduceBEq, Nat.reduceDiv, Nat.reduceMod, Nat.reducePow, Nat.reduceMul, Int.reduceToNat, Int.reduceLT, Int.reduceLE, S.mk.injEq, List.cons.injEq, Prod.mk.injEq, AV.v.injEq, Value.int.injEq, Value.bool.injEq, Blk.cells.injEq, hbr]
      · repeat' (first | refine w1g ?_ | refine w1l ?_ | refine w1q ?_ | refine w1b ?_ | refine w1p ?_ | ((first | refine w1r ?_ | refine w1k ?_ | refine w1e ?_); (refine sy1 ?_; try exact True.intro)) | refine an2 ?_ | fail)
        refine ⟨(q - 1, r + Y / 4294967296), ⟨t1, t2, by simp only []; omega, by simp only []; omega, by simp only []; omega⟩, by simp only []; omega, by rfl, ?_⟩
        (refine syE ?_; try exact True.intro)
    · rw [Bool.or_eq_false_iff, decide_eq_false_iff_not, decide_eq_false_iff_not] at hb
      have hst := H0.stop i1 (by rw [hQ']; exact i2) (by rw [v7 (by omega)] at hb; omega)
      rw [hQ'] at hst
      repeat' (first | refine w1g ?_ | refine w1l ?_ | refine w1q ?_ | refine w1b ?_ | refine w1p ?_ | ((first | refine w1r ?_ | refine w1k ?_ | refine w1e ?_); (refine sy1 ?_; try exact True.intro)) | refine an2 ?_ | fail)
      refine ⟨by rfl, ?_⟩
      simp (maxSteps := 400000) (disch := omega) only [push_cast, ↓reduceIte, reduceCtorEq, Nat.reduceAdd, Nat.reduceSub, Nat.reduceEqDiff, Nat.reduceLeDiff, Nat.reduceLT, Nat.reduceBEq, Nat.reduceDiv, Nat.reduceMod, Nat.reducePow, Nat.reduceMul, Int.reduceToNat, Int.reduceLT, Int.reduceLE, S.mk.injEq, List.cons.injEq, Prod.mk.injEq, AV.v.injEq, Value.int.injEq, Value.bool.injEq, Blk.cells.injEq, hst]
  have hQR := hld (e / 4294967296) (e % 4294967296) (by omega) H1 (by rw [hR]; exact H0)
  rw [hR, hQ, hQ'] at hQR
  have hR0 : R1 * 4294967296 + e % 4294967296 - Q0 * Y = Half.r Y R1 (e % 4294967296) := by rw [← hQ']; rfl
  have hRb0 := H0.r_lt
  have x2 := wrap_rem hR0 (by omega)
  have x3 : IntKind.u64.wrap (Q1 * 4294967296) = Q1 * 4294967296 := wrapU (by omega)
  have x4 : IntKind.u64.wrap (Q1 * 4294967296 + Q0) = Q1 * 4294967296 + Q0 := wrapU (by omega)
  have x5 : (Half.r Y R1 (e % 4294967296)).fdiv (2 ^ (64 - n)) = Half.r Y R1 (e % 4294967296) / 2 ^ (64 - n) := Int.fdiv_eq_ediv_of_nonneg _ (Int.le_of_lt hk)
  (refine sy1 ?_; try exact True.intro)
  repeat' (first | refine w1g ?_ | refine w1l ?_ | refine w1q ?_ | refine w1b ?_ | refine w1p ?_ | ((first | refine w1r ?_ | refine w1k ?_ | refine w1e ?_); simp (maxSteps := 400000) (disch := omega) only [push_cast, ↓reduceIte, reduceCtorEq, Nat.reduceAdd, Nat.reduceSub, Nat.reduceEqDiff, Nat.reduceLeDiff, Nat.reduceLT, Nat.reduceBEq, Nat.reduceDiv, Nat.reduceMod, Nat.reducePow, Nat.reduceMul, Int.reduceToNat, Int.reduceLT, Int.reduceLE, x2, x3, x4, w2, x5]) | refine an2 ?_ | fail)
  rw [hQR.1, hQR.2]
  exact W_ret ⟨[_, _], ⟨rfl, rfl, rfl⟩, rfl⟩
end Go.Proofs.Ytfkjdjlcaojedaa

namespace Go.Proofs.Ytfkjdjlcaojedaa
open Go Sy
set_option maxRecDepth 100000
set_option maxHeartbeats 4000000
set_option linter.unusedVariables false
set_option linter.unusedSimpArgs false
theorem c143 (x y : Int) (hx : 0 ≤ x ∧ x < 18446744073709551616) (hy : 0 ≤ y ∧ y < 18446744073709551616) : Sy.Fn Try.prog 143 [uw x, uw y] (.tup [uw (x * y / 18446744073709551616), uw (x * y % 18446744073709551616)]) := by
  obtain ⟨n, rfl⟩ : ∃ n : Nat, x = n := ⟨x.toNat, by omega⟩
  obtain ⟨m, rfl⟩ : ∃ m : Nat, y = m := ⟨y.toNat, by omega⟩
  have h := fn143 n m (by omega) (by omega)
  have e : (n : Int) * m = ((n * m : Nat) : Int) := (Int.natCast_mul n m).symm
  rw [e]
  exact h
def ab (a : Int) : Int := max a (0 - a)
theorem ab_mul (a b : Int) : ab a * ab b = if decide (a < 0) != decide (b < 0) then -(a * b) else a * b := by
  unfold ab
  by_cases ha : a < 0 <;> by_cases hb : b < 0
  · rw [show max a (0 - a) = -a by omega, show max b (0 - b) = -b by omega, Int.neg_mul_neg]; simp [ha, hb]
  · rw [show max a (0 - a) = -a by omega, show max b (0 - b) = b by omega, Int.neg_mul]; simp [ha, hb]
  · rw [show max a (0 - a) = a by omega, show max b (0 - b) = -b by omega, Int.mul_neg]; simp [ha, hb]
  · rw [show max a (0 - a) = a by omega, show max b (0 - b) = b by omega]; simp [ha, hb]
abbrev aFr (a b d : Int) : AV := .agg [iv a, iv b, iv d]
structure FrOK (a b d : Int) : Prop where
  ha : -9223372036854775807 ≤ a ∧ a ≤ 9223372036854775807
  hb : -9223372036854775807 ≤ b ∧ b ≤ 9223372036854775807
  hd : 0 < d ∧ d ≤ 9223372036854775807
  hq : ab a * ab b < d * 4611686018427387904
theorem fn123 (a b d : Int) (h : FrOK a b d) : Sy.Fn Try.prog 123 [aFr a b d] (.tup [iv (ab a * ab b / d), bv (decide (0 < ab a * ab b % d)), bv (decide (a < 0) != decide (b < 0))]) := by
  refine Fn_of_W mixed Xt123 rfl ?_
  have ha := h.ha; have hb := h.hb; have hd := h.hd; have hq := h.hq
  have hA : 0 ≤ ab a ∧ ab a ≤ 9223372036854775807 := by unfold ab; omega
  have hB : 0 ≤ ab b ∧ ab b ≤ 9223372036854775807 := by unfold ab; omega
  have ea : max a (0 - a) = ab a := rfl
  have eb : max b (0 - b) = ab b := rfl
  generalize ab a = A at *
  generalize ab b = B at *
  have hAB : 0 ≤ A * B := Int.mul_nonneg hA.1 hB.1
  have wa : IntKind.u64.wrap A = A := wrapU (by omega)
  have wb : IntKind.u64.wrap B = B := wrapU (by omega)
  have wd : IntKind.u64.wrap d = d := wrapU (by omega)
  have c1 := c143 A B (by omega) (by omega)
  generalize A * B = M at *
  have c2 := fn144 (M / 18446744073709551616) (M % 18446744073709551616) d ⟨by omega, by omega⟩ (by omega) (by omega)
  rw [show M / 18446744073709551616 * 18446744073709551616 + M % 18446744073709551616 = M by omega] at c2
  have q1 : M / d < 4611686018427387904 := by rw [Int.ediv_lt_iff_lt_mul hd.1, Int.mul_comm]; exact hq
  have q0 : 0 ≤ M / d := Int.ediv_nonneg hAB (by omega)
  have wq : IntKind.i64.wrap (M / d) = M / d := wrap64 ⟨by omega, by omega⟩
  repeat' (first | refine w1g ?_ | refine w1l ?_ | refine w1q ?_ | refine w1b ?_ | refine w1p ?_ | ((first | refine w1r ?_ | refine w1k ?_ | refine w1e ?_ | refine CallC.now (c1) ?_ | refine CallC.now (c2) ?_); simp (maxSteps := 400000) (disch := omega) only [push_cast, ↓reduceIte, reduceCtorEq, Nat.reduceAdd, Nat.reduceSub, Nat.reduceEqDiff, Nat.reduceLeDiff, Nat.reduceLT, Nat.reduceBEq, Nat.reduceDiv, Nat.reduceMod, Nat.reducePow, Nat.reduceMul, Int.reduceToNat, Int.reduceLT, Int.reduceLE, ea, eb, wa, wb, wd, wq]) | refine an2 ?_ | fail)
  exact W_ret ⟨[_, _, _], ⟨rfl, rfl, rfl, rfl⟩, rfl⟩
theorem fn94 (a b d : Int) (h : FrOK a b d) : Sy.Fn Try.prog 94 [aFr a b d] (iv (a * b / d)) := by
  refine Fn_of_W mixed Xt94 rfl ?_
  have hd := h.hd; have hq := h.hq
  have c1 := fn123 a b d h
  have hm := ab_mul a b
  have q1 : ab a * ab b / d < 4611686018427387904 := by rw [Int.ediv_lt_iff_lt_mul hd.1]; omega
  have q0 : 0 ≤ ab a * ab b / d := Int.ediv_nonneg (Int.mul_nonneg (by unfold ab; omega) (by unfold ab; omega)) (by omega)
  generalize ab a * ab b = M at *
  have e := Int.ediv_mul_add_emod M d
  have e1 := Int.emod_nonneg M (Int.ne_of_gt hd.1)
  have e2 := Int.emod_lt_of_pos M hd.1
  repeat' (first | refine w1g ?_ | refine w1l ?_ | refine w1q ?_ | refine w1b ?_ | refine w1p ?_ | ((first | refine w1r ?_ | refine w1k ?_ | refine w1e ?_ | refine CallC.now (c1) ?_); (refine sy1 ?_; try exact True.intro)) | refine an2 ?_ | fail)
  refine W_cond (by rfl) (fun h1 => ?_) (fun h1 => ?_)
  · rw [Bool.not_eq_true'] at h1
    rw [h1] at hm
    simp only [Bool.false_eq_true, if_false] at hm
    repeat' (first | refine w1g ?_ | refine w1l ?_ | refine w1q ?_ | refine w1b ?_ | refine w1p ?_ | ((first | refine w1r ?_ | refine w1k ?_ | refine w1e ?_); (refine sy1 ?_; try exact True.intro)) | refine an2 ?_ | fail)
    exact W_ret ⟨[_], ⟨rfl, rfl⟩, by rw [hm]; rfl⟩
  · rw [Bool.not_eq_false'] at h1
    rw [h1, if_pos rfl] at hm
    have hm' : a * b = -M := by omega
    rw [hm']
    repeat' (first | refine w1g ?_ | refine w1l ?_ | refine w1q ?_ | refine w1b ?_ | refine w1p ?_ | ((first | refine w1r ?_ | refine w1k ?_ | refine w1e ?_); (refine sy1 ?_; try exact True.intro)) | refine an2 ?_ | fail)
    refine W_condD (by rfl) (fun h2 => ?_) (fun h2 => ?_)
    · have e3 : -M / d = -(M / d + 1) := by
        have h1 : -(M / d + 1) ≤ -M / d := by rw [Int.le_ediv_iff_mul_le hd.1, Int.neg_mul, Int.add_mul]; omega
        have h3 : -M / d < -(M / d + 1) + 1 := by
          rw [Int.ediv_lt_iff_lt_mul hd.1, Int.add_mul, Int.neg_mul, Int.add_mul]; omega
        omega
      repeat' (first | refine w1g ?_ | refine w1l ?_ | refine w1q ?_ | refine w1b ?_ | refine w1p ?_ | ((first | refine w1r ?_ | refine w1k ?_ | refine w1e ?_); (refine sy1 ?_; try exact True.intro)) | refine an2 ?_ | fail)
      exact W_ret ⟨[_], ⟨rfl, rfl⟩, by rw [e3]; simp; rfl⟩
    · have e3 : -M / d = -(M / d) := by
        have h1 : -(M / d) ≤ -M / d := by rw [Int.le_ediv_iff_mul_le hd.1, Int.neg_mul]; omega
        have h3 : -M / d < -(M / d) + 1 := by
          rw [Int.ediv_lt_iff_lt_mul hd.1, Int.add_mul, Int.neg_mul]; omega
        omega
      repeat' (first | refine w1g ?_ | refine w1l ?_ | refine w1q ?_ | refine w1b ?_ | refine w1p ?_ | ((first | refine w1r ?_ | refine w1k ?_ | refine w1e ?_); (refine sy1 ?_; try exact True.intro)) | refine an2 ?_ | fail)
      exact W_ret ⟨[_], ⟨rfl, rfl⟩, by rw [e3]; simp; rfl⟩
def cdiv (n d : Int) : Int := -(-n / d)
theorem fn55 (a b d : Int) (h : FrOK a b d) : Sy.Fn Try.prog 55 [aFr a b d] (iv (cdiv (a * b) d)) := by
  refine Fn_of_W mixed Xt55 rfl ?_
  have ha := h.ha; have hd := h.hd
  have h' : FrOK (0 - a) b d := ⟨by omega, h.hb, h.hd, by rw [show ab (0 - a) = ab a by unfold ab; omega]; exact h.hq⟩
  have c1 := fn94 (0 - a) b d h'
  have e : (0 - a) * b = -(a * b) := by rw [Int.zero_sub, Int.neg_mul]
  rw [e] at c1
  have hq := h.hq
  have hm := ab_mul a b
  have hAB : 0 ≤ ab a * ab b := Int.mul_nonneg (by unfold ab; omega) (by unfold ab; omega)
  have hb : -(d * 4611686018427387904) ≤ -(a * b) ∧ -(a * b) ≤ d * 4611686018427387904 := by
    split at hm <;> omega
  have b1 : -4611686018427387904 ≤ -(a * b) / d := by rw [Int.le_ediv_iff_mul_le hd.1, Int.neg_mul, Int.mul_comm]; exact hb.1
  have b2 : -(a * b) / d < 4611686018427387905 := by rw [Int.ediv_lt_iff_lt_mul hd.1]; omega
  repeat' (first | refine w1g ?_ | refine w1l ?_ | refine w1q ?_ | refine w1b ?_ | refine w1p ?_ | ((first | refine w1r ?_ | refine w1k ?_ | refine w1e ?_ | refine CallC.now (c1) ?_); (refine sy1 ?_; try exact True.intro)) | refine an2 ?_ | fail)
  exact W_ret ⟨[_], ⟨rfl, rfl⟩, by unfold cdiv; simp; rfl⟩
end Go.Proofs.Ytfkjdjlcaojedaa

namespace Go.Proofs.Ytfkjdjlcaojedaa
open Go Sy
set_option maxRecDepth 100000
set_option maxHeartbeats 4000000
set_option linter.unusedVariables false
set_option linter.unusedSimpArgs false
def inR (x lo hi : Int) : Bool := decide (lo ≤ x) && decide (x ≤ hi)
theorem inR_iff {x lo hi : Int} : inR x lo hi = true ↔ lo ≤ x ∧ x ≤ hi := by simp [inR]
theorem fn53 (x lo hi : Int) : Sy.Fn Try.prog 53 [iv x, iv lo, iv hi] (bv (inR x lo hi)) := by
  refine Fn_of_W mixed Xt53 rfl ?_
  repeat' (first | refine w1g ?_ | refine w1l ?_ | refine w1q ?_ | refine w1b ?_ | refine w1p ?_ | ((first | refine w1r ?_ | refine w1k ?_ | refine w1e ?_); (refine sy1 ?_; try exact True.intro)) | refine an2 ?_ | fail)
  exact W_ret ⟨[_], ⟨rfl, rfl⟩, rfl⟩
def okMass (m : Int) : Bool := inR m 1 16777216
theorem fn54 (m : Int) : Sy.Fn Try.prog 54 [iv m] (bv (okMass m)) := by
  refine Fn_of_W mixed Xt54 rfl ?_
  repeat' (first | refine w1g ?_ | refine w1l ?_ | refine w1q ?_ | refine w1b ?_ | refine w1p ?_ | ((first | refine w1r ?_ | refine w1k ?_ | refine w1e ?_ | refine CallC.now (fn53 _ _ _) ?_); (refine sy1 ?_; try exact True.intro)) | refine an2 ?_ | fail)
  exact W_ret ⟨[_], ⟨rfl, rfl⟩, rfl⟩
structure Pt where
  x : Int
  y : Int
abbrev cPt (p : Pt) : List AV := [iv p.x, iv p.y]
def okPt (p : Pt) : Bool := inR p.x (-262144) 262144 && inR p.y (-262144) 262144
theorem fn57 (p : Pt) : Sy.Fn Try.prog 57 [.agg (cPt p)] (bv (okPt p)) := by
  refine Fn_of_W mixed Xt57 rfl ?_
  repeat' (first | refine w1g ?_ | refine w1l ?_ | refine w1q ?_ | refine w1b ?_ | refine w1p ?_ | ((first | refine w1r ?_ | refine w1k ?_ | refine w1e ?_ | refine CallC.now (fn53 _ _ _) ?_ | refine CallC.go _ (fun _ => ⟨trivial, fn53 _ _ _⟩) rfl ?_); (refine sy1 ?_; try exact True.intro)) | refine an2 ?_ | fail)
  exact W_ret ⟨[_], ⟨rfl, rfl⟩, rfl⟩
def okPlace (x : Int) : Bool := inR x (-16777216) 16777216
theorem fn52 (x : Int) : Sy.Fn Try.prog 52 [iv x] (bv (okPlace x)) := by
  refine Fn_of_W mixed Xt52 rfl ?_
  repeat' (first | refine w1g ?_ | refine w1l ?_ | refine w1q ?_ | refine w1b ?_ | refine w1p ?_ | ((first | refine w1r ?_ | refine w1k ?_ | refine w1e ?_ | refine CallC.now (fn53 _ _ _) ?_); (refine sy1 ?_; try exact True.intro)) | refine an2 ?_ | fail)
  exact W_ret ⟨[_], ⟨rfl, rfl⟩, rfl⟩
def levE (m a b x : Int) : Int := if (!okMass m || !okPlace a || !okPlace b || !okPlace x) = true then 3 else if b ≤ a then 9 else if inR x a b = false then 19 else 0
def levL (m a b x : Int) : Int := if levE m a b x = 0 then cdiv (m * (b - x)) (b - a) else 0
def levR (m a b x : Int) : Int := if levE m a b x = 0 then cdiv (m * (x - a)) (b - a) else 0
theorem levE_ok {m a b x : Int} (h : levE m a b x = 0) : (1 ≤ m ∧ m ≤ 16777216) ∧ (-16777216 ≤ a ∧ a < b ∧ b ≤ 16777216) ∧ a ≤ x ∧ x ≤ b := by
  unfold levE at h
  split at h
  · omega
  · rename_i h1
    split at h
    · omega
    · split at h
      · omega
      · rename_i h2 h3
        simp only [Bool.or_eq_true, Bool.not_eq_true', okMass, okPlace] at h1
        rw [Bool.not_eq_false, inR_iff] at h3
        simp only [not_or, Bool.not_eq_false, inR_iff] at h1
        omega
theorem ab_pos {a : Int} (h : 0 ≤ a) : ab a = a := by unfold ab; omega
theorem mulP {a b c d : Int} (h0 : 0 ≤ b) (h1 : a ≤ c) (h2 : b ≤ d) (h3 : 0 ≤ c) : a * b ≤ c * d := Int.mul_le_mul h1 h2 h0 h3
theorem frac_ok {m p w : Int} (hm : 1 ≤ m ∧ m ≤ 16777216) (hp : 0 ≤ p ∧ p ≤ w) (hw : 0 < w ∧ w ≤ 9223372036854775807) : FrOK m p w := by
  refine ⟨by omega, by omega, hw, ?_⟩
  rw [ab_pos (by omega), ab_pos hp.1]
  have := mulP (a := m) (b := p) (c := 16777216) (d := w) hp.1 hm.2 hp.2 (by omega)
  omega
theorem fn16 (m a b x : Int) : Sy.Fn Try.prog 16 [iv m, iv a, iv b, iv x] (.tup [iv (levL m a b x), iv (levR m a b x), iv (levE m a b x)]) := by
  refine Fn_of_W mixed Xt16 rfl ?_
  repeat' (first | refine w1g ?_ | refine w1l ?_ | refine w1q ?_ | refine w1b ?_ | refine w1p ?_ | ((first | refine w1r ?_ | refine w1k ?_ | refine w1e ?_ | refine CallC.now (fn54 _) ?_ | refine CallC.go _ (fun _ => ⟨trivial, fn52 _⟩) rfl ?_); (refine sy1 ?_; try exact True.intro)) | refine an2 ?_ | fail)
  refine W_cond (by rfl) (fun h1 => ?_) (fun h1 => ?_)
  · have e : levE m a b x = 3 := by unfold levE; rw [if_pos h1]
    unfold levL levR
    rw [if_neg (by omega), if_neg (by omega), e]
    repeat' (first | refine w1g ?_ | refine w1l ?_ | refine w1q ?_ | refine w1b ?_ | refine w1p ?_ | ((first | refine w1r ?_ | refine w1k ?_ | refine w1e ?_); (refine sy1 ?_; try exact True.intro)) | refine an2 ?_ | fail)
    exact W_ret ⟨[_, _, _], ⟨rfl, rfl, rfl, rfl⟩, rfl⟩
  repeat' (first | refine w1g ?_ | refine w1l ?_ | refine w1q ?_ | refine w1b ?_ | refine w1p ?_ | ((first | refine w1r ?_ | refine w1k ?_ | refine w1e ?_); (refine sy1 ?_; try exact True.intro)) | refine an2 ?_ | fail)
  refine W_condD (by rfl) (fun h2 => ?_) (fun h2 => ?_)
  · have e : levE m a b x = 9 := by unfold levE; rw [if_neg (by rw [h1]; decide), if_pos h2]
    unfold levL levR
    rw [if_neg (by omega), if_neg (by omega), e]
    repeat' (first | refine w1g ?_ | refine w1l ?_ | refine w1q ?_ | refine w1b ?_ | refine w1p ?_ | ((first | refine w1r ?_ | refine w1k ?_ | refine w1e ?_); (refine sy1 ?_; try exact True.intro)) | refine an2 ?_ | fail)
    exact W_ret ⟨[_, _, _], ⟨rfl, rfl, rfl, rfl⟩, rfl⟩
  repeat' (first | refine w1g ?_ | refine w1l ?_ | refine w1q ?_ | refine w1b ?_ | refine w1p ?_ | ((first | refine w1r ?_ | refine w1k ?_ | refine w1e ?_ | refine CallC.now (fn53 _ _ _) ?_); (refine sy1 ?_; try exact True.intro)) | refine an2 ?_ | fail)
  refine W_cond (by rfl) (fun h3 => ?_) (fun h3 => ?_)
  · have e : levE m a b x = 19 := by unfold levE; rw [if_neg (by rw [h1]; decide), if_neg h2, if_pos (by simpa using h3)]
    unfold levL levR
    rw [if_neg (by omega), if_neg (by omega), e]
    repeat' (first | refine w1g ?_ | refine w1l ?_ | refine w1q ?_ | refine w1b ?_ | refine w1p ?_ | ((first | refine w1r ?_ | refine w1k ?_ | refine w1e ?_); (refine sy1 ?_; try exact True.intro)) | refine an2 ?_ | fail)
    exact W_ret ⟨[_, _, _], ⟨rfl, rfl, rfl, rfl⟩, rfl⟩
  have e : levE m a b x = 0 := by unfold levE; rw [if_neg (by rw [h1]; decide), if_neg h2, if_neg (by simpa using h3)]
  have ho := levE_ok e
  have c1 := fn55 m (b - x) (b - a) (frac_ok ho.1 (by omega) (by omega))
  have c2 := fn55 m (x - a) (b - a) (frac_ok ho.1 (by omega) (by omega))
  unfold levL levR
  rw [if_pos e, if_pos e, e]
  repeat' (first | refine w1g ?_ | refine w1l ?_ | refine w1q ?_ | refine w1b ?_ | refine w1p ?_ | ((first | refine w1r ?_ | refine w1k ?_ | refine w1e ?_ | refine CallC.now (c1) ?_ | refine CallC.now (c2) ?_); (refine sy1 ?_; try exact True.intro)) | refine an2 ?_ | fail)
  exact W_ret ⟨[_, _, _], ⟨rfl, rfl, rfl, rfl⟩, rfl⟩
end Go.Proofs.Ytfkjdjlcaojedaa

namespace Go.Proofs.Ytfkjdjlcaojedaa
open Go Sy
set_option maxRecDepth 100000
set_option maxHeartbeats 4000000
set_option linter.unusedVariables false
set_option linter.unusedSimpArgs false
def c9 (f : Nat → Int) : List AV := [iv (f 0), iv (f 1), iv (f 2), iv (f 3), iv (f 4), iv (f 5), iv (f 6), iv (f 7), iv (f 8)]
theorem nth9 (f : Nat → Int) (i : Nat) (h : i < 9) : nth (c9 f) i = iv (f i) := by
  rcases i with _ | _ | _ | _ | _ | _ | _ | _ | _ | i <;> first | rfl | omega
theorem len9 (f : Nat → Int) : (c9 f).length = 9 := rfl
theorem frz9 (f : Nat → Int) : frzAll (c9 f) = true := rfl
theorem ids9 {m : Nat → Option Blk} {n : Nat} (f : Nat → Int) : List.flatMap (ids m n) (c9 f) = [] := flat_frz n _ (frz9 f)
theorem take9 (f : Nat → Int) : List.take 9 (c9 f) = c9 f := rfl
theorem vw9 {m : Nat → Option Blk} {n : Nat} (f : Nat → Int) : List.map (view m n) (c9 f) = c9 f := by cases n <;> rfl
attribute [push_cast] nth9 len9 frz9 ids9 take9 vw9
def det (f : Nat → Int) : Int := f 0 * (f 4 * f 8 - f 7 * f 5) - f 1 * (f 3 * f 8 - f 6 * f 5) + f 2 * (f 3 * f 7 - f 6 * f 4)
structure Tab (f : Nat → Int) : Prop where
  n : ∀ g, g < 3 → 0 ≤ f (3 * g) ∧ f (3 * g) ≤ 48
  a : ∀ j, j < 9 → -6291456 ≤ f j ∧ f j ≤ 6291456
theorem mulB {a b A B C : Int} (ha : -A ≤ a ∧ a ≤ A) (hb : -B ≤ b ∧ b ≤ B) (hC : A * B = C) : -C ≤ a * b ∧ a * b ≤ C := by
  have h1 : (a * b).natAbs = a.natAbs * b.natAbs := Int.natAbs_mul ..
  have h2 : a.natAbs * b.natAbs ≤ A.natAbs * B.natAbs := Nat.mul_le_mul (by omega) (by omega)
  have h3 : A.natAbs * B.natAbs = C.natAbs := by rw [← hC, Int.natAbs_mul]
  have h4 : 0 ≤ C := by rw [← hC]; exact Int.mul_nonneg (by omega) (by omega)
  omega
theorem fn124 (f : Nat → Int) (a b : Nat) (ha : a < 3) (hb : b < 3) (h : Tab f) : Sy.Fn Try.prog 124 [iv a, iv b, .fp (c9 f) 0] (iv (f (3 + a) * f (6 + b) - f (6 + a) * f (3 + b))) := by
  refine Fn_of_W mixed Xt124 rfl ?_
  have h1 := mulB (h.a (3 + a) (by omega)) (h.a (6 + b) (by omega)) rfl
  have h2 := mulB (h.a (6 + a) (by omega)) (h.a (3 + b) (by omega)) rfl
  simp only [Int.reduceMul] at h1 h2
  repeat' (first | refine w1g ?_ | refine w1l ?_ | refine w1q ?_ | refine w1b ?_ | refine w1p ?_ | ((first | refine w1r ?_ | refine w1k ?_ | refine w1e ?_); simp (maxSteps := 400000) (disch := omega) only [push_cast, ↓reduceIte, reduceCtorEq, Nat.reduceAdd, Nat.reduceSub, Nat.reduceEqDiff, Nat.reduceLeDiff, Nat.reduceLT, Nat.reduceBEq, Nat.reduceDiv, Nat.reduceMod, Nat.reducePow, Nat.reduceMul, Int.reduceToNat, Int.reduceLT, Int.reduceLE, Nat.mul_one]) | refine an2 ?_ | fail)
  exact W_ret ⟨[_], ⟨rfl, rfl⟩, rfl⟩
theorem det_parts {f : Nat → Int} (h : Tab f) :
    (-3799912185593856 ≤ f 0 * (f 4 * f 8 - f 7 * f 5) ∧ f 0 * (f 4 * f 8 - f 7 * f 5) ≤ 3799912185593856) ∧
    (-3799912185593856 ≤ f 1 * (f 3 * f 8 - f 6 * f 5) ∧ f 1 * (f 3 * f 8 - f 6 * f 5) ≤ 3799912185593856) ∧
    (-3799912185593856 ≤ f 2 * (f 3 * f 7 - f 6 * f 4) ∧ f 2 * (f 3 * f 7 - f 6 * f 4) ≤ 3799912185593856) := by
  have n0 := h.n 0 (by omega)
  have n1 := h.n 1 (by omega)
  have n2 := h.n 2 (by omega)
  simp only [Nat.reduceMul] at n0 n1 n2
  have m1 := mulB (C := 39582418599936) (h.a 4 (by omega)) (h.a 8 (by omega)) (by decide)
  have m2 := mulB (C := 39582418599936) (h.a 7 (by omega)) (h.a 5 (by omega)) (by decide)
  have m3 := mulB (C := 301989888) (A := 48) (show -48 ≤ f 3 ∧ f 3 ≤ 48 by omega) (h.a 8 (by omega)) (by decide)
  have m4 := mulB (C := 301989888) (A := 48) (show -48 ≤ f 6 ∧ f 6 ≤ 48 by omega) (h.a 5 (by omega)) (by decide)
  have m5 := mulB (C := 301989888) (A := 48) (show -48 ≤ f 3 ∧ f 3 ≤ 48 by omega) (h.a 7 (by omega)) (by decide)
  have m6 := mulB (C := 301989888) (A := 48) (show -48 ≤ f 6 ∧ f 6 ≤ 48 by omega) (h.a 4 (by omega)) (by decide)
  exact ⟨mulB (A := 48) (B := 79164837199872) (by omega) (by omega) (by decide), mulB (A := 6291456) (B := 603979776) (h.a 1 (by omega)) (by omega) (by decide), mulB (A := 6291456) (B := 603979776) (h.a 2 (by omega)) (by omega) (by decide)⟩
theorem det_B {f : Nat → Int} (h : Tab f) : -11399736556781568 ≤ det f ∧ det f ≤ 11399736556781568 := by
  have := det_parts h
  unfold det
  omega
theorem fn95 (f : Nat → Int) (h : Tab f) : Sy.Fn Try.prog 95 [.agg (c9 f)] (iv (det f)) := by
  refine Fn_of_W mixed Xt95 rfl ?_
  have c12 := fn124 f 1 2 (by omega) (by omega) h
  have c02 := fn124 f 0 2 (by omega) (by omega) h
  have c01 := fn124 f 0 1 (by omega) (by omega) h
  obtain ⟨b1, b2, b3⟩ := det_parts h
  repeat' (first | refine w1g ?_ | refine w1l ?_ | refine w1q ?_ | refine w1b ?_ | refine w1p ?_ | ((first | refine w1r ?_ | refine w1k ?_ | refine w1e ?_ | refine CallC.now (c12) ?_ | refine CallC.now (c02) ?_ | refine CallC.now (c01) ?_); (refine sy1 ?_; try exact True.intro)) | refine an2 ?_ | fail)
  exact W_ret ⟨[_], ⟨rfl, rfl⟩, rfl⟩
end Go.Proofs.Ytfkjdjlcaojedaa

namespace Go.Proofs.Ytfkjdjlcaojedaa
open Go Sy
set_option maxRecDepth 100000
set_option maxHeartbeats 4000000
set_option linter.unusedVariables false
set_option linter.unusedSimpArgs false
structure Sup where
  x : Int
  y : Int
  g : Int
  limit : Int
  least : Int
  most : Int
def cS (s : Sup) : List AV := [iv s.x, iv s.y, iv s.g, iv s.limit, iv s.least, iv s.most]
theorem nS0 (s : Sup) : nth (cS s) 0 = iv s.x := rfl
theorem nS1 (s : Sup) : nth (cS s) 1 = iv s.y := rfl
theorem nS2 (s : Sup) : nth (cS s) 2 = iv s.g := rfl
theorem nS3 (s : Sup) : nth (cS s) 3 = iv s.limit := rfl
theorem nS4 (s : Sup) : nth (cS s) 4 = iv s.least := rfl
theorem nS5 (s : Sup) : nth (cS s) 5 = iv s.most := rfl
theorem lS (s : Sup) : (cS s).length = 6 := rfl
theorem tS (s : Sup) : List.take 6 (cS s) = cS s := rfl
theorem frS (s : Sup) : frzAll (cS s) = true := rfl
theorem iS {m : Nat → Option Blk} {n : Nat} (s : Sup) : List.flatMap (ids m n) (cS s) = [] := flat_frz n _ (frS s)
attribute [push_cast] nS0 nS1 nS2 nS3 nS4 nS5 lS tS frS iS
def dS : Sup := ⟨0, 0, 0, 0, 0, 0⟩
abbrev aP (ps : List Sup) : AV := .sl 6 dS cS ps
def sp (ps : List Sup) (i : Nat) : Sup := ps.getD i dS
def supB (s : Sup) : Bool := inR s.x (-131072) 131072 && inR s.y (-131072) 131072 && decide (0 ≤ s.g) && decide (s.g ≤ 2) && inR s.limit 1 1048576 && decide (0 ≤ s.least) && decide (s.least ≤ s.most) && decide (s.most ≤ 4096)
def pick (s : Sup) : Nat → Int
  | 0 => 1
  | 1 => s.x
  | _ => s.y
def addK (f : Nat → Int) (s : Sup) (k : Nat) (j : Nat) : Int := f j + if j / 3 = s.g.toNat ∧ j % 3 < k then pick s (j % 3) else 0
def addS (f : Nat → Int) (s : Sup) : Nat → Int := addK f s 3
def sumsL (ps : List Sup) : Nat → Int := ps.foldl addS (fun _ => 0)
theorem sumsL_append (ps : List Sup) (s : Sup) : sumsL (ps ++ [s]) = addS (sumsL ps) s := by simp [sumsL, List.foldl_append]
theorem take_sp (ps : List Sup) (i : Nat) (h : i < ps.length) : ps.take (i + 1) = ps.take i ++ [sp ps i] := by
  rw [List.take_succ_eq_append_getElem h]
  simp [sp, h]
def cDk (ps : List Sup) (f : Nat → Int) (w : Int) : List AV := [.sl 6 dS cS ps, iv (f 0), iv (f 1), iv (f 2), iv (f 3), iv (f 4), iv (f 5), iv (f 6), iv (f 7), iv (f 8), iv w]
theorem nD0 (ps : List Sup) (f : Nat → Int) (w : Int) : nth (cDk ps f w) 0 = .sl 6 dS cS ps := rfl
theorem nDw (ps : List Sup) (f : Nat → Int) (w : Int) : nth (cDk ps f w) 10 = iv w := rfl
theorem nDf (ps : List Sup) (f : Nat → Int) (w : Int) (j : Nat) (h : j < 9) : nth (cDk ps f w) (1 + j) = iv (f j) := by
  rcases j with _ | _ | _ | _ | _ | _ | _ | _ | _ | j <;> first | rfl | omega
theorem lD (ps : List Sup) (f : Nat → Int) (w : Int) : (cDk ps f w).length = 11 := rfl
theorem frD (ps : List Sup) (f : Nat → Int) (w : Int) : frzAll (cDk ps f w) = true := rfl
theorem iD {m : Nat → Option Blk} {n : Nat} (ps : List Sup) (f : Nat → Int) (w : Int) : List.flatMap (ids m n) (cDk ps f w) = [] := flat_frz n _ (frD ps f w)
theorem cutD (ps : List Sup) (f : Nat → Int) (w : Int) : List.take 9 (List.drop 1 (cDk ps f w)) = c9 f := rfl
attribute [push_cast] nD0 nDw nDf lD frD iD cutD
abbrev upd9 (f : Nat → Int) (j : Nat) (v : Int) : Nat → Int := fun i => if i = j then v else f i
theorem setD (ps : List Sup) (f : Nat → Int) (w : Int) (j : Nat) (h : j < 9) (v : Int) : List.take (1 + j) (cDk ps f w) ++ [iv v] ++ List.drop (1 + j + 1) (cDk ps f w) = cDk ps (upd9 f j v) w := by
  rcases j with _ | _ | _ | _ | _ | _ | _ | _ | _ | j <;> first | rfl | omega
theorem setDw (ps : List Sup) (f : Nat → Int) (w v : Int) : List.take 10 (cDk ps f w) ++ [iv v] ++ List.drop 11 (cDk ps f w) = cDk ps f v := rfl
noncomputable def chkP (ps : List Sup) : Int := if ps.length < 3 ∨ 48 < ps.length then 6 else if ps.all supB = false then 2 else if det (sumsL ps) = 0 then 9 else 0
abbrev aDk (ps : List Sup) : AV := .fp (cDk ps (sumsL ps) (det (sumsL ps))) 0
noncomputable def dkR (ps : List Sup) : AV := if chkP ps = 0 then .tup [aDk ps, iv 0] else .tup [.v (.pointer none), iv (chkP ps)]
structure Small (f : Nat → Int) (i : Nat) : Prop where
  n : ∀ g, g < 3 → 0 ≤ f (3 * g) ∧ f (3 * g) ≤ i
  a : ∀ j, j < 9 → -(131072 * (i : Int)) ≤ f j ∧ f j ≤ 131072 * i
  r : ∀ g k, g < 3 → k < 3 → -(131072 * f (3 * g)) ≤ f (3 * g + k) ∧ f (3 * g + k) ≤ 131072 * f (3 * g)
theorem Small.tab {f : Nat → Int} {i : Nat} (h : Small f i) (hi : i ≤ 48) : Tab f :=
  ⟨fun g hg => by have := h.n g hg; omega, fun j hj => by have := h.a j hj; omega⟩
theorem supB_iff {s : Sup} : supB s = true ↔ (-131072 ≤ s.x ∧ s.x ≤ 131072) ∧ (-131072 ≤ s.y ∧ s.y ≤ 131072) ∧ (0 ≤ s.g ∧ s.g ≤ 2) ∧ (1 ≤ s.limit ∧ s.limit ≤ 1048576) ∧ 0 ≤ s.least ∧ s.least ≤ s.most ∧ s.most ≤ 4096 := by
  simp only [supB, Bool.and_eq_true, inR_iff, decide_eq_true_eq]
  omega
theorem pick_small {s : Sup} (h : supB s = true) (k : Nat) : -131072 ≤ pick s k ∧ pick s k ≤ 131072 := by
  have := supB_iff.1 h
  rcases k with _ | _ | k <;> simp only [pick] <;> omega
theorem Small.add {f : Nat → Int} {i : Nat} {s : Sup} (h : Small f i) (hs : supB s = true) : Small (addS f s) (i + 1) := by
  refine ⟨fun g hg => ?_, fun j hj => ?_, fun g k hg hk => ?_⟩
  · have h1 := h.n g hg
    unfold addS addK
    have e : 3 * g % 3 = 0 := by omega
    rw [e]
    simp only [pick]
    split <;> omega
  · have h1 := h.a j hj
    have h2 := pick_small hs (j % 3)
    unfold addS addK
    split <;> omega
  · have h1 := h.r g k hg hk
    have h2 := pick_small hs k
    unfold addS addK
    rw [show 3 * g / 3 = g by omega, show 3 * g % 3 = 0 by omega, show (3 * g + k) / 3 = g by omega, show (3 * g + k) % 3 = k by omega]
    by_cases e : g = s.g.toNat
    · rw [if_pos ⟨e, by omega⟩, if_pos ⟨e, hk⟩]
      simp only [pick] at h2 ⊢
      omega
    · rw [if_neg (fun q => e q.1), if_neg (fun q => e q.1)]
      omega
theorem small0 : Small (fun _ => 0) 0 := ⟨fun g hg => by omega, fun j hj => by omega, fun g k hg hk => by omega⟩
theorem addK_zero (f : Nat → Int) (s : Sup) : addK f s 0 = f := by
  funext j; unfold addK; rw [if_neg (by omega)]; omega
theorem addK_succ (f : Nat → Int) (s : Sup) (k g : Nat) (hg : s.g = g) (hk : k < 3) : upd9 (addK f s k) (g * 3 + k) (f (g * 3 + k) + pick s k) = addK f s (k + 1) := by
  funext j
  unfold upd9 addK
  have e : s.g.toNat = g := by omega
  rw [e]
  by_cases h : j = g * 3 + k
  · rw [if_pos h, if_pos (by omega), h, show (g * 3 + k) % 3 = k by omega]
  · rw [if_neg h]
    by_cases h2 : j / 3 = g ∧ j % 3 < k
    · rw [if_pos h2, if_pos (by omega)]
    · rw [if_neg h2, if_neg (by omega)]
theorem addK_here (f : Nat → Int) (s : Sup) (k g : Nat) (hg : s.g = g) (hk : k < 3) : addK f s k (g * 3 + k) = f (g * 3 + k) := by
  unfold addK; rw [if_neg (by omega)]; omega
end Go.Proofs.Ytfkjdjlcaojedaa

namespace Go.Proofs.Ytfkjdjlcaojedaa
open Go Sy
set_option maxRecDepth 100000
set_option maxHeartbeats 4000000
set_option linter.unusedVariables false
set_option linter.unusedSimpArgs false
theorem dkR_bad {ps : List Sup} {e : Int} (h : chkP ps = e) (he : e ≠ 0) : dkR ps = .tup [.v (.pointer none), iv e] := by
  unfold dkR; rw [if_neg (by omega), h]
theorem all_bad {ps : List Sup} {i : Nat} (hi : i < ps.length) (h : supB (sp ps i) = false) : ps.all supB = false := by
  rw [← Bool.not_eq_true, List.all_eq_true]
  intro hx
  have : sp ps i ∈ ps := by simp only [sp, List.getD, List.getElem?_eq_getElem hi, Option.getD_some]; exact List.getElem_mem hi
  rw [hx _ this] at h; cases h
theorem all_good {ps : List Sup} (h : ∀ i, i < ps.length → supB (sp ps i) = true) : ps.all supB = true := by
  rw [List.all_eq_true]
  intro x hx
  obtain ⟨i, hi⟩ := List.mem_iff_getElem?.1 hx
  have h1 := (List.getElem?_eq_some_iff.1 hi).1
  have := h i h1
  simp only [sp, List.getD, hi, Option.getD_some] at this
  exact this
theorem npick (s : Sup) (k : Nat) (h : k < 3) : nth [iv 1, iv s.x, iv s.y] (k * 1) = iv (pick s k) := by
  rcases k with _ | _ | _ | k <;> first | rfl | omega
theorem fn56 (ps : List Sup) (hl : ps.length ≤ 140737488355328) : Sy.Fn Try.prog 56 [aP ps] (dkR ps) := by
  refine Fn_of_W mixed Xt56 rfl ?_
  repeat' (first | refine w1g ?_ | refine w1l ?_ | refine w1q ?_ | refine w1b ?_ | refine w1p ?_ | ((first | refine w1r ?_ | refine w1k ?_ | refine w1e ?_); (refine sy1 ?_; try exact True.intro)) | refine an2 ?_ | fail)
  refine W_cond (by rfl) (fun h => ?_) (fun h => ?_)
  · have e : chkP ps = 6 := by
      unfold chkP
      rw [if_pos (by simp only [Bool.or_eq_true, decide_eq_true_eq] at h; omega)]
    rw [dkR_bad e (by decide)]
    repeat' (first | refine w1g ?_ | refine w1l ?_ | refine w1q ?_ | refine w1b ?_ | refine w1p ?_ | ((first | refine w1r ?_ | refine w1k ?_ | refine w1e ?_); (refine sy1 ?_; try exact True.intro)) | refine an2 ?_ | fail)
    exact W_ret ⟨[_, _], ⟨rfl, rfl, rfl⟩, rfl⟩
  simp only [Bool.or_eq_false_iff, decide_eq_false_iff_not] at h
  have hlen : 3 ≤ ps.length ∧ ps.length ≤ 48 := by omega
  repeat' (first | refine w1g ?_ | refine w1l ?_ | refine w1q ?_ | refine w1b ?_ | refine w1p ?_ | ((first | refine w1r ?_ | refine w1k ?_ | refine w1e ?_); (refine sy1 ?_; try exact True.intro)) | refine an2 ?_ | fail)
  refine W_loopU (fun i : Nat => [(23, iv i)]) (fun i => [(12, .cells (cDk ps (sumsL (ps.take i)) 0))]) (fun i => i ≤ ps.length ∧ (∀ j, j < i → supB (sp ps j) = true) ∧ Small (sumsL (ps.take i)) i) (fun i => ps.length - i) 0 ⟨by omega, fun j hj => by omega, by rw [List.take_zero]; exact small0⟩ (by rfl) (by rw [List.take_zero]; rfl) (fun i hi => ?_)
  obtain ⟨hi, hall, hsm⟩ := hi
  generalize hf : sumsL (ps.take i) = f at *
  (refine sy1 ?_; try exact True.intro)
  repeat' (first | refine w1g ?_ | refine w1l ?_ | refine w1q ?_ | refine w1b ?_ | refine w1p ?_ | ((first | refine w1r ?_ | refine w1k ?_ | refine w1e ?_); (refine sy1 ?_; try exact True.intro)) | refine an2 ?_ | fail)
  refine W_condD (by rfl) (fun h5 => ?_) (fun h5 => ?_)
  · have hlt : i < ps.length := by omega
    have hsp : ps.getD i dS = sp ps i := rfl
    generalize hs : sp ps i = s at *
    repeat' (first | refine w1g ?_ | refine w1l ?_ | refine w1q ?_ | refine w1b ?_ | refine w1p ?_ | ((first | refine w1r ?_ | refine w1k ?_ | refine w1e ?_ | refine CallC.now (fn53 _ _ _) ?_ | refine CallC.go _ (fun _ => ⟨trivial, fn53 _ _ _⟩) rfl ?_); simp (maxSteps := 400000) (disch := omega) only [push_cast, ↓reduceIte, reduceCtorEq, Nat.reduceAdd, Nat.reduceSub, Nat.reduceEqDiff, Nat.reduceLeDiff, Nat.reduceLT, Nat.reduceBEq, Nat.reduceDiv, Nat.reduceMod, Nat.reducePow, Nat.reduceMul, Int.reduceToNat, Int.reduceLT, Int.reduceLE, hsp]) | refine an2 ?_ | fail)
    have key : (!(inR s.x (-131072) 131072 && inR s.y (-131072) 131072 && decide (0 ≤ s.g) && decide (s.g ≤ 2)) || !inR s.limit 1 1048576 || decide (s.least < 0) || decide (s.most < s.least) || decide (4096 < s.most)) = !supB s := by
      rw [Bool.eq_iff_iff]
      simp only [supB, Bool.or_eq_true, Bool.not_eq_true', Bool.and_eq_false_iff, Bool.and_eq_true, decide_eq_true_eq, decide_eq_false_iff_not]
      generalize inR s.x (-131072) 131072 = b1
      generalize inR s.y (-131072) 131072 = b2
      generalize inR s.limit 1 1048576 = b3
      cases b1 <;> cases b2 <;> cases b3 <;> simp only [true_or, or_true, false_or, or_false, reduceCtorEq] <;> omega
    rw [key]
    refine W_cond (by rfl) (fun hb => ?_) (fun hb => ?_)
    · have e : chkP ps = 2 := by
        unfold chkP
        rw [if_neg (by omega), if_pos (all_bad hlt (by rw [hs]; simpa using hb))]
      rw [dkR_bad e (by decide)]
      repeat' (first | refine w1g ?_ | refine w1l ?_ | refine w1q ?_ | refine w1b ?_ | refine w1p ?_ | ((first | refine w1r ?_ | refine w1k ?_ | refine w1e ?_); (refine sy1 ?_; try exact True.intro)) | refine an2 ?_ | fail)
      exact W_ret ⟨[_, _], ⟨rfl, rfl, rfl⟩, rfl⟩
    have hok : supB s = true := by simpa using hb
    obtain ⟨k1, k2, k3, k4, k5, k6, k7⟩ := supB_iff.1 hok
    obtain ⟨g, hg⟩ : ∃ g : Nat, s.g = g := ⟨s.g.toNat, by omega⟩
    have hg3 : g < 3 := by omega
    repeat' (first | refine w1g ?_ | refine w1l ?_ | refine w1q ?_ | refine w1b ?_ | refine w1p ?_ | ((first | refine w1r ?_ | refine w1k ?_ | refine w1e ?_); (refine sy1 ?_; try exact True.intro)) | refine an2 ?_ | fail)
    refine W_loopU (fun k : Nat => [(75, iv k)]) (fun k => [(12, .cells (cDk ps (addK f s k) 0))]) (fun k => k ≤ 3) (fun k => 3 - k) 0 (by omega) (by rfl) (by rw [addK_zero]; rfl) (fun k hk => ?_)
    (refine sy1 ?_; try exact True.intro)
    repeat' (first | refine w1g ?_ | refine w1l ?_ | refine w1q ?_ | refine w1b ?_ | refine w1p ?_ | ((first | refine w1r ?_ | refine w1k ?_ | refine w1e ?_); (refine sy1 ?_; try exact True.intro)) | refine an2 ?_ | fail)
    refine W_condD (by rfl) (fun h6 => ?_) (fun h6 => ?_)
    · have hk3 : k < 3 := by omega
      have hnp := npick s k hk3
      have hj : g * 3 + k < 9 := by omega
      have ep : 1 + g * 3 + k * 1 = 1 + (g * 3 + k) := by omega
      have hget : nth (cDk ps (addK f s k) 0) (1 + g * 3 + k * 1) = iv (f (g * 3 + k)) := by rw [ep, nDf _ _ _ _ hj, addK_here f s k g hg hk3]
      have hset : List.take (1 + g * 3 + k * 1) (cDk ps (addK f s k) 0) ++ [iv (f (g * 3 + k) + pick s k)] ++ List.drop (1 + g * 3 + k * 1 + 1) (cDk ps (addK f s k) 0) = cDk ps (addK f s (k + 1)) 0 := by
        rw [ep, setD _ _ _ _ hj, addK_succ f s k g hg hk3]
      have hb1 := hsm.a _ hj
      have hb2 := pick_small hok k
      repeat' (first | refine w1g ?_ | refine w1l ?_ | refine w1q ?_ | refine w1b ?_ | refine w1p ?_ | ((first | refine w1r ?_ | refine w1k ?_ | refine w1e ?_); simp (maxSteps := 400000) (disch := omega) only [push_cast, ↓reduceIte, reduceCtorEq, Nat.reduceAdd, Nat.reduceSub, Nat.reduceEqDiff, Nat.reduceLeDiff, Nat.reduceLT, Nat.reduceBEq, Nat.reduceDiv, Nat.reduceMod, Nat.reducePow, Nat.reduceMul, Int.reduceToNat, Int.reduceLT, Int.reduceLE, hnp, hg, hget, hset]) | refine an2 ?_ | fail)
      refine ⟨k + 1, by omega, by omega, by rfl, ?_⟩
      (refine syE ?_; try exact True.intro)
    · obtain rfl : k = 3 := by omega
      have hsu : supB (sp ps i) = true := by rw [hs]; exact hok
      have hnew : sumsL (ps.take (i + 1)) = addK f s 3 := by rw [take_sp ps i hlt, sumsL_append, hf, hs]; rfl
      repeat' (first | refine w1g ?_ | refine w1l ?_ | refine w1q ?_ | refine w1b ?_ | refine w1p ?_ | ((first | refine w1r ?_ | refine w1k ?_ | refine w1e ?_); (refine sy1 ?_; try exact True.intro)) | refine an2 ?_ | fail)
      refine ⟨i + 1, ⟨by omega, fun j hj => ?_, by rw [hnew]; exact hsm.add hok⟩, by omega, by rfl, ?_⟩
      · rcases Nat.lt_succ_iff_lt_or_eq.1 hj with hj | rfl
        · exact hall j hj
        · exact hsu
      rw [hnew]
      (refine syE ?_; try exact True.intro)
  · have hfull : ps.take i = ps := by rw [show i = ps.length by omega, List.take_length]
    rw [hfull] at hf
    have hgood := all_good (fun j hj => hall j (by omega))
    have htab := hsm.tab (by omega)
    have c95 := fn95 f htab
    repeat' (first | refine w1g ?_ | refine w1l ?_ | refine w1q ?_ | refine w1b ?_ | refine w1p ?_ | ((first | refine w1r ?_ | refine w1k ?_ | refine w1e ?_ | refine CallC.now (c95) ?_); simp (maxSteps := 400000) (disch := omega) only [push_cast, ↓reduceIte, reduceCtorEq, Nat.reduceAdd, Nat.reduceSub, Nat.reduceEqDiff, Nat.reduceLeDiff, Nat.reduceLT, Nat.reduceBEq, Nat.reduceDiv, Nat.reduceMod, Nat.reducePow, Nat.reduceMul, Int.reduceToNat, Int.reduceLT, Int.reduceLE, setDw]) | refine an2 ?_ | fail)
    have hch : chkP ps = if det f = 0 then 9 else 0 := by
      unfold chkP; rw [if_neg (by omega), hgood, if_neg (by decide), hf]
    refine W_cond (by rfl) (fun hb => ?_) (fun hb => ?_)
    · rw [beq_iff_eq] at hb
      rw [if_pos hb] at hch
      rw [dkR_bad hch (by decide)]
      repeat' (first | refine w1g ?_ | refine w1l ?_ | refine w1q ?_ | refine w1b ?_ | refine w1p ?_ | ((first | refine w1r ?_ | refine w1k ?_ | refine w1e ?_); (refine sy1 ?_; try exact True.intro)) | refine an2 ?_ | fail)
      exact W_ret ⟨[_, _], ⟨rfl, rfl, rfl⟩, rfl⟩
    · rw [beq_eq_false_iff_ne] at hb
      rw [if_neg hb] at hch
      have hR : dkR ps = .tup [.fp (cDk ps f (det f)) 0, iv 0] := by unfold dkR aDk; rw [if_pos hch, hf]
      rw [hR]
      repeat' (first | refine w1g ?_ | refine w1l ?_ | refine w1q ?_ | refine w1b ?_ | refine w1p ?_ | ((first | refine w1r ?_ | refine w1k ?_ | refine w1e ?_); (refine sy1 ?_; try exact True.intro)) | refine an2 ?_ | fail)
      refine W_ret ⟨[_, _], ⟨rfl, rfl, rfl⟩, ?_⟩
      simp (maxSteps := 400000) (disch := omega) only [push_cast, ↓reduceIte, reduceCtorEq, Nat.reduceAdd, Nat.reduceSub, Nat.reduceEqDiff, Nat.reduceLeDiff, Nat.reduceLT, Nat.reduceBEq, Nat.reduceDiv, Nat.reduceMod, Nat.reducePow, Nat.reduceMul, Int.reduceToNat, Int.reduceLT, Int.reduceLE, pack]
      rfl
theorem chkP_ok {ps : List Sup} (h : chkP ps = 0) : (3 ≤ ps.length ∧ ps.length ≤ 48) ∧ (∀ i, i < ps.length → supB (sp ps i) = true) ∧ det (sumsL ps) ≠ 0 := by
  unfold chkP at h
  split at h
  · omega
  · rename_i h1
    split at h
    · omega
    · rename_i h2
      split at h
      · omega
      · rename_i h3
        refine ⟨by omega, fun i hi => ?_, h3⟩
        rw [← Bool.not_eq_false]
        intro hb
        exact h2 (all_bad hi hb)
theorem sums_small (ps : List Sup) (h : ∀ i, i < ps.length → supB (sp ps i) = true) : ∀ n, n ≤ ps.length → Small (sumsL (ps.take n)) n
  | 0, _ => by rw [List.take_zero]; exact small0
  | n + 1, hn => by rw [take_sp ps n hn, sumsL_append]; exact (sums_small ps h n (by omega)).add (h n hn)
theorem sums_tab {ps : List Sup} (h : chkP ps = 0) : Tab (sumsL ps) := by
  obtain ⟨h1, h2, h3⟩ := chkP_ok h
  have := sums_small ps h2 ps.length (Nat.le_refl _)
  rw [List.take_length] at this
  exact this.tab (by omega)
theorem c56 (ps : List Sup) (hl : ps.length ≤ 140737488355328) (h : chkP ps = 0) : Sy.Fn Try.prog 56 [aP ps] (.tup [aDk ps, iv 0]) := by
  have := fn56 ps hl
  unfold dkR at this
  rw [if_pos h] at this
  exact this
theorem c56n (ps : List Sup) (hl : ps.length ≤ 140737488355328) (h : ¬ chkP ps = 0) : Sy.Fn Try.prog 56 [aP ps] (.tup [.v (.pointer none), iv (chkP ps)]) := by
  have := fn56 ps hl
  unfold dkR at this
  rw [if_neg h] at this
  exact this
end Go.Proofs.Ytfkjdjlcaojedaa

namespace Go.Proofs.Ytfkjdjlcaojedaa
open Go Sy
set_option maxRecDepth 100000
set_option maxHeartbeats 4000000
set_option linter.unusedVariables false
set_option linter.unusedSimpArgs false
def c3 (f : Nat → Int) : List AV := [iv (f 0), iv (f 1), iv (f 2)]
theorem nth3 (f : Nat → Int) (i : Nat) (h : i < 3) : nth (c3 f) i = iv (f i) := by
  rcases i with _ | _ | _ | i <;> first | rfl | omega
theorem len3 (f : Nat → Int) : (c3 f).length = 3 := rfl
theorem frz3 (f : Nat → Int) : frzAll (c3 f) = true := rfl
theorem ids3 {m : Nat → Option Blk} {n : Nat} (f : Nat → Int) : List.flatMap (ids m n) (c3 f) = [] := flat_frz n _ (frz3 f)
theorem take3 (f : Nat → Int) : List.take 3 (c3 f) = c3 f := rfl
theorem vw3 {m : Nat → Option Blk} {n : Nat} (f : Nat → Int) : List.map (view m n) (c3 f) = c3 f := by cases n <;> rfl
theorem drop3 (f : Nat → Int) : List.drop 3 (c3 f) = [] := rfl
attribute [push_cast] nth3 len3 frz3 ids3 take3 vw3 drop3
def upto (h : Nat → Int) (k : Nat) (j : Nat) : Int := if j < k then h j else 0
theorem set3 (h : Nat → Int) (k : Nat) (hk : k < 3) : List.take k (c3 (upto h k)) ++ [iv (h k)] ++ List.drop (k + 1) (c3 (upto h k)) = c3 (upto h (k + 1)) := by
  rcases k with _ | _ | _ | k <;> first | rfl | omega
theorem set3' (h : Nat → Int) (k : Nat) (hk : k < 3) : List.take (k * 1) (c3 (upto h k)) ++ [iv (h k)] ++ List.drop (k * 1 + 1) (c3 (upto h k)) = c3 (upto h (k + 1)) := by
  rw [Nat.mul_one]; exact set3 h k hk
theorem upto3 (h : Nat → Int) : c3 (upto h 3) = c3 h := rfl
def rowP (p : Pt) : Nat → Int
  | 0 => 1
  | 1 => p.x
  | _ => p.y
def putRow (f : Nat → Int) (g : Nat) (p : Pt) (j : Nat) : Int := if j / 3 = g then rowP p (j % 3) else f j
theorem put9 (f : Nat → Int) (g : Nat) (p : Pt) (h : g < 3) : List.take (g * 3) (c9 f) ++ [iv 1, iv p.x, iv p.y] ++ List.drop (g * 3 + 3) (c9 f) = c9 (putRow f g p) := by
  rcases g with _ | _ | _ | g <;> first | rfl | omega
theorem okPt_iff {p : Pt} : okPt p = true ↔ (-262144 ≤ p.x ∧ p.x ≤ 262144) ∧ -262144 ≤ p.y ∧ p.y ≤ 262144 := by
  simp only [okPt, Bool.and_eq_true, inR_iff]
theorem putRow_tab {f : Nat → Int} {p : Pt} (g : Nat) (h : Tab f) (hp : okPt p = true) : Tab (putRow f g p) := by
  have hp := okPt_iff.1 hp
  refine ⟨fun k hk => ?_, fun j hj => ?_⟩
  · unfold putRow
    have e : 3 * k % 3 = 0 := by omega
    rw [e]
    split
    · simp only [rowP]; omega
    · exact h.n k hk
  · unfold putRow
    split
    · rcases (j % 3) with _ | _ | k <;> simp only [rowP] <;> omega
    · exact h.a j hj
def sgn (w : Int) : Int := if w < 0 then -1 else 1
def part (ps : List Sup) (p : Pt) (g : Nat) : Int := sgn (det (sumsL ps)) * det (putRow (sumsL ps) g p)
def whole (ps : List Sup) : Int := sgn (det (sumsL ps)) * det (sumsL ps)
theorem sgn_mul (w x : Int) : sgn w * x = if w < 0 then -x else x := by unfold sgn; split <;> omega
theorem part_B {ps : List Sup} {p : Pt} (g : Nat) (h : chkP ps = 0) (hp : okPt p = true) : -11399736556781568 ≤ part ps p g ∧ part ps p g ≤ 11399736556781568 := by
  have := det_B (putRow_tab g (sums_tab h) hp)
  unfold part
  rw [sgn_mul]
  split <;> omega
theorem whole_B {ps : List Sup} (h : chkP ps = 0) : 0 < whole ps ∧ whole ps ≤ 11399736556781568 := by
  have h1 := det_B (sums_tab h)
  have h2 := (chkP_ok h).2.2
  unfold whole
  rw [sgn_mul]
  split <;> omega
theorem fn60 (ps : List Sup) (p : Pt) (h : chkP ps = 0) (hp : okPt p = true) : Sy.Fn Try.prog 60 [aDk ps, .agg (cPt p)] (.tup [.agg (c3 (part ps p)), iv (whole ps)]) := by
  refine Fn_of_W mixed Xt60 rfl ?_
  have hw := whole_B h
  have hd := det_B (sums_tab h)
  have c95 := fun g => fn95 (putRow (sumsL ps) g p) (putRow_tab g (sums_tab h) hp)
  have hpart : ∀ g, IntKind.i64.wrap (sgn (det (sumsL ps)) * det (putRow (sumsL ps) g p)) = part ps p g := fun g => by
    have := part_B g h hp
    exact wrap64 ⟨by unfold part at this; omega, by unfold part at this; omega⟩
  have hwh : IntKind.i64.wrap (sgn (det (sumsL ps)) * det (sumsL ps)) = whole ps := by
    exact wrap64 ⟨by unfold whole at hw; omega, by unfold whole at hw; omega⟩
  have htab := sums_tab h
  unfold aDk
  generalize hF : sumsL ps = F at *
  repeat' (first | refine w1g ?_ | refine w1l ?_ | refine w1q ?_ | refine w1b ?_ | refine w1p ?_ | ((first | refine w1r ?_ | refine w1k ?_ | refine w1e ?_); (refine sy1 ?_; try exact True.intro)) | refine an2 ?_ | fail)
  refine W_meet [(6, iv (sgn (det F)))] [] ?_ ?_
  · unfold sgn
    refine W_condD (by rfl) (fun h1 => ?_) (fun h1 => ?_)
    · rw [if_pos h1]
      repeat' (first | refine w1g ?_ | refine w1l ?_ | refine w1q ?_ | refine w1b ?_ | refine w1p ?_ | ((first | refine w1r ?_ | refine w1k ?_ | refine w1e ?_); (refine sy1 ?_; try exact True.intro)) | refine an2 ?_ | fail)
      rfl
    · rw [if_neg h1]
      repeat' (first | refine w1g ?_ | refine w1l ?_ | refine w1q ?_ | refine w1b ?_ | refine w1p ?_ | ((first | refine w1r ?_ | refine w1k ?_ | refine w1e ?_); (refine sy1 ?_; try exact True.intro)) | refine an2 ?_ | fail)
      rfl
  (refine sy1 ?_; try exact True.intro)
  repeat' (first | refine w1g ?_ | refine w1l ?_ | refine w1q ?_ | refine w1b ?_ | refine w1p ?_ | ((first | refine w1r ?_ | refine w1k ?_ | refine w1e ?_); (refine sy1 ?_; try exact True.intro)) | refine an2 ?_ | fail)
  refine W_loopU (fun k : Nat => [(14, iv k)]) (fun k => [(1, .cells (c3 (upto (part ps p) k)))]) (fun k => k ≤ 3) (fun k => 3 - k) 0 (by omega) (by rfl) (by rfl) (fun k hk => ?_)
  (refine sy1 ?_; try exact True.intro)
  repeat' (first | refine w1g ?_ | refine w1l ?_ | refine w1q ?_ | refine w1b ?_ | refine w1p ?_ | ((first | refine w1r ?_ | refine w1k ?_ | refine w1e ?_); (refine sy1 ?_; try exact True.intro)) | refine an2 ?_ | fail)
  refine W_condD (by rfl) (fun h6 => ?_) (fun h6 => ?_)
  · have hk3 : k < 3 := by omega
    have hput := put9 F k p hk3
    have hset := set3' (part ps p) k hk3
    repeat' (first | refine w1g ?_ | refine w1l ?_ | refine w1q ?_ | refine w1b ?_ | refine w1p ?_ | ((first | refine w1r ?_ | refine w1k ?_ | refine w1e ?_ | refine CallC.now (c95 k) ?_); simp (maxSteps := 400000) (disch := omega) only [push_cast, ↓reduceIte, reduceCtorEq, Nat.reduceAdd, Nat.reduceSub, Nat.reduceEqDiff, Nat.reduceLeDiff, Nat.reduceLT, Nat.reduceBEq, Nat.reduceDiv, Nat.reduceMod, Nat.reducePow, Nat.reduceMul, Int.reduceToNat, Int.reduceLT, Int.reduceLE, hput, hset, hpart]) | refine an2 ?_ | fail)
    refine ⟨k + 1, by omega, by omega, by rfl, ?_⟩
    (refine syE ?_; try exact True.intro)
  · obtain rfl : k = 3 := by omega
    repeat' (first | refine w1g ?_ | refine w1l ?_ | refine w1q ?_ | refine w1b ?_ | refine w1p ?_ | ((first | refine w1r ?_ | refine w1k ?_ | refine w1e ?_); simp (maxSteps := 400000) (disch := omega) only [push_cast, ↓reduceIte, reduceCtorEq, Nat.reduceAdd, Nat.reduceSub, Nat.reduceEqDiff, Nat.reduceLeDiff, Nat.reduceLT, Nat.reduceBEq, Nat.reduceDiv, Nat.reduceMod, Nat.reducePow, Nat.reduceMul, Int.reduceToNat, Int.reduceLT, Int.reduceLE, upto3, hwh]) | refine an2 ?_ | fail)
    refine W_ret ⟨[_, _], ⟨⟨by simp [len3], rfl⟩, rfl, rfl⟩, ?_⟩
    rfl
end Go.Proofs.Ytfkjdjlcaojedaa

namespace Go.Proofs.Ytfkjdjlcaojedaa
open Go Sy
set_option maxRecDepth 100000
set_option maxHeartbeats 4000000
set_option linter.unusedVariables false
set_option linter.unusedSimpArgs false
def idxF {α : Type} (p : α → Bool) : List α → Int → Int
  | [], _ => -1
  | x :: r, i => if p x then i else idxF p r (i + 1)
theorem idxF_at {α : Type} (p : α → Bool) (d : α) : ∀ (l : List α) (i : Nat) (k : Int), i < l.length → (∀ j, j < i → p (l.getD j d) = false) → p (l.getD i d) = true → idxF p l k = k + i
  | [], i, k, h, _, _ => by simp at h
  | x :: r, 0, k, _, _, h => by simp at h; simp [idxF, h]
  | x :: r, i + 1, k, h, hj, hp => by
    have h0 : p x = false := by simpa using hj 0 (by omega)
    have := idxF_at p d r i (k + 1) (by simpa using h) (fun j hlt => by simpa using hj (j + 1) (by omega)) (by simpa using hp)
    simp only [idxF, h0, Bool.false_eq_true, if_false, this]
    omega
theorem idxF_none {α : Type} (p : α → Bool) (d : α) : ∀ (l : List α) (k : Int), (∀ j, j < l.length → p (l.getD j d) = false) → idxF p l k = -1
  | [], k, _ => rfl
  | x :: r, k, h => by
    have h0 : p x = false := by simpa using h 0 (by simp)
    have := idxF_none p d r (k + 1) (fun j hlt => by simpa using h (j + 1) (by simpa using hlt))
    simp only [idxF, h0, Bool.false_eq_true, if_false, this]
theorem idxF_any {α : Type} (p : α → Bool) : ∀ (l : List α) (k : Int), 0 ≤ k → decide (0 ≤ idxF p l k) = l.any p
  | [], k, _ => by simp [idxF]
  | x :: r, k, h => by
    simp only [idxF, List.any_cons]
    by_cases hp : p x = true
    · simp [hp, h]
    · simp only [hp]
      simpa using idxF_any p r (k + 1) (by omega)
theorem up_all {p : Nat → Prop} {i : Nat} (h : ∀ j, j < i → p j) (hi : p i) : ∀ j, j < i + 1 → p j := fun j hj => by
  rcases Nat.lt_succ_iff_lt_or_eq.1 hj with hj | rfl
  · exact h j hj
  · exact hi
def cI (n : Int) : List AV := [iv n]
theorem nI (n : Int) : nth (cI n) 0 = iv n := rfl
theorem lI (n : Int) : (cI n).length = 1 := rfl
attribute [push_cast] nI lI
theorem getD_mem {α : Type} (d : α) (l : List α) (i : Nat) (h : i < l.length) : l.getD i d ∈ l := by
  simp only [List.getD, List.getElem?_eq_getElem h, Option.getD_some]; exact List.getElem_mem h
theorem fn96 (l : List Int) (hl : l.length ≤ 1000000) (g : Nat) (fi ca : List AV) (p : Int → Bool) (hg : ∀ x ∈ l, Sy.Fn Try.prog g (fi ++ [iv x] ++ ca) (bv (p x))) : Sy.Fn Try.prog 96 [.sl 1 0 cI l, .clo g fi ca] (iv (idxF p l 0)) := by
  refine Fn_of_W mixed Xt96 rfl ?_
  repeat' (first | refine w1g ?_ | refine w1l ?_ | refine w1q ?_ | refine w1b ?_ | refine w1p ?_ | ((first | refine w1r ?_ | refine w1k ?_ | refine w1e ?_); (refine sy1 ?_; try exact True.intro)) | refine an2 ?_ | fail)
  refine W_loopU (fun i : Nat => [(8, iv i)]) (fun i => []) (fun i => i ≤ l.length ∧ ∀ j, j < i → p (l.getD j 0) = false) (fun i => l.length - i) 0 ⟨by omega, fun j hj => by omega⟩ (by rfl) (by rfl) (fun i hi => ?_)
  obtain ⟨hi, hp⟩ := hi
  (refine sy1 ?_; try exact True.intro)
  repeat' (first | refine w1g ?_ | refine w1l ?_ | refine w1q ?_ | refine w1b ?_ | refine w1p ?_ | ((first | refine w1r ?_ | refine w1k ?_ | refine w1e ?_); (refine sy1 ?_; try exact True.intro)) | refine an2 ?_ | fail)
  refine W_condD (by rfl) (fun h => ?_) (fun h => ?_)
  · have hlt : i < l.length := by omega
    have cg := hg _ (getD_mem 0 l i hlt)
    repeat' (first | refine w1g ?_ | refine w1l ?_ | refine w1q ?_ | refine w1b ?_ | refine w1p ?_ | ((first | refine w1r ?_ | refine w1k ?_ | refine w1e ?_ | refine CallC.now (cg) ?_); (refine sy1 ?_; try exact True.intro)) | refine an2 ?_ | fail)
    refine W_cond (by rfl) (fun hb => ?_) (fun hb => ?_)
    · repeat' (first | refine w1g ?_ | refine w1l ?_ | refine w1q ?_ | refine w1b ?_ | refine w1p ?_ | ((first | refine w1r ?_ | refine w1k ?_ | refine w1e ?_); (refine sy1 ?_; try exact True.intro)) | refine an2 ?_ | fail)
      exact W_ret ⟨[_], ⟨rfl, rfl⟩, by rw [idxF_at p 0 l i 0 hlt hp hb, Int.zero_add]; rfl⟩
    · repeat' (first | refine w1g ?_ | refine w1l ?_ | refine w1q ?_ | refine w1b ?_ | refine w1p ?_ | ((first | refine w1r ?_ | refine w1k ?_ | refine w1e ?_); (refine sy1 ?_; try exact True.intro)) | refine an2 ?_ | fail)
      refine ⟨i + 1, ⟨by omega, up_all hp hb⟩, by omega, by rfl, ?_⟩
      (refine syE ?_; try exact True.intro)
  · repeat' (first | refine w1g ?_ | refine w1l ?_ | refine w1q ?_ | refine w1b ?_ | refine w1p ?_ | ((first | refine w1r ?_ | refine w1k ?_ | refine w1e ?_); (refine sy1 ?_; try exact True.intro)) | refine an2 ?_ | fail)
    exact W_ret ⟨[_], ⟨rfl, rfl⟩, by rw [idxF_none p 0 l 0 (fun j hj => hp j (by omega))]; rfl⟩
theorem fn99 (l : List Int) (hl : l.length ≤ 1000000) (g : Nat) (fi ca : List AV) (p : Int → Bool) (hg : ∀ x ∈ l, Sy.Fn Try.prog g (fi ++ [iv x] ++ ca) (bv (p x))) : Sy.Fn Try.prog 99 [.sl 1 0 cI l, .clo g fi ca] (bv (l.any p)) := by
  refine Fn_of_W mixed Xt99 rfl ?_
  repeat' (first | refine w1g ?_ | refine w1l ?_ | refine w1q ?_ | refine w1b ?_ | refine w1p ?_ | ((first | refine w1r ?_ | refine w1k ?_ | refine w1e ?_ | refine CallC.now (fn96 l hl g fi ca p hg) ?_); (refine sy1 ?_; try exact True.intro)) | refine an2 ?_ | fail)
  exact W_ret ⟨[_], ⟨rfl, rfl⟩, by rw [← idxF_any p l 0 (by omega)]; rfl⟩
theorem fn97 (x : Int) : Sy.Fn Try.prog 97 [iv x] (bv (decide (x < 0))) := by
  refine Fn_of_W mixed Xt97 rfl ?_
  repeat' (first | refine w1g ?_ | refine w1l ?_ | refine w1q ?_ | refine w1b ?_ | refine w1p ?_ | ((first | refine w1r ?_ | refine w1k ?_ | refine w1e ?_); (refine sy1 ?_; try exact True.intro)) | refine an2 ?_ | fail)
  exact W_ret ⟨[_], ⟨rfl, rfl⟩, rfl⟩
def tipsF (ps : List Sup) (p : Pt) : Int := idxF (fun x => decide (x < 0)) [part ps p 0, part ps p 1, part ps p 2] 0
theorem fn58 (ps : List Sup) (p : Pt) (h : chkP ps = 0) (hp : okPt p = true) : Sy.Fn Try.prog 58 [aDk ps, .agg (cPt p)] (iv (tipsF ps p)) := by
  refine Fn_of_W mixed Xt58 rfl ?_
  have c60 := fn60 ps p h hp
  have c96 := fn96 [part ps p 0, part ps p 1, part ps p 2] (Nat.le_of_ble_eq_true rfl) 97 [] [] (fun x => decide (x < 0)) (fun x _ => fn97 x)
  refine W_seq (W_regL ?_)
  (refine sy1 ?_; try exact True.intro)
  refine W_seq (W_regL ?_)
  (refine sy1 ?_; try exact True.intro)
  refine CallC.now c60 ?_
  (refine sy1 ?_; try exact True.intro)
  refine W_le (le_frz 5 [] [] 11 8 0 (c3 (part ps p)) rfl rfl (frz3 _) rfl rfl) ?_
  (refine sy1 ?_; try exact True.intro)
  refine W_seq (W_regL ?_)
  (refine sy1 ?_; try exact True.intro)
  refine ⟨Int, 0, cI, [part ps p 0, part ps p 1, part ps p 2], fun _ => ⟨by simp [len3], rfl, by omega, fun x _ => rfl, rfl⟩, ?_⟩
  (refine sy1 ?_; try exact True.intro)
  refine CallC.now c96 ?_
  (refine sy1 ?_; try exact True.intro)
  exact W_ret ⟨[_], ⟨rfl, rfl⟩, rfl⟩
def sharesE (ps : List Sup) (m : Int) (p : Pt) : Int :=
  if (!okMass m || !okPt p) = true then 3 else if 0 ≤ tipsF ps p then 19
  else if (ps.any fun s => decide (s.limit < cdiv (m * part ps p s.g.toNat) (whole ps))) = true then 14 else 0
def shareV (ps : List Sup) (m : Int) (p : Pt) (g : Nat) : Int := cdiv (m * part ps p g) (whole ps)
def sharesV (ps : List Sup) (m : Int) (p : Pt) : Nat → Int := if sharesE ps m p = 0 then shareV ps m p else fun _ => 0
theorem tips_none {ps : List Sup} {p : Pt} (h : ¬ 0 ≤ tipsF ps p) : ∀ g, g < 3 → 0 ≤ part ps p g := by
  have h1 := idxF_any (fun x => decide (x < 0)) [part ps p 0, part ps p 1, part ps p 2] 0 (by omega)
  change decide (0 ≤ tipsF ps p) = _ at h1
  rw [decide_eq_false h] at h1
  simp only [List.any_cons, List.any_nil, Bool.or_false] at h1
  have h2 := h1.symm
  simp only [Bool.or_eq_false_iff, decide_eq_false_iff_not] at h2
  intro g hg
  rcases (show g = 0 ∨ g = 1 ∨ g = 2 by omega) with rfl | rfl | rfl <;> omega
theorem det_row0 {f : Nat → Int} {g : Nat} (hg : g < 3) (h : f (3 * g) = 0 ∧ f (3 * g + 1) = 0 ∧ f (3 * g + 2) = 0) : det f = 0 := by
  unfold det
  rcases g with _ | _ | _ | g
  · obtain ⟨h1, h2, h3⟩ := h
    simp only [Nat.reduceMul, Nat.reduceAdd] at h1 h2 h3
    rw [h1, h2, h3]; grind
  · obtain ⟨h1, h2, h3⟩ := h
    simp only [Nat.reduceMul, Nat.reduceAdd] at h1 h2 h3
    rw [h1, h2, h3]; grind
  · obtain ⟨h1, h2, h3⟩ := h
    simp only [Nat.reduceMul, Nat.reduceAdd] at h1 h2 h3
    rw [h1, h2, h3]; grind
  · omega
theorem cramer (f : Nat → Int) (p : Pt) : f 0 * det (putRow f 0 p) + f 3 * det (putRow f 1 p) + f 6 * det (putRow f 2 p) = det f ∧
    f 1 * det (putRow f 0 p) + f 4 * det (putRow f 1 p) + f 7 * det (putRow f 2 p) = det f * p.x ∧
    f 2 * det (putRow f 0 p) + f 5 * det (putRow f 1 p) + f 8 * det (putRow f 2 p) = det f * p.y := by
  simp only [det, putRow, Nat.reduceDiv, Nat.reduceMod, Nat.reduceEqDiff, if_true, if_false, rowP, reduceCtorEq, ite_true, ite_false]
  refine ⟨?_, ?_, ?_⟩ <;> grind
theorem sums_small' {ps : List Sup} (h : chkP ps = 0) : Small (sumsL ps) ps.length := by
  have := sums_small ps (chkP_ok h).2.1 ps.length (Nat.le_refl _)
  rw [List.take_length] at this
  exact this
theorem count_pos {ps : List Sup} (h : chkP ps = 0) : ∀ g, g < 3 → 1 ≤ sumsL ps (3 * g) := fun g hg => by
  have hs := sums_small' h
  have h1 := hs.n g hg
  by_cases h0 : sumsL ps (3 * g) = 0
  · exfalso
    have h2 := hs.r g 1 hg (by omega)
    have h3 := hs.r g 2 hg (by omega)
    exact (chkP_ok h).2.2 (det_row0 hg ⟨h0, by omega, by omega⟩)
  · omega
theorem balance {ps : List Sup} (p : Pt) : sumsL ps 0 * part ps p 0 + sumsL ps 3 * part ps p 1 + sumsL ps 6 * part ps p 2 = whole ps ∧
    sumsL ps 1 * part ps p 0 + sumsL ps 4 * part ps p 1 + sumsL ps 7 * part ps p 2 = whole ps * p.x ∧
    sumsL ps 2 * part ps p 0 + sumsL ps 5 * part ps p 1 + sumsL ps 8 * part ps p 2 = whole ps * p.y := by
  obtain ⟨h1, h2, h3⟩ := cramer (sumsL ps) p
  unfold part whole
  generalize sgn (det (sumsL ps)) = s
  refine ⟨?_, ?_, ?_⟩ <;> grind
theorem part_le {ps : List Sup} {p : Pt} (h : chkP ps = 0) (hn : ∀ g, g < 3 → 0 ≤ part ps p g) : ∀ g, g < 3 → part ps p g ≤ whole ps := by
  have h1 := (balance (ps := ps) p).1
  have n0 := count_pos h 0 (by omega)
  have n1 := count_pos h 1 (by omega)
  have n2 := count_pos h 2 (by omega)
  simp only [Nat.reduceMul] at n0 n1 n2
  have p0 := hn 0 (by omega)
  have p1 := hn 1 (by omega)
  have p2 := hn 2 (by omega)
  have m0 := Int.mul_le_mul_of_nonneg_right n0 p0
  have m1 := Int.mul_le_mul_of_nonneg_right n1 p1
  have m2 := Int.mul_le_mul_of_nonneg_right n2 p2
  rw [Int.one_mul] at m0 m1 m2
  intro g hg
  rcases (show g = 0 ∨ g = 1 ∨ g = 2 by omega) with rfl | rfl | rfl <;> omega
end Go.Proofs.Ytfkjdjlcaojedaa

