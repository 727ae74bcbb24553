/- Part 3 of the proof of: The train of a vehicle is that of the definition, or refused. -/
import Derived.Test.YtbdnnicodailcaaP2
import Derived.Test.YtbdnnicodailcaaChecked
import Derived.Lib.Mul64
import Derived.Laws.Bits64b
/- Print of my own generator (wip/sy/gen2.lean). -/
namespace Go.Proofs.Ytbdnnicodailcaa
open Go Sy
set_option maxRecDepth 100000
/- carried: [11, 13] -/
/- carried: [19, 20] -/
/- carried: [21, 22, 23] -/
/- carried: [27] -/
def Xn11_1 : C := regL [1, 2] none [⟨some 2, .box true 67 (.tmp 0), none⟩, ⟨some 4, .mv (.const (.bool false)), none⟩]
def Xn11_4 : C := regL [1, 2, 24] none [⟨some 10, .fa 1 (.tmp 2), none⟩, ⟨some 11, .ld 65 1 false (.tmp 10), none⟩, ⟨some 12, .len (.tmp 11), none⟩, ⟨some 13, .bin 3 .gtr (.tmp 12) (.const (.int .i64 20)), none⟩, ⟨some 14, .mv (.tmp 13), none⟩, ⟨some 15, .fa 0 (.tmp 2), some (14, false)⟩, ⟨some 16, .ld 9 1 false (.tmp 15), some (14, false)⟩, ⟨some 17, .slen (.tmp 16), some (14, false)⟩, ⟨some 18, .bin 3 .gtr (.tmp 17) (.const (.int .i64 100)), some (14, false)⟩, ⟨some 19, .pick 14 (.const (.bool true)) (.tmp 18), none⟩, ⟨some 20, .mv (.tmp 19), none⟩, ⟨some 21, .mv (.tmp 1), some (20, false)⟩, ⟨some 22, .len (.tmp 21), some (20, false)⟩, ⟨some 23, .bin 3 .gtr (.tmp 22) (.const (.int .i64 30)), some (20, false)⟩, ⟨some 24, .pick 20 (.const (.bool true)) (.tmp 23), none⟩]
def Xn11_7 : C := regL [4] none [⟨some 25, .call 13 [], none⟩, ⟨some 4, .mv (.tmp 25), none⟩]
def Xn11_6 : C := .seq Xn11_7 .ret
def Xn11_5 : C := .cond (.tmp 24) Xn11_6 .skip
def Xn11_3 : C := .seq Xn11_4 Xn11_5
def Xn11_12 : C := regL [1, 2, 5] none [⟨some 5, .mv (.const (.int .i64 0)), none⟩]
def Xn11_17 : C := regL [1, 2, 5, 30] none [⟨some 26, .mv (.tmp 5), none⟩, ⟨some 27, .fa 1 (.tmp 2), none⟩, ⟨some 28, .ld 65 1 false (.tmp 27), none⟩, ⟨some 29, .len (.tmp 28), none⟩, ⟨some 30, .bin 3 .lss (.tmp 26) (.tmp 29), none⟩]
def Xn11_18 : C := .cond (.tmp 30) .skip (.exit 0)
def Xn11_16 : C := .seq Xn11_17 Xn11_18
def Xn11_24 : C := regL [1, 2, 5, 40] none [⟨some 33, .fa 1 (.tmp 2), none⟩, ⟨some 34, .ld 65 1 false (.tmp 33), none⟩, ⟨some 35, .mv (.tmp 5), none⟩, ⟨some 36, .ia 11 (.tmp 34) (.tmp 35), none⟩, ⟨some 37, .fa 10 (.tmp 36), none⟩, ⟨some 38, .ld 68 1 false (.tmp 37), none⟩, ⟨some 39, .len (.tmp 38), none⟩, ⟨some 40, .bin 3 .gtr (.tmp 39) (.const (.int .i64 40)), none⟩]
def Xn11_27 : C := regL [4] none [⟨some 41, .call 13 [], none⟩, ⟨some 4, .mv (.tmp 41), none⟩]
def Xn11_26 : C := .seq Xn11_27 .ret
def Xn11_25 : C := .cond (.tmp 40) Xn11_26 .skip
def Xn11_23 : C := .seq Xn11_24 Xn11_25
def Xn11_22 : C := .block 1 Xn11_23
def Xn11_30 : C := regL [1, 2, 5] none [⟨some 31, .mv (.tmp 5), none⟩, ⟨some 32, .bin 3 .add (.tmp 31) (.const (.int .i64 1)), none⟩, ⟨some 5, .mv (.tmp 32), none⟩]
def Xn11_21 : C := seqL [1, 2, 5] Xn11_22 Xn11_30
def Xn11_15 : C := seqL [1, 2, 5] Xn11_16 Xn11_21
/- carried: [5] -/
def Xn11_14 : C := loopL [1, 2, 5] Xn11_15
def Xn11_13 : C := .block 0 Xn11_14
def Xn11_11 : C := .seq Xn11_12 Xn11_13
def Xn11_32 : C := regL [1, 2, 6, 7] none [⟨some 43, .ld 67 4 true (.tmp 2), none⟩, ⟨some 44, .mv (.tmp 1), none⟩, ⟨some 45, .call 44 [.tmp 43, .tmp 44], none⟩, ⟨some 42, .mv (.tmp 45), none⟩, ⟨some 46, .ext 0 (.tmp 42), none⟩, ⟨some 47, .ext 1 (.tmp 42), none⟩, ⟨some 6, .mv (.tmp 46), none⟩, ⟨some 7, .mv (.tmp 47), none⟩]
def Xn11_34 : C := regL [6, 7, 8, 9] none [⟨some 49, .ld 67 4 true (.tmp 2), none⟩, ⟨some 50, .mv (.tmp 1), none⟩, ⟨some 51, .call 45 [.tmp 49, .tmp 50], none⟩, ⟨some 48, .mv (.tmp 51), none⟩, ⟨some 52, .ext 0 (.tmp 48), none⟩, ⟨some 53, .ext 1 (.tmp 48), none⟩, ⟨some 8, .mv (.tmp 52), none⟩, ⟨some 9, .mv (.tmp 53), none⟩]
def Xn11_36 : C := regL [4] none [⟨some 54, .mv (.tmp 7), none⟩, ⟨some 55, .mv (.tmp 9), none⟩, ⟨some 56, .bin 30 .eql (.tmp 54) (.tmp 55), none⟩, ⟨some 57, .mv (.tmp 56), none⟩, ⟨some 58, .mv (.tmp 6), some (57, true)⟩, ⟨some 59, .mv (.tmp 8), some (57, true)⟩, ⟨some 60, .call 46 [.tmp 58, .tmp 59], some (57, true)⟩, ⟨some 61, .pick 57 (.tmp 60) (.const (.bool false)), none⟩, ⟨some 62, .mv (.tmp 61), none⟩, ⟨some 63, .call 13 [], some (62, true)⟩, ⟨some 64, .pick 62 (.tmp 63) (.const (.bool false)), none⟩, ⟨some 4, .mv (.tmp 64), none⟩]
def Xn11_35 : C := .seq Xn11_36 .ret
def Xn11_33 : C := .seq Xn11_34 Xn11_35
def Xn11_31 : C := .seq Xn11_32 Xn11_33
def Xn11_10 : C := seqL [1, 2] Xn11_11 Xn11_31
def Xn11_2 : C := seqL [1, 2] Xn11_3 Xn11_10
def Xn11_0 : C := .seq Xn11_1 Xn11_2
theorem Xt11 : Text Try.prog 11 Xn11_0 65 2 [.t 4] := ⟨⟨Try.f11, [2], Try.func11, by kernel_rfl, by kernel_rfl, by kernel_rfl, by kernel_rfl⟩⟩
def Xn13_1 : C := regL [] none [⟨some 0, .mv (.const (.bool false)), none⟩]
def Xn13_3 : C := regL [1, 2] none [⟨some 8, .call 42 [], none⟩, ⟨some 9, .call 43 [], none⟩, ⟨some 10, .call 14 [.tmp 8, .tmp 9, .const (.int .i64 0), .const (.int .i64 10000)], none⟩, ⟨some 7, .mv (.tmp 10), none⟩, ⟨some 11, .ext 0 (.tmp 7), none⟩, ⟨some 12, .ext 1 (.tmp 7), none⟩, ⟨some 1, .alc 29 (.agg #[.int .i64 0, .int .i64 0, .int .i64 0, .int .i64 0]), none⟩, ⟨none, .st 29 4 (.tmp 1) (.tmp 11), none⟩, ⟨some 2, .mv (.tmp 12), none⟩]
def Xn13_5 : C := regL [1, 2, 3, 4] none [⟨some 14, .call 42 [], none⟩, ⟨some 15, .call 43 [], none⟩, ⟨some 16, .call 15 [.tmp 14, .tmp 15, .const (.int .i64 0), .const (.bool false)], none⟩, ⟨some 13, .mv (.tmp 16), none⟩, ⟨some 17, .ext 0 (.tmp 13), none⟩, ⟨some 18, .ext 1 (.tmp 13), none⟩, ⟨some 3, .alc 29 (.agg #[.int .i64 0, .int .i64 0, .int .i64 0, .int .i64 0]), none⟩, ⟨none, .st 29 4 (.tmp 3) (.tmp 17), none⟩, ⟨some 4, .mv (.tmp 18), none⟩]
def Xn13_7 : C := regL [1, 2, 3, 4, 5, 6] none [⟨some 20, .bld (.agg #[.int .i64 0, .int .i64 0, .int .i64 0]) [(0, 1, .const (.int .i64 10000)), (1, 1, .const (.int .i64 1000)), (2, 1, .const (.int .i64 4))], none⟩, ⟨some 21, .call 43 [], none⟩, ⟨some 22, .call 19 [.tmp 20, .tmp 21, .const (.int .i64 1)], none⟩, ⟨some 19, .mv (.tmp 22), none⟩, ⟨some 23, .ext 0 (.tmp 19), none⟩, ⟨some 24, .ext 1 (.tmp 19), none⟩, ⟨some 5, .mv (.tmp 23), none⟩, ⟨some 6, .mv (.tmp 24), none⟩]
def Xn13_9 : C := regL [0] none [⟨some 25, .mv (.tmp 2), none⟩, ⟨some 26, .mv (.tmp 4), none⟩, ⟨some 27, .bin 30 .add (.tmp 25) (.tmp 26), none⟩, ⟨some 28, .mv (.tmp 6), none⟩, ⟨some 29, .bin 30 .add (.tmp 27) (.tmp 28), none⟩, ⟨some 30, .bin 30 .eql (.tmp 29) (.const (.int .i64 0)), none⟩, ⟨some 31, .mv (.tmp 30), none⟩, ⟨some 32, .ld 29 4 true (.tmp 1), some (31, true)⟩, ⟨some 33, .bld (.agg #[.int .i64 0, .int .i64 0, .int .i64 0, .int .i64 0]) [(0, 1, .const (.int .i64 2160000000000)), (2, 1, .const (.int .i64 10000)), (3, 1, .const (.int .i64 10000))], some (31, true)⟩, ⟨some 34, .eqb 85 false (.tmp 32) (.tmp 33), some (31, true)⟩, ⟨some 35, .pick 31 (.tmp 34) (.const (.bool false)), none⟩, ⟨some 36, .mv (.tmp 35), none⟩, ⟨some 37, .ld 29 4 true (.tmp 3), some (36, true)⟩, ⟨some 38, .bld (.agg #[.int .i64 0, .int .i64 0, .int .i64 0, .int .i64 0]) [(0, 1, .const (.int .i64 456000000)), (3, 1, .const (.int .i64 2000))], some (36, true)⟩, ⟨some 39, .eqb 85 false (.tmp 37) (.tmp 38), some (36, true)⟩, ⟨some 40, .pick 36 (.tmp 39) (.const (.bool false)), none⟩, ⟨some 41, .mv (.tmp 40), none⟩, ⟨some 42, .mv (.tmp 5), some (41, true)⟩, ⟨some 43, .bin 2 .eql (.tmp 42) (.const (.int .i64 4148)), some (41, true)⟩, ⟨some 44, .pick 41 (.tmp 43) (.const (.bool false)), none⟩, ⟨some 0, .mv (.tmp 44), none⟩]
def Xn13_8 : C := .seq Xn13_9 .ret
def Xn13_6 : C := .seq Xn13_7 Xn13_8
def Xn13_4 : C := .seq Xn13_5 Xn13_6
def Xn13_2 : C := .seq Xn13_3 Xn13_4
def Xn13_0 : C := .seq Xn13_1 Xn13_2
theorem Xt13 : Text Try.prog 13 Xn13_0 45 0 [.t 0] := ⟨⟨Try.f13, [], Try.func13, by kernel_rfl, by kernel_rfl, by kernel_rfl, by kernel_rfl⟩⟩
def Xn14_1 : C := regL [1, 2, 3, 4, 8] none [⟨some 4, .box true 24 (.tmp 0), none⟩, ⟨some 8, .alc 29 (.agg #[.int .i64 0, .int .i64 0, .int .i64 0, .int .i64 0]), none⟩, ⟨some 9, .mv (.const (.int .i64 0)), none⟩]
def Xn14_4 : C := regL [1, 2, 3, 4, 8, 10] none [⟨some 11, .ld 24 6 true (.tmp 4), none⟩, ⟨some 12, .mv (.tmp 1), none⟩, ⟨some 13, .mv (.tmp 2), none⟩, ⟨some 14, .call 47 [.tmp 11, .tmp 12, .tmp 13], none⟩, ⟨some 10, .mv (.tmp 14), none⟩]
def Xn14_6 : C := regL [1, 2, 3, 4, 8, 10, 16] none [⟨some 15, .mv (.tmp 10), none⟩, ⟨some 16, .bin 30 .neq (.tmp 15) (.const (.int .i64 0)), none⟩]
def Xn14_9 : C := regL [8, 9] none [⟨some 17, .bld (.agg #[.int .i64 0, .int .i64 0, .int .i64 0, .int .i64 0]) [], none⟩, ⟨some 18, .mv (.tmp 10), none⟩, ⟨none, .st 29 4 (.tmp 8) (.tmp 17), none⟩, ⟨some 9, .mv (.tmp 18), none⟩]
def Xn14_8 : C := .seq Xn14_9 .ret
def Xn14_7 : C := .cond (.tmp 16) Xn14_8 .skip
def Xn14_5 : C := .seq Xn14_6 Xn14_7
def Xn14_3 : C := .seq Xn14_4 Xn14_5
def Xn14_14 : C := regL [1, 2, 3, 4, 8, 26] none [⟨some 19, .mv (.tmp 3), none⟩, ⟨some 20, .fa 0 (.tmp 4), none⟩, ⟨some 21, .ld 22 1 false (.tmp 20), none⟩, ⟨some 22, .mv (.tmp 2), none⟩, ⟨some 23, .ia 1 (.tmp 21) (.tmp 22), none⟩, ⟨some 24, .ld 2 1 false (.tmp 23), none⟩, ⟨some 25, .call 48 [.tmp 19, .const (.int .i64 0), .tmp 24], none⟩, ⟨some 26, .un .not (.tmp 25), none⟩]
def Xn14_17 : C := regL [8, 9] none [⟨some 27, .bld (.agg #[.int .i64 0, .int .i64 0, .int .i64 0, .int .i64 0]) [], none⟩, ⟨none, .st 29 4 (.tmp 8) (.tmp 27), none⟩, ⟨some 9, .mv (.const (.int .i64 3)), none⟩]
def Xn14_16 : C := .seq Xn14_17 .ret
def Xn14_15 : C := .cond (.tmp 26) Xn14_16 .skip
def Xn14_13 : C := .seq Xn14_14 Xn14_15
def Xn14_21 : C := regL [8, 9] none [⟨some 28, .ld 24 6 true (.tmp 4), none⟩, ⟨some 29, .mv (.tmp 2), none⟩, ⟨some 30, .mv (.tmp 3), none⟩, ⟨some 31, .call 49 [.tmp 28, .tmp 29, .tmp 30], none⟩, ⟨some 32, .mv (.tmp 1), none⟩, ⟨some 33, .mv (.tmp 2), none⟩, ⟨some 34, .mv (.tmp 3), none⟩, ⟨some 35, .call 50 [.tmp 31, .tmp 32, .tmp 33, .tmp 34], none⟩, ⟨none, .st 29 4 (.tmp 8) (.tmp 35), none⟩, ⟨some 9, .mv (.const (.int .i64 0)), none⟩]
def Xn14_20 : C := .seq Xn14_21 .ret
def Xn14_12 : C := seqL [1, 2, 3, 4, 8] Xn14_13 Xn14_20
def Xn14_2 : C := seqL [1, 2, 3, 4, 8] Xn14_3 Xn14_12
def Xn14_0 : C := .seq Xn14_1 Xn14_2
theorem Xt14 : Text Try.prog 14 Xn14_0 36 4 [.c 8 4 true, .t 9] := ⟨⟨Try.f14, [4], Try.func14, by kernel_rfl, by kernel_rfl, by kernel_rfl, by kernel_rfl⟩⟩
def Xn15_1 : C := regL [1, 2, 3, 4, 8] none [⟨some 4, .box true 24 (.tmp 0), none⟩, ⟨some 8, .alc 29 (.agg #[.int .i64 0, .int .i64 0, .int .i64 0, .int .i64 0]), none⟩, ⟨some 9, .mv (.const (.int .i64 0)), none⟩]
def Xn15_4 : C := regL [1, 2, 3, 4, 8, 10] none [⟨some 12, .ld 24 6 true (.tmp 4), none⟩, ⟨some 13, .mv (.tmp 1), none⟩, ⟨some 14, .mv (.tmp 2), none⟩, ⟨some 15, .call 47 [.tmp 12, .tmp 13, .tmp 14], none⟩, ⟨some 10, .mv (.tmp 15), none⟩]
def Xn15_6 : C := regL [1, 2, 3, 4, 8, 10, 17] none [⟨some 16, .mv (.tmp 10), none⟩, ⟨some 17, .bin 30 .neq (.tmp 16) (.const (.int .i64 0)), none⟩]
def Xn15_9 : C := regL [8, 9] none [⟨some 18, .bld (.agg #[.int .i64 0, .int .i64 0, .int .i64 0, .int .i64 0]) [], none⟩, ⟨some 19, .mv (.tmp 10), none⟩, ⟨none, .st 29 4 (.tmp 8) (.tmp 18), none⟩, ⟨some 9, .mv (.tmp 19), none⟩]
def Xn15_8 : C := .seq Xn15_9 .ret
def Xn15_7 : C := .cond (.tmp 17) Xn15_8 .skip
def Xn15_5 : C := .seq Xn15_6 Xn15_7
def Xn15_3 : C := .seq Xn15_4 Xn15_5
def Xn15_13 : C := regL [1, 2, 3, 4, 8, 11] none [⟨some 11, .mv (.const (.int .i64 0)), none⟩]
def Xn15_16 : C := regL [1, 2, 3, 4, 8, 11, 20] none [⟨some 20, .mv (.tmp 3), none⟩]
def Xn15_18 : C := regL [1, 2, 3, 4, 8, 11] none [⟨some 21, .fa 0 (.tmp 4), none⟩, ⟨some 22, .ld 22 1 false (.tmp 21), none⟩, ⟨some 23, .mv (.tmp 2), none⟩, ⟨some 24, .ia 1 (.tmp 22) (.tmp 23), none⟩, ⟨some 25, .ld 2 1 false (.tmp 24), none⟩, ⟨some 11, .mv (.tmp 25), none⟩]
def Xn15_17 : C := .cond (.tmp 20) Xn15_18 .skip
def Xn15_15 : C := .seq Xn15_16 Xn15_17
def Xn15_21 : C := regL [8, 9] none [⟨some 26, .ld 24 6 true (.tmp 4), none⟩, ⟨some 27, .mv (.tmp 2), none⟩, ⟨some 28, .mv (.tmp 3), none⟩, ⟨some 29, .call 51 [.tmp 26, .tmp 27, .tmp 28], none⟩, ⟨some 30, .mv (.tmp 1), none⟩, ⟨some 31, .mv (.tmp 2), none⟩, ⟨some 32, .mv (.tmp 11), none⟩, ⟨some 33, .call 50 [.tmp 29, .tmp 30, .tmp 31, .tmp 32], none⟩, ⟨none, .st 29 4 (.tmp 8) (.tmp 33), none⟩, ⟨some 9, .mv (.const (.int .i64 0)), none⟩]
def Xn15_20 : C := .seq Xn15_21 .ret
def Xn15_14 : C := seqL [1, 2, 3, 4, 8, 11] Xn15_15 Xn15_20
def Xn15_12 : C := .seq Xn15_13 Xn15_14
def Xn15_2 : C := seqL [1, 2, 3, 4, 8] Xn15_3 Xn15_12
def Xn15_0 : C := .seq Xn15_1 Xn15_2
theorem Xt15 : Text Try.prog 15 Xn15_0 34 4 [.c 8 4 true, .t 9] := ⟨⟨Try.f15, [4], Try.func15, by kernel_rfl, by kernel_rfl, by kernel_rfl, by kernel_rfl⟩⟩
def Xn19_1 : C := regL [1, 2, 3] none [⟨some 3, .box true 43 (.tmp 0), none⟩, ⟨some 6, .mv (.const (.int .i64 0)), none⟩, ⟨some 7, .mv (.const (.int .i64 0)), none⟩]
def Xn19_3 : C := regL [2, 3, 8, 9] none [⟨some 11, .ld 43 3 true (.tmp 3), none⟩, ⟨some 12, .mv (.tmp 1), none⟩, ⟨some 13, .call 55 [.tmp 11, .tmp 12], none⟩, ⟨some 10, .mv (.tmp 13), none⟩, ⟨some 14, .ext 0 (.tmp 10), none⟩, ⟨some 15, .ext 1 (.tmp 10), none⟩, ⟨some 8, .mv (.tmp 14), none⟩, ⟨some 9, .mv (.tmp 15), none⟩]
def Xn19_6 : C := regL [2, 3, 8, 9, 21] none [⟨some 16, .mv (.tmp 9), none⟩, ⟨some 17, .bin 30 .neq (.tmp 16) (.const (.int .i64 0)), none⟩, ⟨some 18, .mv (.tmp 17), none⟩, ⟨some 19, .mv (.tmp 9), some (18, true)⟩, ⟨some 20, .bin 30 .neq (.tmp 19) (.const (.int .i64 4)), some (18, true)⟩, ⟨some 21, .pick 18 (.tmp 20) (.const (.bool false)), none⟩]
def Xn19_9 : C := regL [6, 7] none [⟨some 22, .mv (.tmp 9), none⟩, ⟨some 6, .mv (.const (.int .i64 0)), none⟩, ⟨some 7, .mv (.tmp 22), none⟩]
def Xn19_8 : C := .seq Xn19_9 .ret
def Xn19_7 : C := .cond (.tmp 21) Xn19_8 .skip
def Xn19_5 : C := .seq Xn19_6 Xn19_7
def Xn19_14 : C := regL [2, 3, 8, 9, 25] none [⟨some 23, .mv (.tmp 2), none⟩, ⟨some 24, .call 48 [.tmp 23, .const (.int .i64 0), .const (.int .i64 1048576)], none⟩, ⟨some 25, .un .not (.tmp 24), none⟩]
def Xn19_17 : C := regL [6, 7] none [⟨some 6, .mv (.const (.int .i64 0)), none⟩, ⟨some 7, .mv (.const (.int .i64 3)), none⟩]
def Xn19_16 : C := .seq Xn19_17 .ret
def Xn19_15 : C := .cond (.tmp 25) Xn19_16 .skip
def Xn19_13 : C := .seq Xn19_14 Xn19_15
def Xn19_22 : C := regL [2, 3, 8, 9, 27] none [⟨some 26, .mv (.tmp 9), none⟩, ⟨some 27, .bin 30 .neq (.tmp 26) (.const (.int .i64 0)), none⟩]
def Xn19_25 : C := regL [6, 7] none [⟨some 28, .mv (.tmp 9), none⟩, ⟨some 6, .mv (.const (.int .i64 0)), none⟩, ⟨some 7, .mv (.tmp 28), none⟩]
def Xn19_24 : C := .seq Xn19_25 .ret
def Xn19_23 : C := .cond (.tmp 27) Xn19_24 .skip
def Xn19_21 : C := .seq Xn19_22 Xn19_23
def Xn19_29 : C := regL [6, 7] none [⟨some 29, .mv (.tmp 8), none⟩, ⟨some 30, .mv (.tmp 2), none⟩, ⟨some 31, .bin 2 .mul (.const (.int .i64 1000)) (.tmp 30), none⟩, ⟨some 32, .fa 1 (.tmp 3), none⟩, ⟨some 33, .ld 2 1 false (.tmp 32), none⟩, ⟨some 34, .call 56 [.tmp 29, .tmp 31, .tmp 33], none⟩, ⟨some 6, .mv (.tmp 34), none⟩, ⟨some 7, .mv (.const (.int .i64 0)), none⟩]
def Xn19_28 : C := .seq Xn19_29 .ret
def Xn19_20 : C := seqL [2, 3, 8] Xn19_21 Xn19_28
def Xn19_12 : C := seqL [2, 3, 8, 9] Xn19_13 Xn19_20
def Xn19_4 : C := seqL [2, 3, 8, 9] Xn19_5 Xn19_12
def Xn19_2 : C := .seq Xn19_3 Xn19_4
def Xn19_0 : C := .seq Xn19_1 Xn19_2
theorem Xt19 : Text Try.prog 19 Xn19_0 35 3 [.t 6, .t 7] := ⟨⟨Try.f19, [3], Try.func19, by kernel_rfl, by kernel_rfl, by kernel_rfl, by kernel_rfl⟩⟩
/- carried: [11, 12] -/
/- carried: [10, 11, 12, 33] -/
/- carried: [11, 12] -/
/- carried: [9, 10] -/
/- carried: [10, 11] -/
def Xn25_1 : C := regL [1] none [⟨some 1, .box true 43 (.tmp 0), none⟩, ⟨some 2, .mv (.const (.int .i64 0)), none⟩]
def Xn25_4 : C := regL [22] none [⟨some 3, .fa 0 (.tmp 1), none⟩, ⟨some 4, .ld 2 1 false (.tmp 3), none⟩, ⟨some 5, .call 48 [.tmp 4, .const (.int .i64 1), .const (.int .i64 1048576)], none⟩, ⟨some 6, .un .not (.tmp 5), none⟩, ⟨some 7, .mv (.tmp 6), none⟩, ⟨some 8, .fa 1 (.tmp 1), some (7, false)⟩, ⟨some 9, .ld 2 1 false (.tmp 8), some (7, false)⟩, ⟨some 10, .call 48 [.tmp 9, .const (.int .i64 1), .const (.int .i64 1048576)], some (7, false)⟩, ⟨some 11, .un .not (.tmp 10), some (7, false)⟩, ⟨some 12, .pick 7 (.const (.bool true)) (.tmp 11), none⟩, ⟨some 13, .mv (.tmp 12), none⟩, ⟨some 14, .fa 2 (.tmp 1), some (13, false)⟩, ⟨some 15, .ld 3 1 false (.tmp 14), some (13, false)⟩, ⟨some 16, .bin 3 .lss (.tmp 15) (.const (.int .i64 1)), some (13, false)⟩, ⟨some 17, .pick 13 (.const (.bool true)) (.tmp 16), none⟩, ⟨some 18, .mv (.tmp 17), none⟩, ⟨some 19, .fa 2 (.tmp 1), some (18, false)⟩, ⟨some 20, .ld 3 1 false (.tmp 19), some (18, false)⟩, ⟨some 21, .bin 3 .gtr (.tmp 20) (.const (.int .i64 6)), some (18, false)⟩, ⟨some 22, .pick 18 (.const (.bool true)) (.tmp 21), none⟩]
def Xn25_7 : C := regL [2] none [⟨some 2, .mv (.const (.int .i64 2)), none⟩]
def Xn25_6 : C := .seq Xn25_7 .ret
def Xn25_5 : C := .cond (.tmp 22) Xn25_6 .skip
def Xn25_3 : C := .seq Xn25_4 Xn25_5
def Xn25_11 : C := regL [2] none [⟨some 2, .mv (.const (.int .i64 0)), none⟩]
def Xn25_10 : C := .seq Xn25_11 .ret
def Xn25_2 : C := seqL [] Xn25_3 Xn25_10
def Xn25_0 : C := .seq Xn25_1 Xn25_2
theorem Xt25 : Text Try.prog 25 Xn25_0 23 1 [.t 2] := ⟨⟨Try.f25, [1], Try.func25, by kernel_rfl, by kernel_rfl, by kernel_rfl, by kernel_rfl⟩⟩
def Xn29_1 : C := regL [1] none [⟨some 1, .box true 24 (.tmp 0), none⟩, ⟨some 2, .mv (.const (.int .i64 0)), none⟩]
def Xn29_3 : C := regL [1, 3] none [⟨some 6, .fa 0 (.tmp 1), none⟩, ⟨some 7, .ld 22 1 false (.tmp 6), none⟩, ⟨some 8, .len (.tmp 7), none⟩, ⟨some 3, .mv (.tmp 8), none⟩]
def Xn29_7 : C := regL [1, 3, 9] none [⟨some 10, .mv (.tmp 3), none⟩, ⟨some 11, .bin 3 .lss (.tmp 10) (.const (.int .i64 1)), none⟩, ⟨some 12, .mv (.tmp 11), none⟩, ⟨some 13, .mv (.tmp 3), some (12, false)⟩, ⟨some 14, .bin 3 .gtr (.tmp 13) (.const (.int .i64 6)), some (12, false)⟩, ⟨some 15, .pick 12 (.const (.bool true)) (.tmp 14), none⟩, ⟨some 9, .mv (.tmp 15), none⟩]
def Xn29_10 : C := regL [2] none [⟨some 2, .mv (.const (.int .i64 6)), none⟩]
def Xn29_9 : C := .seq Xn29_10 .ret
def Xn29_13 : C := regL [1, 16] none [⟨some 17, .fa 1 (.tmp 1), none⟩, ⟨some 18, .ld 22 1 false (.tmp 17), none⟩, ⟨some 19, .len (.tmp 18), none⟩, ⟨some 20, .mv (.tmp 3), none⟩, ⟨some 21, .bin 3 .neq (.tmp 19) (.tmp 20), none⟩, ⟨some 22, .mv (.tmp 21), none⟩, ⟨some 23, .fa 2 (.tmp 1), some (22, false)⟩, ⟨some 24, .ld 22 1 false (.tmp 23), some (22, false)⟩, ⟨some 25, .len (.tmp 24), some (22, false)⟩, ⟨some 26, .mv (.tmp 3), some (22, false)⟩, ⟨some 27, .bin 3 .neq (.tmp 25) (.tmp 26), some (22, false)⟩, ⟨some 28, .pick 22 (.const (.bool true)) (.tmp 27), none⟩, ⟨some 16, .mv (.tmp 28), none⟩]
def Xn29_16 : C := regL [2] none [⟨some 2, .mv (.const (.int .i64 17)), none⟩]
def Xn29_15 : C := .seq Xn29_16 .ret
def Xn29_19 : C := regL [1, 29] none [⟨some 30, .fa 3 (.tmp 1), none⟩, ⟨some 31, .ld 2 1 false (.tmp 30), none⟩, ⟨some 32, .call 48 [.tmp 31, .const (.int .i64 0), .const (.int .i64 1000)], none⟩, ⟨some 33, .un .not (.tmp 32), none⟩, ⟨some 34, .mv (.tmp 33), none⟩, ⟨some 35, .fa 4 (.tmp 1), some (34, false)⟩, ⟨some 36, .ld 3 1 false (.tmp 35), some (34, false)⟩, ⟨some 37, .bin 3 .lss (.tmp 36) (.const (.int .i64 1)), some (34, false)⟩, ⟨some 38, .pick 34 (.const (.bool true)) (.tmp 37), none⟩, ⟨some 39, .mv (.tmp 38), none⟩, ⟨some 40, .fa 4 (.tmp 1), some (39, false)⟩, ⟨some 41, .ld 3 1 false (.tmp 40), some (39, false)⟩, ⟨some 42, .bin 3 .gtr (.tmp 41) (.const (.int .i64 4)), some (39, false)⟩, ⟨some 43, .pick 39 (.const (.bool true)) (.tmp 42), none⟩, ⟨some 44, .mv (.tmp 43), none⟩, ⟨some 45, .fa 5 (.tmp 1), some (44, false)⟩, ⟨some 46, .ld 2 1 false (.tmp 45), some (44, false)⟩, ⟨some 47, .call 48 [.tmp 46, .const (.int .i64 0), .const (.int .i64 4096)], some (44, false)⟩, ⟨some 48, .un .not (.tmp 47), some (44, false)⟩, ⟨some 49, .pick 44 (.const (.bool true)) (.tmp 48), none⟩, ⟨some 29, .mv (.tmp 49), none⟩]
def Xn29_22 : C := regL [2] none [⟨some 2, .mv (.const (.int .i64 2)), none⟩]
def Xn29_21 : C := .seq Xn29_22 .ret
def Xn29_20 : C := .cond (.tmp 29) Xn29_21 .skip
def Xn29_18 : C := .seq Xn29_19 Xn29_20
def Xn29_14 : C := .cond (.tmp 16) Xn29_15 Xn29_18
def Xn29_12 : C := .seq Xn29_13 Xn29_14
def Xn29_8 : C := .cond (.tmp 9) Xn29_9 Xn29_12
def Xn29_6 : C := .seq Xn29_7 Xn29_8
def Xn29_5 : C := .block 0 Xn29_6
def Xn29_27 : C := regL [1, 51, 52, 53] none [⟨some 50, .fa 0 (.tmp 1), none⟩, ⟨some 51, .ld 22 1 false (.tmp 50), none⟩, ⟨some 52, .len (.tmp 51), none⟩, ⟨some 53, .mv (.const (.int .i64 0)), none⟩]
def Xn29_31 : C := regL [1, 51, 52, 53, 54] none [⟨some 54, .bin 3 .lss (.tmp 53) (.tmp 52), none⟩]
def Xn29_33 : C := .cond (.tmp 54) .skip (.exit 1)
def Xn29_39 : C := regL [1, 4, 5, 51, 52, 53] none [⟨some 55, .mv (.tmp 53), none⟩, ⟨some 56, .ia 1 (.tmp 51) (.tmp 53), none⟩, ⟨some 57, .ld 2 1 false (.tmp 56), none⟩, ⟨some 4, .mv (.tmp 55), none⟩, ⟨some 5, .mv (.tmp 57), none⟩]
def Xn29_41 : C := regL [1, 51, 52, 53, 78] none [⟨some 58, .mv (.tmp 5), none⟩, ⟨some 59, .call 48 [.tmp 58, .const (.int .i64 100), .const (.int .i64 131072)], none⟩, ⟨some 60, .un .not (.tmp 59), none⟩, ⟨some 61, .mv (.tmp 60), none⟩, ⟨some 62, .fa 1 (.tmp 1), some (61, false)⟩, ⟨some 63, .ld 22 1 false (.tmp 62), some (61, false)⟩, ⟨some 64, .mv (.tmp 4), some (61, false)⟩, ⟨some 65, .ia 1 (.tmp 63) (.tmp 64), some (61, false)⟩, ⟨some 66, .ld 2 1 false (.tmp 65), some (61, false)⟩, ⟨some 67, .call 48 [.tmp 66, .const (.int .i64 1), .const (.int .i64 1073741824)], some (61, false)⟩, ⟨some 68, .un .not (.tmp 67), some (61, false)⟩, ⟨some 69, .pick 61 (.const (.bool true)) (.tmp 68), none⟩, ⟨some 70, .mv (.tmp 69), none⟩, ⟨some 71, .fa 2 (.tmp 1), some (70, false)⟩, ⟨some 72, .ld 22 1 false (.tmp 71), some (70, false)⟩, ⟨some 73, .mv (.tmp 4), some (70, false)⟩, ⟨some 74, .ia 1 (.tmp 72) (.tmp 73), some (70, false)⟩, ⟨some 75, .ld 2 1 false (.tmp 74), some (70, false)⟩, ⟨some 76, .call 48 [.tmp 75, .const (.int .i64 1), .const (.int .i64 1073741824)], some (70, false)⟩, ⟨some 77, .un .not (.tmp 76), some (70, false)⟩, ⟨some 78, .pick 70 (.const (.bool true)) (.tmp 77), none⟩]
def Xn29_44 : C := regL [2] none [⟨some 2, .mv (.const (.int .i64 2)), none⟩]
def Xn29_43 : C := .seq Xn29_44 .ret
def Xn29_42 : C := .cond (.tmp 78) Xn29_43 .skip
def Xn29_40 : C := .seq Xn29_41 Xn29_42
def Xn29_38 : C := .seq Xn29_39 Xn29_40
def Xn29_37 : C := .block 2 Xn29_38
def Xn29_47 : C := regL [1, 51, 52, 53] none [⟨some 79, .bin 3 .add (.tmp 53) (.const (.int .i64 1)), none⟩, ⟨some 53, .mv (.tmp 79), none⟩]
def Xn29_36 : C := seqL [1, 51, 52, 53] Xn29_37 Xn29_47
def Xn29_32 : C := seqL [1, 51, 52, 53] Xn29_33 Xn29_36
def Xn29_30 : C := .seq Xn29_31 Xn29_32
/- carried: [53] -/
def Xn29_29 : C := loopL [1, 51, 52, 53] Xn29_30
def Xn29_28 : C := .block 1 Xn29_29
def Xn29_26 : C := .seq Xn29_27 Xn29_28
def Xn29_49 : C := regL [2] none [⟨some 2, .mv (.const (.int .i64 0)), none⟩]
def Xn29_48 : C := .seq Xn29_49 .ret
def Xn29_25 : C := seqL [] Xn29_26 Xn29_48
def Xn29_4 : C := seqL [1] Xn29_5 Xn29_25
def Xn29_2 : C := .seq Xn29_3 Xn29_4
def Xn29_0 : C := .seq Xn29_1 Xn29_2
theorem Xt29 : Text Try.prog 29 Xn29_0 80 1 [.t 2] := ⟨⟨Try.f29, [1], Try.func29, by kernel_rfl, by kernel_rfl, by kernel_rfl, by kernel_rfl⟩⟩
def Xn30_1 : C := regL [0] none [⟨some 2, .mv (.const (.int .i64 0)), none⟩]
def Xn30_4 : C := regL [0, 13] none [⟨some 6, .mv (.tmp 0), none⟩, ⟨some 7, .len (.tmp 6), none⟩, ⟨some 8, .bin 3 .lss (.tmp 7) (.const (.int .i64 1)), none⟩, ⟨some 9, .mv (.tmp 8), none⟩, ⟨some 10, .mv (.tmp 0), some (9, false)⟩, ⟨some 11, .len (.tmp 10), some (9, false)⟩, ⟨some 12, .bin 3 .gtr (.tmp 11) (.const (.int .i64 64)), some (9, false)⟩, ⟨some 13, .pick 9 (.const (.bool true)) (.tmp 12), none⟩]
def Xn30_7 : C := regL [2] none [⟨some 2, .mv (.const (.int .i64 6)), none⟩]
def Xn30_6 : C := .seq Xn30_7 .ret
def Xn30_5 : C := .cond (.tmp 13) Xn30_6 .skip
def Xn30_3 : C := .seq Xn30_4 Xn30_5
def Xn30_11 : C := regL [0, 3] none [⟨some 3, .mv (.const (.int .i64 0)), none⟩]
def Xn30_14 : C := regL [3, 14, 15, 16] none [⟨some 14, .mv (.tmp 0), none⟩, ⟨some 15, .len (.tmp 14), none⟩, ⟨some 16, .mv (.const (.int .i64 0)), none⟩]
def Xn30_18 : C := regL [3, 14, 15, 16, 17] none [⟨some 17, .bin 3 .lss (.tmp 16) (.tmp 15), none⟩]
def Xn30_20 : C := .cond (.tmp 17) .skip (.exit 0)
def Xn30_26 : C := regL [3, 4, 5, 14, 15, 16] none [⟨some 18, .mv (.tmp 16), none⟩, ⟨some 19, .ia 2 (.tmp 14) (.tmp 16), none⟩, ⟨some 20, .ld 35 2 true (.tmp 19), none⟩, ⟨some 5, .alc 35 (.agg #[.int .i64 0, .int .i64 0]), none⟩, ⟨some 4, .mv (.tmp 18), none⟩, ⟨none, .st 35 2 (.tmp 5) (.tmp 20), none⟩]
def Xn30_29 : C := regL [5, 14, 15, 16, 44] none [⟨some 21, .fa 0 (.tmp 5), none⟩, ⟨some 22, .ld 2 1 false (.tmp 21), none⟩, ⟨some 23, .mv (.tmp 3), none⟩, ⟨some 24, .bin 2 .lss (.tmp 22) (.tmp 23), none⟩, ⟨some 25, .mv (.tmp 24), none⟩, ⟨some 26, .fa 0 (.tmp 5), some (25, false)⟩, ⟨some 27, .ld 2 1 false (.tmp 26), some (25, false)⟩, ⟨some 28, .bin 2 .gtr (.tmp 27) (.const (.int .i64 262144)), some (25, false)⟩, ⟨some 29, .pick 25 (.const (.bool true)) (.tmp 28), none⟩, ⟨some 30, .mv (.tmp 29), none⟩, ⟨some 31, .mv (.tmp 4), some (30, false)⟩, ⟨some 32, .bin 3 .eql (.tmp 31) (.const (.int .i64 0)), some (30, false)⟩, ⟨some 33, .mv (.tmp 32), some (30, false)⟩, ⟨some 34, .fa 0 (.tmp 5), some (33, true)⟩, ⟨some 35, .ld 2 1 false (.tmp 34), some (33, true)⟩, ⟨some 36, .bin 2 .neq (.tmp 35) (.const (.int .i64 0)), some (33, true)⟩, ⟨some 37, .pick 33 (.tmp 36) (.const (.bool false)), some (30, false)⟩, ⟨some 38, .pick 30 (.const (.bool true)) (.tmp 37), none⟩, ⟨some 39, .mv (.tmp 38), none⟩, ⟨some 40, .fa 1 (.tmp 5), some (39, false)⟩, ⟨some 41, .ld 2 1 false (.tmp 40), some (39, false)⟩, ⟨some 42, .call 48 [.tmp 41, .const (.int .i64 0), .const (.int .i64 1048576)], some (39, false)⟩, ⟨some 43, .un .not (.tmp 42), some (39, false)⟩, ⟨some 44, .pick 39 (.const (.bool true)) (.tmp 43), none⟩]
def Xn30_32 : C := regL [2] none [⟨some 2, .mv (.const (.int .i64 2)), none⟩]
def Xn30_31 : C := .seq Xn30_32 .ret
def Xn30_30 : C := .cond (.tmp 44) Xn30_31 .skip
def Xn30_28 : C := .seq Xn30_29 Xn30_30
def Xn30_35 : C := regL [3, 14, 15, 16] none [⟨some 45, .fa 0 (.tmp 5), none⟩, ⟨some 46, .ld 2 1 false (.tmp 45), none⟩, ⟨some 3, .mv (.tmp 46), none⟩]
def Xn30_27 : C := seqL [5, 14, 15, 16] Xn30_28 Xn30_35
def Xn30_25 : C := .seq Xn30_26 Xn30_27
def Xn30_24 : C := .block 1 Xn30_25
def Xn30_36 : C := regL [3, 14, 15, 16] none [⟨some 47, .bin 3 .add (.tmp 16) (.const (.int .i64 1)), none⟩, ⟨some 16, .mv (.tmp 47), none⟩]
def Xn30_23 : C := seqL [3, 14, 15, 16] Xn30_24 Xn30_36
def Xn30_19 : C := seqL [3, 14, 15, 16] Xn30_20 Xn30_23
def Xn30_17 : C := .seq Xn30_18 Xn30_19
/- carried: [3, 16] -/
def Xn30_16 : C := loopL [3, 14, 15, 16] Xn30_17
def Xn30_15 : C := .block 0 Xn30_16
def Xn30_13 : C := .seq Xn30_14 Xn30_15
def Xn30_38 : C := regL [2] none [⟨some 2, .mv (.const (.int .i64 0)), none⟩]
def Xn30_37 : C := .seq Xn30_38 .ret
def Xn30_12 : C := seqL [] Xn30_13 Xn30_37
def Xn30_10 : C := .seq Xn30_11 Xn30_12
def Xn30_2 : C := seqL [0] Xn30_3 Xn30_10
def Xn30_0 : C := .seq Xn30_1 Xn30_2
theorem Xt30 : Text Try.prog 30 Xn30_0 48 1 [.t 2] := ⟨⟨Try.f30, [], Try.func30, by kernel_rfl, by kernel_rfl, by kernel_rfl, by kernel_rfl⟩⟩
/- carried: [3] -/
/- carried: [3, 4] -/
/- carried: [5, 6] -/
/- carried: [7, 18] -/
/- carried: [10] -/
/- carried: [6, 7] -/
/- carried: [10, 11] -/
/- carried: [5] -/
def Xn42_1 : C := regL [0] none [⟨some 0, .alc 24 (.agg #[.slice none 0 0, .slice none 0 0, .slice none 0 0, .int .i64 0, .int .i64 0, .int .i64 0]), none⟩]
def Xn42_3 : C := regL [0] none [⟨some 1, .bls 2 1 2 (.int .i64 0) [(0, 1, .const (.int .i64 20000)), (1, 1, .const (.int .i64 10000))], none⟩, ⟨some 2, .bls 2 1 2 (.int .i64 0) [(0, 1, .const (.int .i64 200000)), (1, 1, .const (.int .i64 100000))], none⟩, ⟨some 3, .bls 2 1 2 (.int .i64 0) [(0, 1, .const (.int .i64 60000)), (1, 1, .const (.int .i64 50000))], none⟩, ⟨some 4, .bld (.agg #[.slice none 0 0, .slice none 0 0, .slice none 0 0, .int .i64 0, .int .i64 0, .int .i64 0]) [(0, 1, .tmp 1), (1, 1, .tmp 2), (2, 1, .tmp 3), (3, 1, .const (.int .i64 200)), (4, 1, .const (.int .i64 2)), (5, 1, .const (.int .i64 500))], none⟩, ⟨none, .st 24 6 (.tmp 0) (.tmp 4), none⟩]
def Xn42_2 : C := .seq Xn42_3 .ret
def Xn42_0 : C := .seq Xn42_1 Xn42_2
theorem Xt42 : Text Try.prog 42 Xn42_0 5 0 [.c 0 6 true] := ⟨⟨Try.f42, [], Try.func42, by kernel_rfl, by kernel_rfl, by kernel_rfl, by kernel_rfl⟩⟩
def Xn43_1 : C := regL [] none [⟨some 0, .mv (.const (.slice none 0 0)), none⟩]
def Xn43_3 : C := regL [0] none [⟨some 1, .bld (.agg #[.int .i64 0, .int .i64 0]) [(1, 1, .const (.int .i64 12000))], none⟩, ⟨some 2, .bld (.agg #[.int .i64 0, .int .i64 0]) [(0, 1, .const (.int .i64 2000)), (1, 1, .const (.int .i64 12000))], none⟩, ⟨some 3, .bls 35 2 2 (.agg #[.int .i64 0, .int .i64 0]) [(0, 2, .tmp 1), (2, 2, .tmp 2)], none⟩, ⟨some 0, .mv (.tmp 3), none⟩]
def Xn43_2 : C := .seq Xn43_3 .ret
def Xn43_0 : C := .seq Xn43_1 Xn43_2
theorem Xt43 : Text Try.prog 43 Xn43_0 4 0 [.t 0] := ⟨⟨Try.f43, [], Try.func43, by kernel_rfl, by kernel_rfl, by kernel_rfl, by kernel_rfl⟩⟩
def Xn44_1 : C := regL [1, 2] none [⟨some 2, .box true 67 (.tmp 0), none⟩, ⟨some 4, .mv (.const (.slice none 0 0)), none⟩, ⟨some 5, .mv (.const (.int .i64 0)), none⟩]
def Xn44_4 : C := regL [1, 2, 6] none [⟨some 15, .ld 67 4 true (.tmp 2), none⟩, ⟨some 16, .call 76 [.tmp 15], none⟩, ⟨some 6, .mv (.tmp 16), none⟩]
def Xn44_6 : C := regL [1, 2, 6, 18] none [⟨some 17, .mv (.tmp 6), none⟩, ⟨some 18, .bin 30 .neq (.tmp 17) (.const (.int .i64 0)), none⟩]
def Xn44_9 : C := regL [4, 5] none [⟨some 19, .mv (.tmp 6), none⟩, ⟨some 4, .mv (.const (.slice none 0 0)), none⟩, ⟨some 5, .mv (.tmp 19), none⟩]
def Xn44_8 : C := .seq Xn44_9 .ret
def Xn44_7 : C := .cond (.tmp 18) Xn44_8 .skip
def Xn44_5 : C := .seq Xn44_6 Xn44_7
def Xn44_3 : C := .seq Xn44_4 Xn44_5
def Xn44_14 : C := regL [1, 2, 25] none [⟨some 20, .mv (.tmp 1), none⟩, ⟨some 21, .len (.tmp 20), none⟩, ⟨some 22, .fa 1 (.tmp 2), none⟩, ⟨some 23, .ld 65 1 false (.tmp 22), none⟩, ⟨some 24, .len (.tmp 23), none⟩, ⟨some 25, .bin 3 .neq (.tmp 21) (.tmp 24), none⟩]
def Xn44_17 : C := regL [4, 5] none [⟨some 4, .mv (.const (.slice none 0 0)), none⟩, ⟨some 5, .mv (.const (.int .i64 17)), none⟩]
def Xn44_16 : C := .seq Xn44_17 .ret
def Xn44_15 : C := .cond (.tmp 25) Xn44_16 .skip
def Xn44_13 : C := .seq Xn44_14 Xn44_15
def Xn44_21 : C := regL [1, 2, 7] none [⟨some 7, .mv (.const (.slice none 0 0)), none⟩]
def Xn44_23 : C := regL [1, 2, 7, 8] none [⟨some 8, .mv (.const (.int .i64 0)), none⟩]
def Xn44_26 : C := regL [1, 7, 8, 27, 28, 29] none [⟨some 26, .fa 1 (.tmp 2), none⟩, ⟨some 27, .ld 65 1 false (.tmp 26), none⟩, ⟨some 28, .len (.tmp 27), none⟩, ⟨some 29, .mv (.const (.int .i64 0)), none⟩]
def Xn44_30 : C := regL [1, 7, 8, 27, 28, 29, 30] none [⟨some 30, .bin 3 .lss (.tmp 29) (.tmp 28), none⟩]
def Xn44_32 : C := .cond (.tmp 30) .skip (.exit 0)
def Xn44_38 : C := regL [1, 7, 8, 9, 10, 27, 28, 29] none [⟨some 31, .mv (.tmp 29), none⟩, ⟨some 32, .ia 11 (.tmp 27) (.tmp 29), none⟩, ⟨some 33, .ld 70 11 true (.tmp 32), none⟩, ⟨some 10, .alc 70 (.agg #[.int .i64 0, .int .i64 0, .int .i64 0, .int .i64 0, .int .i64 0, .int .i64 0, .int .i64 0, .int .i64 0, .int .i64 0, .int .i64 0, .slice none 0 0]), none⟩, ⟨some 9, .mv (.tmp 31), none⟩, ⟨none, .st 70 11 (.tmp 10) (.tmp 33), none⟩]
def Xn44_41 : C := regL [1, 7, 8, 9, 10, 27, 28, 29, 39] none [⟨some 34, .mv (.tmp 1), none⟩, ⟨some 35, .mv (.tmp 9), none⟩, ⟨some 36, .ia 1 (.tmp 34) (.tmp 35), none⟩, ⟨some 37, .ld 2 1 false (.tmp 36), none⟩, ⟨some 38, .call 48 [.tmp 37, .const (.int .i64 0), .const (.int .i64 1048576)], none⟩, ⟨some 39, .un .not (.tmp 38), none⟩]
def Xn44_44 : C := regL [4, 5] none [⟨some 4, .mv (.const (.slice none 0 0)), none⟩, ⟨some 5, .mv (.const (.int .i64 3)), none⟩]
def Xn44_43 : C := .seq Xn44_44 .ret
def Xn44_42 : C := .cond (.tmp 39) Xn44_43 .skip
def Xn44_40 : C := .seq Xn44_41 Xn44_42
def Xn44_49 : C := regL [1, 7, 8, 9, 10, 27, 28, 29, 41, 42, 43] none [⟨some 40, .fa 10 (.tmp 10), none⟩, ⟨some 41, .ld 68 1 false (.tmp 40), none⟩, ⟨some 42, .len (.tmp 41), none⟩, ⟨some 43, .mv (.const (.int .i64 0)), none⟩]
def Xn44_53 : C := regL [1, 7, 8, 9, 10, 27, 28, 29, 41, 42, 43, 44] none [⟨some 44, .bin 3 .lss (.tmp 43) (.tmp 42), none⟩]
def Xn44_55 : C := .cond (.tmp 44) .skip (.exit 2)
def Xn44_61 : C := regL [1, 7, 8, 9, 10, 12, 27, 28, 29, 41, 42, 43] none [⟨some 45, .ia 3 (.tmp 41) (.tmp 43), none⟩, ⟨some 46, .ld 106 3 true (.tmp 45), none⟩, ⟨some 12, .alc 106 (.agg #[.int .i64 0, .int .i64 0, .int .i64 0]), none⟩, ⟨none, .st 106 3 (.tmp 12) (.tmp 46), none⟩]
def Xn44_62 : C := regL [1, 7, 8, 9, 10, 27, 28, 29, 41, 42, 43] (some [0, 0, 0, 4, 14, 0, 0, 96, 224, 510, 1022, 2047, 4095]) [⟨some 47, .mv (.tmp 7), none⟩, ⟨some 48, .mv (.tmp 8), none⟩, ⟨some 49, .fa 0 (.tmp 12), none⟩, ⟨some 50, .ld 2 1 false (.tmp 49), none⟩, ⟨some 51, .bin 2 .add (.tmp 48) (.tmp 50), none⟩, ⟨some 52, .mv (.tmp 1), none⟩, ⟨some 53, .mv (.tmp 9), none⟩, ⟨some 54, .ia 1 (.tmp 52) (.tmp 53), none⟩, ⟨some 55, .ld 2 1 false (.tmp 54), none⟩, ⟨some 56, .bld (.agg #[.int .i64 0, .int .i64 0]) [(0, 1, .tmp 51), (1, 1, .tmp 55)], none⟩, ⟨some 57, .bls 35 2 1 (.agg #[.int .i64 0, .int .i64 0]) [(0, 2, .tmp 56)], none⟩, ⟨some 58, .app 35 2 16 (.tmp 47) (.tmp 57), none⟩, ⟨some 7, .mv (.tmp 58), none⟩]
def Xn44_60 : C := .seq Xn44_61 Xn44_62
def Xn44_59 : C := .block 3 Xn44_60
def Xn44_63 : C := regL [1, 7, 8, 9, 10, 27, 28, 29, 41, 42, 43] none [⟨some 59, .bin 3 .add (.tmp 43) (.const (.int .i64 1)), none⟩, ⟨some 43, .mv (.tmp 59), none⟩]
def Xn44_58 : C := seqL [1, 7, 8, 9, 10, 27, 28, 29, 41, 42, 43] Xn44_59 Xn44_63
def Xn44_54 : C := seqL [1, 7, 8, 9, 10, 27, 28, 29, 41, 42, 43] Xn44_55 Xn44_58
def Xn44_52 : C := .seq Xn44_53 Xn44_54
/- carried: [7, 43] -/
def Xn44_51 : C := loopL [1, 7, 8, 9, 10, 27, 28, 29, 41, 42, 43] Xn44_52
def Xn44_50 : C := .block 2 Xn44_51
def Xn44_48 : C := .seq Xn44_49 Xn44_50
def Xn44_64 : C := regL [1, 7, 8, 27, 28, 29] none [⟨some 60, .mv (.tmp 8), none⟩, ⟨some 61, .fa 1 (.tmp 10), none⟩, ⟨some 62, .ld 2 1 false (.tmp 61), none⟩, ⟨some 63, .fa 2 (.tmp 10), none⟩, ⟨some 64, .ld 2 1 false (.tmp 63), none⟩, ⟨some 65, .bin 2 .add (.tmp 62) (.tmp 64), none⟩, ⟨some 66, .bin 2 .add (.tmp 60) (.tmp 65), none⟩, ⟨some 8, .mv (.tmp 66), none⟩]
def Xn44_47 : C := seqL [1, 7, 8, 10, 27, 28, 29] Xn44_48 Xn44_64
def Xn44_39 : C := seqL [1, 7, 8, 9, 10, 27, 28, 29] Xn44_40 Xn44_47
def Xn44_37 : C := .seq Xn44_38 Xn44_39
def Xn44_36 : C := .block 1 Xn44_37
def Xn44_65 : C := regL [1, 7, 8, 27, 28, 29] none [⟨some 67, .bin 3 .add (.tmp 29) (.const (.int .i64 1)), none⟩, ⟨some 29, .mv (.tmp 67), none⟩]
def Xn44_35 : C := seqL [1, 7, 8, 27, 28, 29] Xn44_36 Xn44_65
def Xn44_31 : C := seqL [1, 7, 8, 27, 28, 29] Xn44_32 Xn44_35
def Xn44_29 : C := .seq Xn44_30 Xn44_31
/- carried: [7, 8, 29] -/
def Xn44_28 : C := loopL [1, 7, 8, 27, 28, 29] Xn44_29
def Xn44_27 : C := .block 0 Xn44_28
def Xn44_25 : C := .seq Xn44_26 Xn44_27
def Xn44_67 : C := regL [7] none [⟨some 68, .mv (.tmp 7), none⟩, ⟨some 69, .call 77 [.tmp 68, .func 78], none⟩]
def Xn44_69 : C := regL [7, 13] none [⟨some 70, .mv (.tmp 7), none⟩, ⟨some 71, .ia 2 (.tmp 70) (.const (.int .i64 0)), none⟩, ⟨some 72, .fa 0 (.tmp 71), none⟩, ⟨some 73, .ld 2 1 false (.tmp 72), none⟩, ⟨some 13, .mv (.tmp 73), none⟩]
def Xn44_72 : C := regL [7, 13, 75, 76] none [⟨some 74, .mv (.tmp 7), none⟩, ⟨some 75, .len (.tmp 74), none⟩, ⟨some 76, .mv (.const (.int .i64 0)), none⟩]
def Xn44_76 : C := regL [7, 13, 75, 76, 77] none [⟨some 77, .bin 3 .lss (.tmp 76) (.tmp 75), none⟩]
def Xn44_78 : C := .cond (.tmp 77) .skip (.exit 4)
def Xn44_84 : C := regL [7, 13, 14, 75, 76] none [⟨some 78, .mv (.tmp 76), none⟩, ⟨some 14, .mv (.tmp 78), none⟩]
def Xn44_85 : C := regL [7, 13, 75, 76] none [⟨some 79, .mv (.tmp 7), none⟩, ⟨some 80, .mv (.tmp 14), none⟩, ⟨some 81, .ia 2 (.tmp 79) (.tmp 80), none⟩, ⟨some 82, .fa 0 (.tmp 81), none⟩, ⟨some 83, .ld 2 1 false (.tmp 82), none⟩, ⟨some 84, .mv (.tmp 13), none⟩, ⟨some 85, .bin 2 .sub (.tmp 83) (.tmp 84), none⟩, ⟨some 86, .ia 2 (.tmp 79) (.tmp 80), none⟩, ⟨some 87, .fa 0 (.tmp 86), none⟩, ⟨none, .st 2 1 (.tmp 87) (.tmp 85), none⟩]
def Xn44_83 : C := .seq Xn44_84 Xn44_85
def Xn44_82 : C := .block 5 Xn44_83
def Xn44_86 : C := regL [7, 13, 75, 76] none [⟨some 88, .bin 3 .add (.tmp 76) (.const (.int .i64 1)), none⟩, ⟨some 76, .mv (.tmp 88), none⟩]
def Xn44_81 : C := seqL [7, 13, 75, 76] Xn44_82 Xn44_86
def Xn44_77 : C := seqL [7, 13, 75, 76] Xn44_78 Xn44_81
def Xn44_75 : C := .seq Xn44_76 Xn44_77
/- carried: [76] -/
def Xn44_74 : C := loopL [7, 13, 75, 76] Xn44_75
def Xn44_73 : C := .block 4 Xn44_74
def Xn44_71 : C := .seq Xn44_72 Xn44_73
def Xn44_89 : C := regL [7, 91] none [⟨some 89, .mv (.tmp 7), none⟩, ⟨some 90, .call 30 [.tmp 89], none⟩, ⟨some 91, .bin 30 .neq (.tmp 90) (.const (.int .i64 0)), none⟩]
def Xn44_92 : C := regL [4, 5] none [⟨some 4, .mv (.const (.slice none 0 0)), none⟩, ⟨some 5, .mv (.const (.int .i64 4)), none⟩]
def Xn44_91 : C := .seq Xn44_92 .ret
def Xn44_90 : C := .cond (.tmp 91) Xn44_91 .skip
def Xn44_88 : C := .seq Xn44_89 Xn44_90
def Xn44_96 : C := regL [4, 5] none [⟨some 92, .mv (.tmp 7), none⟩, ⟨some 4, .mv (.tmp 92), none⟩, ⟨some 5, .mv (.const (.int .i64 0)), none⟩]
def Xn44_95 : C := .seq Xn44_96 .ret
def Xn44_87 : C := seqL [7] Xn44_88 Xn44_95
def Xn44_70 : C := seqL [7] Xn44_71 Xn44_87
def Xn44_68 : C := .seq Xn44_69 Xn44_70
def Xn44_66 : C := .seq Xn44_67 Xn44_68
def Xn44_24 : C := seqL [7] Xn44_25 Xn44_66
def Xn44_22 : C := .seq Xn44_23 Xn44_24
def Xn44_20 : C := .seq Xn44_21 Xn44_22
def Xn44_12 : C := seqL [1, 2] Xn44_13 Xn44_20
def Xn44_2 : C := seqL [1, 2] Xn44_3 Xn44_12
def Xn44_0 : C := .seq Xn44_1 Xn44_2
theorem Xt44 : Text Try.prog 44 Xn44_0 93 2 [.t 4, .t 5] := ⟨⟨Try.f44, [2], Try.func44, by kernel_rfl, by kernel_rfl, by kernel_rfl, by kernel_rfl⟩⟩
def Xn45_1 : C := regL [1, 2] none [⟨some 2, .box true 67 (.tmp 0), none⟩, ⟨some 4, .mv (.const (.slice none 0 0)), none⟩, ⟨some 5, .mv (.const (.int .i64 0)), none⟩]
def Xn45_4 : C := regL [1, 2, 18] none [⟨some 16, .ld 67 4 true (.tmp 2), none⟩, ⟨some 17, .call 80 [.tmp 16], none⟩, ⟨some 18, .bin 30 .neq (.tmp 17) (.const (.int .i64 0)), none⟩]
def Xn45_7 : C := regL [4, 5] none [⟨some 19, .ld 67 4 true (.tmp 2), none⟩, ⟨some 20, .call 80 [.tmp 19], none⟩, ⟨some 4, .mv (.const (.slice none 0 0)), none⟩, ⟨some 5, .mv (.tmp 20), none⟩]
def Xn45_6 : C := .seq Xn45_7 .ret
def Xn45_5 : C := .cond (.tmp 18) Xn45_6 .skip
def Xn45_3 : C := .seq Xn45_4 Xn45_5
def Xn45_12 : C := regL [1, 2, 26] none [⟨some 21, .mv (.tmp 1), none⟩, ⟨some 22, .len (.tmp 21), none⟩, ⟨some 23, .fa 1 (.tmp 2), none⟩, ⟨some 24, .ld 65 1 false (.tmp 23), none⟩, ⟨some 25, .len (.tmp 24), none⟩, ⟨some 26, .bin 3 .neq (.tmp 22) (.tmp 25), none⟩]
def Xn45_15 : C := regL [4, 5] none [⟨some 4, .mv (.const (.slice none 0 0)), none⟩, ⟨some 5, .mv (.const (.int .i64 17)), none⟩]
def Xn45_14 : C := .seq Xn45_15 .ret
def Xn45_13 : C := .cond (.tmp 26) Xn45_14 .skip
def Xn45_11 : C := .seq Xn45_12 Xn45_13
def Xn45_20 : C := regL [1, 2, 6] none [⟨some 6, .mv (.const (.int .i64 0)), none⟩]
def Xn45_25 : C := regL [1, 2, 6, 30] none [⟨some 27, .mv (.tmp 6), none⟩, ⟨some 28, .mv (.tmp 1), none⟩, ⟨some 29, .len (.tmp 28), none⟩, ⟨some 30, .bin 3 .lss (.tmp 27) (.tmp 29), none⟩]
def Xn45_26 : C := .cond (.tmp 30) .skip (.exit 0)
def Xn45_24 : C := .seq Xn45_25 Xn45_26
def Xn45_32 : C := regL [1, 2, 6, 38] none [⟨some 33, .mv (.tmp 1), none⟩, ⟨some 34, .mv (.tmp 6), none⟩, ⟨some 35, .ia 1 (.tmp 33) (.tmp 34), none⟩, ⟨some 36, .ld 2 1 false (.tmp 35), none⟩, ⟨some 37, .call 61 [.tmp 36, .const (.int .i64 0), .const (.int .i64 1048576)], none⟩, ⟨some 38, .un .not (.tmp 37), none⟩]
def Xn45_35 : C := regL [4, 5] none [⟨some 4, .mv (.const (.slice none 0 0)), none⟩, ⟨some 5, .mv (.const (.int .i64 3)), none⟩]
def Xn45_34 : C := .seq Xn45_35 .ret
def Xn45_33 : C := .cond (.tmp 38) Xn45_34 .skip
def Xn45_31 : C := .seq Xn45_32 Xn45_33
def Xn45_30 : C := .block 1 Xn45_31
def Xn45_38 : C := regL [1, 2, 6] none [⟨some 31, .mv (.tmp 6), none⟩, ⟨some 32, .bin 3 .add (.tmp 31) (.const (.int .i64 1)), none⟩, ⟨some 6, .mv (.tmp 32), none⟩]
def Xn45_29 : C := seqL [1, 2, 6] Xn45_30 Xn45_38
def Xn45_23 : C := seqL [1, 2, 6] Xn45_24 Xn45_29
/- carried: [6] -/
def Xn45_22 : C := loopL [1, 2, 6] Xn45_23
def Xn45_21 : C := .block 0 Xn45_22
def Xn45_19 : C := .seq Xn45_20 Xn45_21
def Xn45_40 : C := regL [1, 2, 7] none [⟨some 7, .mv (.const (.slice none 0 0)), none⟩]
def Xn45_42 : C := regL [1, 2, 7, 8] none [⟨some 8, .mv (.const (.int .i64 0)), none⟩]
def Xn45_45 : C := regL [1, 2, 7, 8, 9] none [⟨some 9, .mv (.const (.int .i64 0)), none⟩]
def Xn45_50 : C := regL [1, 2, 7, 8, 9, 43] none [⟨some 39, .mv (.tmp 9), none⟩, ⟨some 40, .fa 1 (.tmp 2), none⟩, ⟨some 41, .ld 65 1 false (.tmp 40), none⟩, ⟨some 42, .len (.tmp 41), none⟩, ⟨some 43, .bin 3 .lss (.tmp 39) (.tmp 42), none⟩]
def Xn45_51 : C := .cond (.tmp 43) .skip (.exit 2)
def Xn45_49 : C := .seq Xn45_50 Xn45_51
def Xn45_57 : C := regL [1, 2, 7, 8, 9, 10] none [⟨some 46, .fa 1 (.tmp 2), none⟩, ⟨some 47, .ld 65 1 false (.tmp 46), none⟩, ⟨some 48, .mv (.tmp 9), none⟩, ⟨some 49, .ia 11 (.tmp 47) (.tmp 48), none⟩, ⟨some 50, .ld 70 11 true (.tmp 49), none⟩, ⟨some 10, .alc 70 (.agg #[.int .i64 0, .int .i64 0, .int .i64 0, .int .i64 0, .int .i64 0, .int .i64 0, .int .i64 0, .int .i64 0, .int .i64 0, .int .i64 0, .slice none 0 0]), none⟩, ⟨none, .st 70 11 (.tmp 10) (.tmp 50), none⟩]
def Xn45_60 : C := regL [1, 2, 7, 8, 9, 10, 11] none [⟨some 11, .mv (.const (.int .i64 0)), none⟩]
def Xn45_65 : C := regL [1, 2, 7, 8, 9, 10, 11, 55] none [⟨some 51, .mv (.tmp 11), none⟩, ⟨some 52, .fa 10 (.tmp 10), none⟩, ⟨some 53, .ld 68 1 false (.tmp 52), none⟩, ⟨some 54, .len (.tmp 53), none⟩, ⟨some 55, .bin 3 .lss (.tmp 51) (.tmp 54), none⟩]
def Xn45_66 : C := .cond (.tmp 55) .skip (.exit 4)
def Xn45_64 : C := .seq Xn45_65 Xn45_66
def Xn45_72 : C := regL [1, 2, 7, 8, 9, 10, 11, 12] (some [0, 0, 2, 0, 14, 30, 62, 127, 0, 0, 768, 1792, 4095, 0, 16383]) [⟨some 58, .mv (.tmp 8), none⟩, ⟨some 59, .fa 10 (.tmp 10), none⟩, ⟨some 60, .ld 68 1 false (.tmp 59), none⟩, ⟨some 61, .mv (.tmp 11), none⟩, ⟨some 62, .ia 3 (.tmp 60) (.tmp 61), none⟩, ⟨some 63, .fa 0 (.tmp 62), none⟩, ⟨some 64, .ld 2 1 false (.tmp 63), none⟩, ⟨some 65, .bin 2 .add (.tmp 58) (.tmp 64), none⟩, ⟨some 66, .mv (.tmp 1), none⟩, ⟨some 67, .mv (.tmp 9), none⟩, ⟨some 68, .ia 1 (.tmp 66) (.tmp 67), none⟩, ⟨some 69, .ld 2 1 false (.tmp 68), none⟩, ⟨some 70, .bld (.agg #[.int .i64 0, .int .i64 0]) [(0, 1, .tmp 65), (1, 1, .tmp 69)], none⟩, ⟨some 12, .alc 35 (.agg #[.int .i64 0, .int .i64 0]), none⟩, ⟨none, .st 35 2 (.tmp 12) (.tmp 70), none⟩]
def Xn45_74 : C := regL [1, 2, 7, 8, 9, 10, 11, 12, 13] none [⟨some 71, .mv (.tmp 7), none⟩, ⟨some 72, .len (.tmp 71), none⟩, ⟨some 13, .mv (.tmp 72), none⟩]
def Xn45_80 : C := regL [1, 2, 7, 8, 9, 10, 11, 12, 13, 85] (some [0, 1, 3, 7, 7, 23, 63, 127, 255, 7, 519, 2047, 4095]) [⟨some 73, .mv (.tmp 13), none⟩, ⟨some 74, .bin 3 .gtr (.tmp 73) (.const (.int .i64 0)), none⟩, ⟨some 75, .mv (.tmp 74), none⟩, ⟨some 76, .mv (.tmp 7), some (75, true)⟩, ⟨some 77, .mv (.tmp 13), some (75, true)⟩, ⟨some 78, .bin 3 .sub (.tmp 77) (.const (.int .i64 1)), some (75, true)⟩, ⟨some 79, .ia 2 (.tmp 76) (.tmp 78), some (75, true)⟩, ⟨some 80, .fa 0 (.tmp 79), some (75, true)⟩, ⟨some 81, .ld 2 1 false (.tmp 80), some (75, true)⟩, ⟨some 82, .fa 0 (.tmp 12), some (75, true)⟩, ⟨some 83, .ld 2 1 false (.tmp 82), some (75, true)⟩, ⟨some 84, .bin 2 .gtr (.tmp 81) (.tmp 83), some (75, true)⟩, ⟨some 85, .pick 75 (.tmp 84) (.const (.bool false)), none⟩]
def Xn45_81 : C := .cond (.tmp 85) .skip (.exit 6)
def Xn45_79 : C := .seq Xn45_80 Xn45_81
def Xn45_85 : C := regL [1, 2, 7, 8, 9, 10, 11, 12, 13] none [⟨some 86, .mv (.tmp 13), none⟩, ⟨some 87, .bin 3 .sub (.tmp 86) (.const (.int .i64 1)), none⟩, ⟨some 13, .mv (.tmp 87), none⟩]
def Xn45_84 : C := .block 7 Xn45_85
def Xn45_78 : C := seqL [1, 2, 7, 8, 9, 10, 11, 12, 13] Xn45_79 Xn45_84
/- carried: [13] -/
def Xn45_77 : C := loopL [1, 2, 7, 8, 9, 10, 11, 12, 13] Xn45_78
def Xn45_76 : C := .block 6 Xn45_77
def Xn45_86 : C := regL [1, 2, 7, 8, 9, 10, 11] (some [0, 0, 0, 6, 15, 0, 32, 127, 0, 0, 768, 2047, 4095]) [⟨some 88, .bls 35 2 0 (.agg #[.int .i64 0, .int .i64 0]) [], none⟩, ⟨some 89, .mv (.tmp 7), none⟩, ⟨some 90, .mv (.tmp 13), none⟩, ⟨some 91, .slc 25 2 (.tmp 89) none (some (.tmp 90)), none⟩, ⟨some 92, .app 35 2 16 (.tmp 88) (.tmp 91), none⟩, ⟨some 93, .ld 35 2 true (.tmp 12), none⟩, ⟨some 94, .bls 35 2 1 (.agg #[.int .i64 0, .int .i64 0]) [(0, 2, .tmp 93)], none⟩, ⟨some 95, .app 35 2 16 (.tmp 92) (.tmp 94), none⟩, ⟨some 96, .mv (.tmp 7), none⟩, ⟨some 97, .mv (.tmp 13), none⟩, ⟨some 98, .slc 25 2 (.tmp 96) (some (.tmp 97)) none, none⟩, ⟨some 99, .app 35 2 16 (.tmp 95) (.tmp 98), none⟩, ⟨some 7, .mv (.tmp 99), none⟩]
def Xn45_75 : C := seqL [1, 2, 7, 8, 9, 10, 11, 12, 13] Xn45_76 Xn45_86
def Xn45_73 : C := .seq Xn45_74 Xn45_75
def Xn45_71 : C := .seq Xn45_72 Xn45_73
def Xn45_70 : C := .block 5 Xn45_71
def Xn45_87 : C := regL [1, 2, 7, 8, 9, 10, 11] none [⟨some 56, .mv (.tmp 11), none⟩, ⟨some 57, .bin 3 .add (.tmp 56) (.const (.int .i64 1)), none⟩, ⟨some 11, .mv (.tmp 57), none⟩]
def Xn45_69 : C := seqL [1, 2, 7, 8, 9, 10, 11] Xn45_70 Xn45_87
def Xn45_63 : C := seqL [1, 2, 7, 8, 9, 10, 11] Xn45_64 Xn45_69
/- carried: [7, 11] -/
def Xn45_62 : C := loopL [1, 2, 7, 8, 9, 10, 11] Xn45_63
def Xn45_61 : C := .block 4 Xn45_62
def Xn45_59 : C := .seq Xn45_60 Xn45_61
def Xn45_88 : C := regL [1, 2, 7, 8, 9] none [⟨some 100, .mv (.tmp 8), none⟩, ⟨some 101, .fa 1 (.tmp 10), none⟩, ⟨some 102, .ld 2 1 false (.tmp 101), none⟩, ⟨some 103, .fa 2 (.tmp 10), none⟩, ⟨some 104, .ld 2 1 false (.tmp 103), none⟩, ⟨some 105, .bin 2 .add (.tmp 102) (.tmp 104), none⟩, ⟨some 106, .bin 2 .add (.tmp 100) (.tmp 105), none⟩, ⟨some 8, .mv (.tmp 106), none⟩]
def Xn45_58 : C := seqL [1, 2, 7, 8, 9, 10] Xn45_59 Xn45_88
def Xn45_56 : C := .seq Xn45_57 Xn45_58
def Xn45_55 : C := .block 3 Xn45_56
def Xn45_89 : C := regL [1, 2, 7, 8, 9] none [⟨some 44, .mv (.tmp 9), none⟩, ⟨some 45, .bin 3 .add (.tmp 44) (.const (.int .i64 1)), none⟩, ⟨some 9, .mv (.tmp 45), none⟩]
def Xn45_54 : C := seqL [1, 2, 7, 8, 9] Xn45_55 Xn45_89
def Xn45_48 : C := seqL [1, 2, 7, 8, 9] Xn45_49 Xn45_54
/- carried: [7, 8, 9] -/
def Xn45_47 : C := loopL [1, 2, 7, 8, 9] Xn45_48
def Xn45_46 : C := .block 2 Xn45_47
def Xn45_44 : C := .seq Xn45_45 Xn45_46
def Xn45_91 : C := regL [7, 14] none [⟨some 107, .mv (.tmp 7), none⟩, ⟨some 108, .ia 2 (.tmp 107) (.const (.int .i64 0)), none⟩, ⟨some 109, .fa 0 (.tmp 108), none⟩, ⟨some 110, .ld 2 1 false (.tmp 109), none⟩, ⟨some 14, .mv (.tmp 110), none⟩]
def Xn45_94 : C := regL [7, 14, 15] none [⟨some 15, .mv (.const (.int .i64 0)), none⟩]
def Xn45_99 : C := regL [7, 14, 15, 114] none [⟨some 111, .mv (.tmp 15), none⟩, ⟨some 112, .mv (.tmp 7), none⟩, ⟨some 113, .len (.tmp 112), none⟩, ⟨some 114, .bin 3 .lss (.tmp 111) (.tmp 113), none⟩]
def Xn45_100 : C := .cond (.tmp 114) .skip (.exit 8)
def Xn45_98 : C := .seq Xn45_99 Xn45_100
def Xn45_105 : C := regL [7, 14, 15] none [⟨some 117, .mv (.tmp 7), none⟩, ⟨some 118, .mv (.tmp 15), none⟩, ⟨some 119, .ia 2 (.tmp 117) (.tmp 118), none⟩, ⟨some 120, .fa 0 (.tmp 119), none⟩, ⟨some 121, .ld 2 1 false (.tmp 120), none⟩, ⟨some 122, .mv (.tmp 14), none⟩, ⟨some 123, .bin 2 .sub (.tmp 121) (.tmp 122), none⟩, ⟨some 124, .ia 2 (.tmp 117) (.tmp 118), none⟩, ⟨some 125, .fa 0 (.tmp 124), none⟩, ⟨none, .st 2 1 (.tmp 125) (.tmp 123), none⟩]
def Xn45_104 : C := .block 9 Xn45_105
def Xn45_106 : C := regL [7, 14, 15] none [⟨some 115, .mv (.tmp 15), none⟩, ⟨some 116, .bin 3 .add (.tmp 115) (.const (.int .i64 1)), none⟩, ⟨some 15, .mv (.tmp 116), none⟩]
def Xn45_103 : C := seqL [7, 14, 15] Xn45_104 Xn45_106
def Xn45_97 : C := seqL [7, 14, 15] Xn45_98 Xn45_103
/- carried: [15] -/
def Xn45_96 : C := loopL [7, 14, 15] Xn45_97
def Xn45_95 : C := .block 8 Xn45_96
def Xn45_93 : C := .seq Xn45_94 Xn45_95
def Xn45_109 : C := regL [7, 128] none [⟨some 126, .mv (.tmp 7), none⟩, ⟨some 127, .call 60 [.tmp 126], none⟩, ⟨some 128, .bin 30 .neq (.tmp 127) (.const (.int .i64 0)), none⟩]
def Xn45_112 : C := regL [4, 5] none [⟨some 4, .mv (.const (.slice none 0 0)), none⟩, ⟨some 5, .mv (.const (.int .i64 4)), none⟩]
def Xn45_111 : C := .seq Xn45_112 .ret
def Xn45_110 : C := .cond (.tmp 128) Xn45_111 .skip
def Xn45_108 : C := .seq Xn45_109 Xn45_110
def Xn45_116 : C := regL [4, 5] none [⟨some 129, .mv (.tmp 7), none⟩, ⟨some 4, .mv (.tmp 129), none⟩, ⟨some 5, .mv (.const (.int .i64 0)), none⟩]
def Xn45_115 : C := .seq Xn45_116 .ret
def Xn45_107 : C := seqL [7] Xn45_108 Xn45_115
def Xn45_92 : C := seqL [7] Xn45_93 Xn45_107
def Xn45_90 : C := .seq Xn45_91 Xn45_92
def Xn45_43 : C := seqL [7] Xn45_44 Xn45_90
def Xn45_41 : C := .seq Xn45_42 Xn45_43
def Xn45_39 : C := .seq Xn45_40 Xn45_41
def Xn45_18 : C := seqL [1, 2] Xn45_19 Xn45_39
def Xn45_10 : C := seqL [1, 2] Xn45_11 Xn45_18
def Xn45_2 : C := seqL [1, 2] Xn45_3 Xn45_10
def Xn45_0 : C := .seq Xn45_1 Xn45_2
theorem Xt45 : Text Try.prog 45 Xn45_0 130 2 [.t 4, .t 5] := ⟨⟨Try.f45, [2], Try.func45, by kernel_rfl, by kernel_rfl, by kernel_rfl, by kernel_rfl⟩⟩
def Xn46_1 : C := regL [0, 1] none [⟨some 4, .mv (.const (.bool false)), none⟩]
def Xn46_4 : C := regL [0, 1, 10] none [⟨some 6, .mv (.tmp 0), none⟩, ⟨some 7, .len (.tmp 6), none⟩, ⟨some 8, .mv (.tmp 1), none⟩, ⟨some 9, .len (.tmp 8), none⟩, ⟨some 10, .bin 3 .neq (.tmp 7) (.tmp 9), none⟩]
def Xn46_7 : C := regL [4] none [⟨some 4, .mv (.const (.bool false)), none⟩]
def Xn46_6 : C := .seq Xn46_7 .ret
def Xn46_5 : C := .cond (.tmp 10) Xn46_6 .skip
def Xn46_3 : C := .seq Xn46_4 Xn46_5
def Xn46_12 : C := regL [0, 1, 5] none [⟨some 5, .mv (.const (.int .i64 0)), none⟩]
def Xn46_17 : C := regL [0, 1, 5, 14] none [⟨some 11, .mv (.tmp 5), none⟩, ⟨some 12, .mv (.tmp 0), none⟩, ⟨some 13, .len (.tmp 12), none⟩, ⟨some 14, .bin 3 .lss (.tmp 11) (.tmp 13), none⟩]
def Xn46_18 : C := .cond (.tmp 14) .skip (.exit 0)
def Xn46_16 : C := .seq Xn46_17 Xn46_18
def Xn46_24 : C := regL [0, 1, 5, 25] (some [0, 0, 3, 7, 0, 0, 48, 112, 255]) [⟨some 17, .mv (.tmp 0), none⟩, ⟨some 18, .mv (.tmp 5), none⟩, ⟨some 19, .ia 2 (.tmp 17) (.tmp 18), none⟩, ⟨some 20, .ld 35 2 true (.tmp 19), none⟩, ⟨some 21, .mv (.tmp 1), none⟩, ⟨some 22, .mv (.tmp 5), none⟩, ⟨some 23, .ia 2 (.tmp 21) (.tmp 22), none⟩, ⟨some 24, .ld 35 2 true (.tmp 23), none⟩, ⟨some 25, .eqb 5 true (.tmp 20) (.tmp 24), none⟩]
def Xn46_27 : C := regL [4] none [⟨some 4, .mv (.const (.bool false)), none⟩]
def Xn46_26 : C := .seq Xn46_27 .ret
def Xn46_25 : C := .cond (.tmp 25) Xn46_26 .skip
def Xn46_23 : C := .seq Xn46_24 Xn46_25
def Xn46_22 : C := .block 1 Xn46_23
def Xn46_30 : C := regL [0, 1, 5] none [⟨some 15, .mv (.tmp 5), none⟩, ⟨some 16, .bin 3 .add (.tmp 15) (.const (.int .i64 1)), none⟩, ⟨some 5, .mv (.tmp 16), none⟩]
def Xn46_21 : C := seqL [0, 1, 5] Xn46_22 Xn46_30
def Xn46_15 : C := seqL [0, 1, 5] Xn46_16 Xn46_21
/- carried: [5] -/
def Xn46_14 : C := loopL [0, 1, 5] Xn46_15
def Xn46_13 : C := .block 0 Xn46_14
def Xn46_11 : C := .seq Xn46_12 Xn46_13
def Xn46_32 : C := regL [4] none [⟨some 4, .mv (.const (.bool true)), none⟩]
def Xn46_31 : C := .seq Xn46_32 .ret
def Xn46_10 : C := seqL [] Xn46_11 Xn46_31
def Xn46_2 : C := seqL [0, 1] Xn46_3 Xn46_10
def Xn46_0 : C := .seq Xn46_1 Xn46_2
theorem Xt46 : Text Try.prog 46 Xn46_0 26 2 [.t 4] := ⟨⟨Try.f46, [], Try.func46, by kernel_rfl, by kernel_rfl, by kernel_rfl, by kernel_rfl⟩⟩
def Xn47_1 : C := regL [1, 2, 3] none [⟨some 3, .box true 24 (.tmp 0), none⟩, ⟨some 6, .mv (.const (.int .i64 0)), none⟩]
def Xn47_4 : C := regL [2, 3, 7] none [⟨some 8, .ld 24 6 true (.tmp 3), none⟩, ⟨some 9, .mv (.tmp 1), none⟩, ⟨some 10, .call 65 [.tmp 8, .tmp 9], none⟩, ⟨some 7, .mv (.tmp 10), none⟩]
def Xn47_6 : C := regL [2, 3, 7, 12] none [⟨some 11, .mv (.tmp 7), none⟩, ⟨some 12, .bin 30 .neq (.tmp 11) (.const (.int .i64 0)), none⟩]
def Xn47_9 : C := regL [6] none [⟨some 13, .mv (.tmp 7), none⟩, ⟨some 6, .mv (.tmp 13), none⟩]
def Xn47_8 : C := .seq Xn47_9 .ret
def Xn47_7 : C := .cond (.tmp 12) Xn47_8 .skip
def Xn47_5 : C := .seq Xn47_6 Xn47_7
def Xn47_3 : C := .seq Xn47_4 Xn47_5
def Xn47_14 : C := regL [22] none [⟨some 14, .mv (.tmp 2), none⟩, ⟨some 15, .bin 3 .lss (.tmp 14) (.const (.int .i64 0)), none⟩, ⟨some 16, .mv (.tmp 15), none⟩, ⟨some 17, .mv (.tmp 2), some (16, false)⟩, ⟨some 18, .fa 0 (.tmp 3), some (16, false)⟩, ⟨some 19, .ld 22 1 false (.tmp 18), some (16, false)⟩, ⟨some 20, .len (.tmp 19), some (16, false)⟩, ⟨some 21, .bin 3 .geq (.tmp 17) (.tmp 20), some (16, false)⟩, ⟨some 22, .pick 16 (.const (.bool true)) (.tmp 21), none⟩]
def Xn47_17 : C := regL [6] none [⟨some 6, .mv (.const (.int .i64 5)), none⟩]
def Xn47_16 : C := .seq Xn47_17 .ret
def Xn47_15 : C := .cond (.tmp 22) Xn47_16 .skip
def Xn47_13 : C := .seq Xn47_14 Xn47_15
def Xn47_21 : C := regL [6] none [⟨some 6, .mv (.const (.int .i64 0)), none⟩]
def Xn47_20 : C := .seq Xn47_21 .ret
def Xn47_12 : C := seqL [] Xn47_13 Xn47_20
def Xn47_2 : C := seqL [2, 3] Xn47_3 Xn47_12
def Xn47_0 : C := .seq Xn47_1 Xn47_2
theorem Xt47 : Text Try.prog 47 Xn47_0 23 3 [.t 6] := ⟨⟨Try.f47, [3], Try.func47, by kernel_rfl, by kernel_rfl, by kernel_rfl, by kernel_rfl⟩⟩
def Xn48_1 : C := regL [0, 1, 2] none [⟨some 6, .mv (.const (.bool false)), none⟩]
def Xn48_3 : C := regL [6] none [⟨some 7, .mv (.tmp 0), none⟩, ⟨some 8, .mv (.tmp 1), none⟩, ⟨some 9, .bin 2 .geq (.tmp 7) (.tmp 8), none⟩, ⟨some 10, .mv (.tmp 9), none⟩, ⟨some 11, .mv (.tmp 0), some (10, true)⟩, ⟨some 12, .mv (.tmp 2), some (10, true)⟩, ⟨some 13, .bin 2 .leq (.tmp 11) (.tmp 12), some (10, true)⟩, ⟨some 14, .pick 10 (.tmp 13) (.const (.bool false)), none⟩, ⟨some 6, .mv (.tmp 14), none⟩]
def Xn48_2 : C := .seq Xn48_3 .ret
def Xn48_0 : C := .seq Xn48_1 Xn48_2
theorem Xt48 : Text Try.prog 48 Xn48_0 15 3 [.t 6] := ⟨⟨Try.f48, [], Try.func48, by kernel_rfl, by kernel_rfl, by kernel_rfl, by kernel_rfl⟩⟩
def Xn49_1 : C := regL [1, 3, 5, 6] none [⟨some 3, .box true 24 (.tmp 0), none⟩, ⟨some 5, .box true 2 (.tmp 2), none⟩, ⟨some 6, .alc 79 (.agg #[.nilFunc, .slice none 0 0]), none⟩]
def Xn49_3 : C := regL [5, 6, 7, 8] (some [0, 0, 3, 0, 8, 0, 56, 120, 0, 0, 775, 2047]) [⟨some 9, .ld 24 6 true (.tmp 3), none⟩, ⟨some 10, .mv (.tmp 1), none⟩, ⟨some 11, .call 54 [.tmp 9, .tmp 10], none⟩, ⟨some 12, .fa 0 (.tmp 3), none⟩, ⟨some 13, .ld 22 1 false (.tmp 12), none⟩, ⟨some 14, .mv (.tmp 1), none⟩, ⟨some 15, .ia 1 (.tmp 13) (.tmp 14), none⟩, ⟨some 16, .ld 2 1 false (.tmp 15), none⟩, ⟨some 7, .alc 2 (.int .i64 0), none⟩, ⟨some 8, .alc 2 (.int .i64 0), none⟩, ⟨none, .st 2 1 (.tmp 7) (.tmp 11), none⟩, ⟨none, .st 2 1 (.tmp 8) (.tmp 16), none⟩]
def Xn49_5 : C := regL [6] none [⟨some 17, .mkf 81 [] [.tmp 7, .tmp 8, .tmp 5], none⟩, ⟨some 18, .ld 2 1 false (.tmp 7), none⟩, ⟨some 19, .ld 2 1 false (.tmp 7), none⟩, ⟨some 20, .ld 2 1 false (.tmp 5), none⟩, ⟨some 21, .bin 2 .add (.tmp 19) (.tmp 20), none⟩, ⟨some 22, .ld 2 1 false (.tmp 7), none⟩, ⟨some 23, .ld 2 1 false (.tmp 8), none⟩, ⟨some 24, .bin 2 .add (.tmp 22) (.tmp 23), none⟩, ⟨some 25, .bls 2 1 3 (.int .i64 0) [(0, 1, .tmp 18), (1, 1, .tmp 21), (2, 1, .tmp 24)], none⟩, ⟨some 26, .bld (.agg #[.nilFunc, .slice none 0 0]) [(0, 1, .tmp 17), (1, 1, .tmp 25)], none⟩, ⟨none, .st 79 2 (.tmp 6) (.tmp 26), none⟩]
def Xn49_4 : C := .seq Xn49_5 .ret
def Xn49_2 : C := .seq Xn49_3 Xn49_4
def Xn49_0 : C := .seq Xn49_1 Xn49_2
theorem Xt49 : Text Try.prog 49 Xn49_0 27 3 [.c 6 2 true] := ⟨⟨Try.f49, [3, 5], Try.func49, by kernel_rfl, by kernel_rfl, by kernel_rfl, by kernel_rfl⟩⟩
def Xn50_1 : C := regL [4, 5, 6, 7, 8] none [⟨some 4, .box true 79 (.tmp 0), none⟩, ⟨some 5, .box true 25 (.tmp 1), none⟩, ⟨some 6, .box true 3 (.tmp 2), none⟩, ⟨some 7, .box true 2 (.tmp 3), none⟩, ⟨some 8, .alc 29 (.agg #[.int .i64 0, .int .i64 0, .int .i64 0, .int .i64 0]), none⟩]
def Xn50_3 : C := regL [8] none [⟨some 9, .mkf 82 [] [.tmp 4, .tmp 5, .tmp 6, .tmp 7], none⟩, ⟨some 10, .call 70 [.tmp 9, .func 84], none⟩, ⟨none, .st 29 4 (.tmp 8) (.tmp 10), none⟩]
def Xn50_2 : C := .seq Xn50_3 .ret
def Xn50_0 : C := .seq Xn50_1 Xn50_2
theorem Xt50 : Text Try.prog 50 Xn50_0 11 4 [.c 8 4 true] := ⟨⟨Try.f50, [4, 5, 6, 7], Try.func50, by kernel_rfl, by kernel_rfl, by kernel_rfl, by kernel_rfl⟩⟩
def Xn51_1 : C := regL [1, 3, 5, 6] none [⟨some 3, .box true 24 (.tmp 0), none⟩, ⟨some 5, .box true 4 (.tmp 2), none⟩, ⟨some 6, .alc 79 (.agg #[.nilFunc, .slice none 0 0]), none⟩]
def Xn51_3 : C := regL [5, 6, 7, 8] (some [0, 0, 3, 0, 8, 0, 56, 120, 0, 0, 775, 2047]) [⟨some 9, .ld 24 6 true (.tmp 3), none⟩, ⟨some 10, .mv (.tmp 1), none⟩, ⟨some 11, .call 54 [.tmp 9, .tmp 10], none⟩, ⟨some 12, .fa 0 (.tmp 3), none⟩, ⟨some 13, .ld 22 1 false (.tmp 12), none⟩, ⟨some 14, .mv (.tmp 1), none⟩, ⟨some 15, .ia 1 (.tmp 13) (.tmp 14), none⟩, ⟨some 16, .ld 2 1 false (.tmp 15), none⟩, ⟨some 7, .alc 2 (.int .i64 0), none⟩, ⟨some 8, .alc 2 (.int .i64 0), none⟩, ⟨none, .st 2 1 (.tmp 7) (.tmp 11), none⟩, ⟨none, .st 2 1 (.tmp 8) (.tmp 16), none⟩]
def Xn51_5 : C := regL [6] none [⟨some 17, .mkf 86 [] [.tmp 7, .tmp 8, .tmp 5], none⟩, ⟨some 18, .ld 2 1 false (.tmp 7), none⟩, ⟨some 19, .ld 2 1 false (.tmp 7), none⟩, ⟨some 20, .ld 2 1 false (.tmp 8), none⟩, ⟨some 21, .bin 2 .add (.tmp 19) (.tmp 20), none⟩, ⟨some 22, .bls 2 1 2 (.int .i64 0) [(0, 1, .tmp 18), (1, 1, .tmp 21)], none⟩, ⟨some 23, .bld (.agg #[.nilFunc, .slice none 0 0]) [(0, 1, .tmp 17), (1, 1, .tmp 22)], none⟩, ⟨none, .st 79 2 (.tmp 6) (.tmp 23), none⟩]
def Xn51_4 : C := .seq Xn51_5 .ret
def Xn51_2 : C := .seq Xn51_3 Xn51_4
def Xn51_0 : C := .seq Xn51_1 Xn51_2
theorem Xt51 : Text Try.prog 51 Xn51_0 24 3 [.c 6 2 true] := ⟨⟨Try.f51, [3, 5], Try.func51, by kernel_rfl, by kernel_rfl, by kernel_rfl, by kernel_rfl⟩⟩
def Xn53_1 : C := regL [1, 2, 3] none [⟨some 3, .box true 79 (.tmp 0), none⟩, ⟨some 6, .mv (.const (.int .i64 0)), none⟩]
def Xn53_3 : C := regL [1, 2, 3, 7] none [⟨some 10, .mv (.tmp 1), none⟩, ⟨some 11, .len (.tmp 10), none⟩, ⟨some 12, .mks 2 1 8 (.int .i64 0) (.tmp 11) (.tmp 11), none⟩, ⟨some 7, .mv (.tmp 12), none⟩]
def Xn53_6 : C := regL [2, 3, 7, 13, 14, 15] none [⟨some 13, .mv (.tmp 1), none⟩, ⟨some 14, .len (.tmp 13), none⟩, ⟨some 15, .mv (.const (.int .i64 0)), none⟩]
def Xn53_10 : C := regL [2, 3, 7, 13, 14, 15, 16] none [⟨some 16, .bin 3 .lss (.tmp 15) (.tmp 14), none⟩]
def Xn53_12 : C := .cond (.tmp 16) .skip (.exit 0)
def Xn53_18 : C := regL [2, 3, 7, 8, 9, 13, 14, 15] none [⟨some 17, .mv (.tmp 15), none⟩, ⟨some 18, .ia 2 (.tmp 13) (.tmp 15), none⟩, ⟨some 19, .ld 35 2 true (.tmp 18), none⟩, ⟨some 9, .alc 35 (.agg #[.int .i64 0, .int .i64 0]), none⟩, ⟨some 8, .mv (.tmp 17), none⟩, ⟨none, .st 35 2 (.tmp 9) (.tmp 19), none⟩]
def Xn53_20 : C := regL [2, 3, 7, 8, 9, 13, 14, 15, 22] none [⟨some 20, .fa 1 (.tmp 9), none⟩, ⟨some 21, .ld 2 1 false (.tmp 20), none⟩, ⟨some 22, .bin 2 .gtr (.tmp 21) (.const (.int .i64 0)), none⟩]
def Xn53_22 : C := regL [2, 3, 7, 13, 14, 15] (some [0, 0, 0, 4, 0, 16, 0, 0, 128, 448, 1008, 2044, 4095, 8191]) [⟨some 23, .mv (.tmp 7), none⟩, ⟨some 24, .mv (.tmp 8), none⟩, ⟨some 25, .fa 1 (.tmp 9), none⟩, ⟨some 26, .ld 2 1 false (.tmp 25), none⟩, ⟨some 27, .fa 0 (.tmp 3), none⟩, ⟨some 28, .ld 77 1 false (.tmp 27), none⟩, ⟨some 29, .mv (.tmp 2), none⟩, ⟨some 30, .fa 0 (.tmp 9), none⟩, ⟨some 31, .ld 2 1 false (.tmp 30), none⟩, ⟨some 32, .bin 2 .sub (.tmp 29) (.tmp 31), none⟩, ⟨some 33, .callv (.tmp 28) [.tmp 32], none⟩, ⟨some 34, .bin 2 .mul (.tmp 26) (.tmp 33), none⟩, ⟨some 35, .ia 1 (.tmp 23) (.tmp 24), none⟩, ⟨none, .st 2 1 (.tmp 35) (.tmp 34), none⟩]
def Xn53_21 : C := .cond (.tmp 22) Xn53_22 .skip
def Xn53_19 : C := .seq Xn53_20 Xn53_21
def Xn53_17 : C := .seq Xn53_18 Xn53_19
def Xn53_16 : C := .block 1 Xn53_17
def Xn53_24 : C := regL [2, 3, 7, 13, 14, 15] none [⟨some 36, .bin 3 .add (.tmp 15) (.const (.int .i64 1)), none⟩, ⟨some 15, .mv (.tmp 36), none⟩]
def Xn53_15 : C := seqL [2, 3, 7, 13, 14, 15] Xn53_16 Xn53_24
def Xn53_11 : C := seqL [2, 3, 7, 13, 14, 15] Xn53_12 Xn53_15
def Xn53_9 : C := .seq Xn53_10 Xn53_11
/- carried: [15] -/
def Xn53_8 : C := loopL [2, 3, 7, 13, 14, 15] Xn53_9
def Xn53_7 : C := .block 0 Xn53_8
def Xn53_5 : C := .seq Xn53_6 Xn53_7
def Xn53_26 : C := regL [6] none [⟨some 37, .mv (.tmp 7), none⟩, ⟨some 38, .call 87 [.tmp 37], none⟩, ⟨some 6, .mv (.tmp 38), none⟩]
def Xn53_25 : C := .seq Xn53_26 .ret
def Xn53_4 : C := seqL [7] Xn53_5 Xn53_25
def Xn53_2 : C := .seq Xn53_3 Xn53_4
def Xn53_0 : C := .seq Xn53_1 Xn53_2
theorem Xt53 : Text Try.prog 53 Xn53_0 39 3 [.t 6] := ⟨⟨Try.f53, [3], Try.func53, by kernel_rfl, by kernel_rfl, by kernel_rfl, by kernel_rfl⟩⟩
def Xn54_1 : C := regL [1, 2, 4] none [⟨some 2, .box true 24 (.tmp 0), none⟩, ⟨some 4, .mv (.const (.int .i64 0)), none⟩]
def Xn54_4 : C := regL [4, 10, 11, 12] none [⟨some 7, .fa 0 (.tmp 2), none⟩, ⟨some 8, .ld 22 1 false (.tmp 7), none⟩, ⟨some 9, .mv (.tmp 1), none⟩, ⟨some 10, .slc 22 1 (.tmp 8) none (some (.tmp 9)), none⟩, ⟨some 11, .len (.tmp 10), none⟩, ⟨some 12, .mv (.const (.int .i64 0)), none⟩]
def Xn54_8 : C := regL [4, 10, 11, 12, 13] none [⟨some 13, .bin 3 .lss (.tmp 12) (.tmp 11), none⟩]
def Xn54_10 : C := .cond (.tmp 13) .skip (.exit 0)
def Xn54_16 : C := regL [4, 6, 10, 11, 12] none [⟨some 14, .ia 1 (.tmp 10) (.tmp 12), none⟩, ⟨some 15, .ld 2 1 false (.tmp 14), none⟩, ⟨some 6, .mv (.tmp 15), none⟩]
def Xn54_17 : C := regL [4, 10, 11, 12] none [⟨some 16, .mv (.tmp 4), none⟩, ⟨some 17, .mv (.tmp 6), none⟩, ⟨some 18, .bin 2 .add (.tmp 16) (.tmp 17), none⟩, ⟨some 4, .mv (.tmp 18), none⟩]
def Xn54_15 : C := .seq Xn54_16 Xn54_17
def Xn54_14 : C := .block 1 Xn54_15
def Xn54_18 : C := regL [4, 10, 11, 12] none [⟨some 19, .bin 3 .add (.tmp 12) (.const (.int .i64 1)), none⟩, ⟨some 12, .mv (.tmp 19), none⟩]
def Xn54_13 : C := seqL [4, 10, 11, 12] Xn54_14 Xn54_18
def Xn54_9 : C := seqL [4, 10, 11, 12] Xn54_10 Xn54_13
def Xn54_7 : C := .seq Xn54_8 Xn54_9
/- carried: [4, 12] -/
def Xn54_6 : C := loopL [4, 10, 11, 12] Xn54_7
def Xn54_5 : C := .block 0 Xn54_6
def Xn54_3 : C := .seq Xn54_4 Xn54_5
def Xn54_20 : C := regL [4] none [⟨some 20, .mv (.tmp 4), none⟩, ⟨some 4, .mv (.tmp 20), none⟩]
def Xn54_19 : C := .seq Xn54_20 .ret
def Xn54_2 : C := seqL [4] Xn54_3 Xn54_19
def Xn54_0 : C := .seq Xn54_1 Xn54_2
theorem Xt54 : Text Try.prog 54 Xn54_0 21 2 [.t 4] := ⟨⟨Try.f54, [2], Try.func54, by kernel_rfl, by kernel_rfl, by kernel_rfl, by kernel_rfl⟩⟩
end Go.Proofs.Ytbdnnicodailcaa

/- Print of my own generator (wip/sy/gen2.lean). -/
namespace Go.Proofs.Ytbdnnicodailcaa
open Go Sy
set_option maxRecDepth 100000
def Xn55_1 : C := regL [1, 2] none [⟨some 2, .box true 43 (.tmp 0), none⟩, ⟨some 4, .mv (.const (.int .i64 0)), none⟩, ⟨some 5, .mv (.const (.int .i64 0)), none⟩]
def Xn55_4 : C := regL [1, 2, 6] none [⟨some 13, .ld 43 3 true (.tmp 2), none⟩, ⟨some 14, .call 25 [.tmp 13], none⟩, ⟨some 15, .mv (.tmp 1), none⟩, ⟨some 16, .call 30 [.tmp 15], none⟩, ⟨some 17, .bls 30 1 2 (.int .i64 0) [(0, 1, .tmp 14), (1, 1, .tmp 16)], none⟩, ⟨some 18, .call 88 [.tmp 17], none⟩, ⟨some 6, .mv (.tmp 18), none⟩]
def Xn55_6 : C := regL [1, 2, 6, 20] none [⟨some 19, .mv (.tmp 6), none⟩, ⟨some 20, .bin 30 .neq (.tmp 19) (.const (.int .i64 0)), none⟩]
def Xn55_9 : C := regL [4, 5] none [⟨some 21, .mv (.tmp 6), none⟩, ⟨some 4, .mv (.const (.int .i64 0)), none⟩, ⟨some 5, .mv (.tmp 21), none⟩]
def Xn55_8 : C := .seq Xn55_9 .ret
def Xn55_7 : C := .cond (.tmp 20) Xn55_8 .skip
def Xn55_5 : C := .seq Xn55_6 Xn55_7
def Xn55_3 : C := .seq Xn55_4 Xn55_5
def Xn55_13 : C := regL [1, 2, 7] none [⟨some 7, .mv (.const (.int .i64 0)), none⟩]
def Xn55_16 : C := regL [2, 7, 22, 23, 24] none [⟨some 22, .mv (.tmp 1), none⟩, ⟨some 23, .len (.tmp 22), none⟩, ⟨some 24, .mv (.const (.int .i64 0)), none⟩]
def Xn55_20 : C := regL [2, 7, 22, 23, 24, 25] none [⟨some 25, .bin 3 .lss (.tmp 24) (.tmp 23), none⟩]
def Xn55_22 : C := .cond (.tmp 25) .skip (.exit 0)
def Xn55_28 : C := regL [2, 7, 9, 22, 23, 24] none [⟨some 26, .ia 2 (.tmp 22) (.tmp 24), none⟩, ⟨some 27, .ld 35 2 true (.tmp 26), none⟩, ⟨some 9, .alc 35 (.agg #[.int .i64 0, .int .i64 0]), none⟩, ⟨none, .st 35 2 (.tmp 9) (.tmp 27), none⟩]
def Xn55_30 : C := regL [2, 7, 10, 22, 23, 24] none [⟨some 28, .fa 1 (.tmp 9), none⟩, ⟨some 29, .ld 2 1 false (.tmp 28), none⟩, ⟨some 30, .bin 2 .mul (.tmp 29) (.const (.int .i64 1000)), none⟩, ⟨some 31, .fa 0 (.tmp 2), none⟩, ⟨some 32, .ld 2 1 false (.tmp 31), none⟩, ⟨some 33, .call 59 [.tmp 30, .tmp 32], none⟩, ⟨some 10, .mv (.tmp 33), none⟩]
def Xn55_32 : C := regL [2, 7, 10, 11, 22, 23, 24] none [⟨some 34, .mv (.tmp 10), none⟩, ⟨some 11, .mv (.tmp 34), none⟩]
def Xn55_35 : C := regL [2, 7, 10, 11, 12, 22, 23, 24] none [⟨some 12, .mv (.const (.int .i64 1)), none⟩]
def Xn55_40 : C := regL [2, 7, 10, 11, 12, 22, 23, 24, 42] none [⟨some 35, .mv (.tmp 12), none⟩, ⟨some 36, .fa 2 (.tmp 2), none⟩, ⟨some 37, .ld 3 1 false (.tmp 36), none⟩, ⟨some 38, .bin 3 .lss (.tmp 35) (.tmp 37), none⟩, ⟨some 39, .mv (.tmp 38), none⟩, ⟨some 40, .mv (.tmp 11), some (39, true)⟩, ⟨some 41, .bin 2 .leq (.tmp 40) (.const (.int .i64 1073741824)), some (39, true)⟩, ⟨some 42, .pick 39 (.tmp 41) (.const (.bool false)), none⟩]
def Xn55_41 : C := .cond (.tmp 42) .skip (.exit 2)
def Xn55_39 : C := .seq Xn55_40 Xn55_41
def Xn55_46 : C := regL [2, 7, 10, 11, 12, 22, 23, 24] none [⟨some 45, .mv (.tmp 11), none⟩, ⟨some 46, .mv (.tmp 10), none⟩, ⟨some 47, .bin 2 .mul (.tmp 45) (.tmp 46), none⟩, ⟨some 48, .call 59 [.tmp 47, .const (.int .i64 1000)], none⟩, ⟨some 11, .mv (.tmp 48), none⟩]
def Xn55_45 : C := .block 3 Xn55_46
def Xn55_47 : C := regL [2, 7, 10, 11, 12, 22, 23, 24] none [⟨some 43, .mv (.tmp 12), none⟩, ⟨some 44, .bin 3 .add (.tmp 43) (.const (.int .i64 1)), none⟩, ⟨some 12, .mv (.tmp 44), none⟩]
def Xn55_44 : C := seqL [2, 7, 10, 11, 12, 22, 23, 24] Xn55_45 Xn55_47
def Xn55_38 : C := seqL [2, 7, 10, 11, 12, 22, 23, 24] Xn55_39 Xn55_44
/- carried: [11, 12] -/
def Xn55_37 : C := loopL [2, 7, 10, 11, 12, 22, 23, 24] Xn55_38
def Xn55_36 : C := .block 2 Xn55_37
def Xn55_34 : C := .seq Xn55_35 Xn55_36
def Xn55_49 : C := regL [2, 7, 11, 22, 23, 24] none [⟨some 49, .mv (.tmp 7), none⟩, ⟨some 50, .mv (.tmp 11), none⟩, ⟨some 51, .bin 2 .add (.tmp 49) (.tmp 50), none⟩, ⟨some 7, .mv (.tmp 51), none⟩]
def Xn55_51 : C := regL [2, 7, 22, 23, 24, 57] none [⟨some 52, .mv (.tmp 11), none⟩, ⟨some 53, .bin 2 .gtr (.tmp 52) (.const (.int .i64 1073741824)), none⟩, ⟨some 54, .mv (.tmp 53), none⟩, ⟨some 55, .mv (.tmp 7), some (54, false)⟩, ⟨some 56, .bin 2 .gtr (.tmp 55) (.const (.int .i64 1073741824)), some (54, false)⟩, ⟨some 57, .pick 54 (.const (.bool true)) (.tmp 56), none⟩]
def Xn55_54 : C := regL [4, 5] none [⟨some 4, .mv (.const (.int .i64 0)), none⟩, ⟨some 5, .mv (.const (.int .i64 4)), none⟩]
def Xn55_53 : C := .seq Xn55_54 .ret
def Xn55_52 : C := .cond (.tmp 57) Xn55_53 .skip
def Xn55_50 : C := .seq Xn55_51 Xn55_52
def Xn55_48 : C := .seq Xn55_49 Xn55_50
def Xn55_33 : C := seqL [2, 7, 11, 22, 23, 24] Xn55_34 Xn55_48
def Xn55_31 : C := .seq Xn55_32 Xn55_33
def Xn55_29 : C := .seq Xn55_30 Xn55_31
def Xn55_27 : C := .seq Xn55_28 Xn55_29
def Xn55_26 : C := .block 1 Xn55_27
def Xn55_57 : C := regL [2, 7, 22, 23, 24] none [⟨some 58, .bin 3 .add (.tmp 24) (.const (.int .i64 1)), none⟩, ⟨some 24, .mv (.tmp 58), none⟩]
def Xn55_25 : C := seqL [2, 7, 22, 23, 24] Xn55_26 Xn55_57
def Xn55_21 : C := seqL [2, 7, 22, 23, 24] Xn55_22 Xn55_25
def Xn55_19 : C := .seq Xn55_20 Xn55_21
/- carried: [7, 24] -/
def Xn55_18 : C := loopL [2, 7, 22, 23, 24] Xn55_19
def Xn55_17 : C := .block 0 Xn55_18
def Xn55_15 : C := .seq Xn55_16 Xn55_17
def Xn55_59 : C := regL [4, 5] none [⟨some 59, .mv (.tmp 7), none⟩, ⟨some 4, .mv (.tmp 59), none⟩, ⟨some 5, .mv (.const (.int .i64 0)), none⟩]
def Xn55_58 : C := .seq Xn55_59 .ret
def Xn55_14 : C := seqL [7] Xn55_15 Xn55_58
def Xn55_12 : C := .seq Xn55_13 Xn55_14
def Xn55_2 : C := seqL [1, 2] Xn55_3 Xn55_12
def Xn55_0 : C := .seq Xn55_1 Xn55_2
theorem Xt55 : Text Try.prog 55 Xn55_0 60 2 [.t 4, .t 5] := ⟨⟨Try.f55, [2], Try.func55, by kernel_rfl, by kernel_rfl, by kernel_rfl, by kernel_rfl⟩⟩
def Xn56_1 : C := regL [0, 1, 2] none [⟨some 6, .mv (.const (.int .i64 0)), none⟩]
def Xn56_3 : C := regL [2, 7, 8] none [⟨some 12, .mv (.tmp 0), none⟩, ⟨some 13, .cvt .u64 (.tmp 12), none⟩, ⟨some 14, .mv (.tmp 1), none⟩, ⟨some 15, .cvt .u64 (.tmp 14), none⟩, ⟨some 16, .call 89 [.tmp 13, .tmp 15], none⟩, ⟨some 11, .mv (.tmp 16), none⟩, ⟨some 17, .ext 0 (.tmp 11), none⟩, ⟨some 18, .ext 1 (.tmp 11), none⟩, ⟨some 7, .mv (.tmp 17), none⟩, ⟨some 8, .mv (.tmp 18), none⟩]
def Xn56_5 : C := regL [9, 10] none [⟨some 20, .mv (.tmp 7), none⟩, ⟨some 21, .mv (.tmp 8), none⟩, ⟨some 22, .mv (.tmp 2), none⟩, ⟨some 23, .cvt .u64 (.tmp 22), none⟩, ⟨some 24, .call 90 [.tmp 20, .tmp 21, .tmp 23], none⟩, ⟨some 19, .mv (.tmp 24), none⟩, ⟨some 25, .ext 0 (.tmp 19), none⟩, ⟨some 26, .ext 1 (.tmp 19), none⟩, ⟨some 9, .mv (.tmp 25), none⟩, ⟨some 10, .mv (.tmp 26), none⟩]
def Xn56_8 : C := regL [9, 28] none [⟨some 27, .mv (.tmp 10), none⟩, ⟨some 28, .bin 117 .gtr (.tmp 27) (.const (.int .u64 0)), none⟩]
def Xn56_10 : C := regL [9] none [⟨some 29, .mv (.tmp 9), none⟩, ⟨some 30, .bin 117 .add (.tmp 29) (.const (.int .u64 1)), none⟩, ⟨some 9, .mv (.tmp 30), none⟩]
def Xn56_9 : C := .cond (.tmp 28) Xn56_10 .skip
def Xn56_7 : C := .seq Xn56_8 Xn56_9
def Xn56_13 : C := regL [6] none [⟨some 31, .mv (.tmp 9), none⟩, ⟨some 32, .cvt .i64 (.tmp 31), none⟩, ⟨some 6, .mv (.tmp 32), none⟩]
def Xn56_12 : C := .seq Xn56_13 .ret
def Xn56_6 : C := seqL [9] Xn56_7 Xn56_12
def Xn56_4 : C := .seq Xn56_5 Xn56_6
def Xn56_2 : C := .seq Xn56_3 Xn56_4
def Xn56_0 : C := .seq Xn56_1 Xn56_2
theorem Xt56 : Text Try.prog 56 Xn56_0 33 3 [.t 6] := ⟨⟨Try.f56, [], Try.func56, by kernel_rfl, by kernel_rfl, by kernel_rfl, by kernel_rfl⟩⟩
/- carried: [5, 6] -/
def Xn59_1 : C := regL [0, 1] none [⟨some 4, .mv (.const (.int .i64 0)), none⟩]
def Xn59_3 : C := regL [4] none [⟨some 5, .mv (.tmp 0), none⟩, ⟨some 6, .mv (.tmp 1), none⟩, ⟨some 7, .bin 2 .add (.tmp 5) (.tmp 6), none⟩, ⟨some 8, .bin 2 .sub (.tmp 7) (.const (.int .i64 1)), none⟩, ⟨some 9, .mv (.tmp 1), none⟩, ⟨some 10, .bin 2 .quo (.tmp 8) (.tmp 9), none⟩, ⟨some 4, .mv (.tmp 10), none⟩]
def Xn59_2 : C := .seq Xn59_3 .ret
def Xn59_0 : C := .seq Xn59_1 Xn59_2
theorem Xt59 : Text Try.prog 59 Xn59_0 11 2 [.t 4] := ⟨⟨Try.f59, [], Try.func59, by kernel_rfl, by kernel_rfl, by kernel_rfl, by kernel_rfl⟩⟩
def Xn60_1 : C := regL [0] none [⟨some 2, .mv (.const (.int .i64 0)), none⟩]
def Xn60_4 : C := regL [0, 11] none [⟨some 4, .mv (.tmp 0), none⟩, ⟨some 5, .len (.tmp 4), none⟩, ⟨some 6, .bin 3 .lss (.tmp 5) (.const (.int .i64 1)), none⟩, ⟨some 7, .mv (.tmp 6), none⟩, ⟨some 8, .mv (.tmp 0), some (7, false)⟩, ⟨some 9, .len (.tmp 8), some (7, false)⟩, ⟨some 10, .bin 3 .gtr (.tmp 9) (.const (.int .i64 64)), some (7, false)⟩, ⟨some 11, .pick 7 (.const (.bool true)) (.tmp 10), none⟩]
def Xn60_7 : C := regL [2] none [⟨some 2, .mv (.const (.int .i64 6)), none⟩]
def Xn60_6 : C := .seq Xn60_7 .ret
def Xn60_5 : C := .cond (.tmp 11) Xn60_6 .skip
def Xn60_3 : C := .seq Xn60_4 Xn60_5
def Xn60_12 : C := regL [0, 3] none [⟨some 3, .mv (.const (.int .i64 0)), none⟩]
def Xn60_17 : C := regL [0, 3, 15] none [⟨some 12, .mv (.tmp 3), none⟩, ⟨some 13, .mv (.tmp 0), none⟩, ⟨some 14, .len (.tmp 13), none⟩, ⟨some 15, .bin 3 .lss (.tmp 12) (.tmp 14), none⟩]
def Xn60_18 : C := .cond (.tmp 15) .skip (.exit 0)
def Xn60_16 : C := .seq Xn60_17 Xn60_18
def Xn60_24 : C := regL [0, 3, 63] (some [0, 1, 3, 7, 7, 31, 63, 127, 255, 511, 1023, 2047, 4095, 8191, 16383, 16383, 65535, 131071, 262143, 16383, 16383, 1064959, 3686399, 7880703, 16269311, 33554431, 67108863, 134217727, 268435455, 536870911, 536870911, 2147483647, 4294967295, 8589934591, 17179869183, 34359738367, 68719476735, 137438953471, 274877906943, 274877906943, 1099511627775, 2199023255551, 4398046511103, 8796093022207, 17592186044415, 35184372088831]) [⟨some 18, .mv (.tmp 3), none⟩, ⟨some 19, .bin 3 .eql (.tmp 18) (.const (.int .i64 0)), none⟩, ⟨some 20, .mv (.tmp 19), none⟩, ⟨some 21, .mv (.tmp 0), some (20, true)⟩, ⟨some 22, .mv (.tmp 3), some (20, true)⟩, ⟨some 23, .ia 2 (.tmp 21) (.tmp 22), some (20, true)⟩, ⟨some 24, .fa 0 (.tmp 23), some (20, true)⟩, ⟨some 25, .ld 2 1 false (.tmp 24), some (20, true)⟩, ⟨some 26, .bin 2 .neq (.tmp 25) (.const (.int .i64 0)), some (20, true)⟩, ⟨some 27, .pick 20 (.tmp 26) (.const (.bool false)), none⟩, ⟨some 28, .mv (.tmp 27), none⟩, ⟨some 29, .mv (.tmp 3), some (28, false)⟩, ⟨some 30, .bin 3 .gtr (.tmp 29) (.const (.int .i64 0)), some (28, false)⟩, ⟨some 31, .mv (.tmp 30), some (28, false)⟩, ⟨some 32, .mv (.tmp 0), some (31, true)⟩, ⟨some 33, .mv (.tmp 3), some (31, true)⟩, ⟨some 34, .ia 2 (.tmp 32) (.tmp 33), some (31, true)⟩, ⟨some 35, .fa 0 (.tmp 34), some (31, true)⟩, ⟨some 36, .ld 2 1 false (.tmp 35), some (31, true)⟩, ⟨some 37, .mv (.tmp 0), some (31, true)⟩, ⟨some 38, .mv (.tmp 3), some (31, true)⟩, ⟨some 39, .bin 3 .sub (.tmp 38) (.const (.int .i64 1)), some (31, true)⟩, ⟨some 40, .ia 2 (.tmp 37) (.tmp 39), some (31, true)⟩, ⟨some 41, .fa 0 (.tmp 40), some (31, true)⟩, ⟨some 42, .ld 2 1 false (.tmp 41), some (31, true)⟩, ⟨some 43, .bin 2 .lss (.tmp 36) (.tmp 42), some (31, true)⟩, ⟨some 44, .pick 31 (.tmp 43) (.const (.bool false)), some (28, false)⟩, ⟨some 45, .pick 28 (.const (.bool true)) (.tmp 44), none⟩, ⟨some 46, .mv (.tmp 45), none⟩, ⟨some 47, .mv (.tmp 0), some (46, false)⟩, ⟨some 48, .mv (.tmp 3), some (46, false)⟩, ⟨some 49, .ia 2 (.tmp 47) (.tmp 48), some (46, false)⟩, ⟨some 50, .fa 0 (.tmp 49), some (46, false)⟩, ⟨some 51, .ld 2 1 false (.tmp 50), some (46, false)⟩, ⟨some 52, .call 61 [.tmp 51, .const (.int .i64 0), .const (.int .i64 262144)], some (46, false)⟩, ⟨some 53, .un .not (.tmp 52), some (46, false)⟩, ⟨some 54, .pick 46 (.const (.bool true)) (.tmp 53), none⟩, ⟨some 55, .mv (.tmp 54), none⟩, ⟨some 56, .mv (.tmp 0), some (55, false)⟩, ⟨some 57, .mv (.tmp 3), some (55, false)⟩, ⟨some 58, .ia 2 (.tmp 56) (.tmp 57), some (55, false)⟩, ⟨some 59, .fa 1 (.tmp 58), some (55, false)⟩, ⟨some 60, .ld 2 1 false (.tmp 59), some (55, false)⟩, ⟨some 61, .call 61 [.tmp 60, .const (.int .i64 0), .const (.int .i64 1048576)], some (55, false)⟩, ⟨some 62, .un .not (.tmp 61), some (55, false)⟩, ⟨some 63, .pick 55 (.const (.bool true)) (.tmp 62), none⟩]
def Xn60_27 : C := regL [2] none [⟨some 2, .mv (.const (.int .i64 2)), none⟩]
def Xn60_26 : C := .seq Xn60_27 .ret
def Xn60_25 : C := .cond (.tmp 63) Xn60_26 .skip
def Xn60_23 : C := .seq Xn60_24 Xn60_25
def Xn60_22 : C := .block 1 Xn60_23
def Xn60_30 : C := regL [0, 3] none [⟨some 16, .mv (.tmp 3), none⟩, ⟨some 17, .bin 3 .add (.tmp 16) (.const (.int .i64 1)), none⟩, ⟨some 3, .mv (.tmp 17), none⟩]
def Xn60_21 : C := seqL [0, 3] Xn60_22 Xn60_30
def Xn60_15 : C := seqL [0, 3] Xn60_16 Xn60_21
/- carried: [3] -/
def Xn60_14 : C := loopL [0, 3] Xn60_15
def Xn60_13 : C := .block 0 Xn60_14
def Xn60_11 : C := .seq Xn60_12 Xn60_13
def Xn60_32 : C := regL [2] none [⟨some 2, .mv (.const (.int .i64 0)), none⟩]
def Xn60_31 : C := .seq Xn60_32 .ret
def Xn60_10 : C := seqL [] Xn60_11 Xn60_31
def Xn60_2 : C := seqL [0] Xn60_3 Xn60_10
def Xn60_0 : C := .seq Xn60_1 Xn60_2
theorem Xt60 : Text Try.prog 60 Xn60_0 64 1 [.t 2] := ⟨⟨Try.f60, [], Try.func60, by kernel_rfl, by kernel_rfl, by kernel_rfl, by kernel_rfl⟩⟩
def Xn61_1 : C := regL [0, 1, 2] none [⟨some 6, .mv (.const (.bool false)), none⟩]
def Xn61_3 : C := regL [6] none [⟨some 7, .mv (.tmp 0), none⟩, ⟨some 8, .mv (.tmp 1), none⟩, ⟨some 9, .bin 2 .geq (.tmp 7) (.tmp 8), none⟩, ⟨some 10, .mv (.tmp 9), none⟩, ⟨some 11, .mv (.tmp 0), some (10, true)⟩, ⟨some 12, .mv (.tmp 2), some (10, true)⟩, ⟨some 13, .bin 2 .leq (.tmp 11) (.tmp 12), some (10, true)⟩, ⟨some 14, .pick 10 (.tmp 13) (.const (.bool false)), none⟩, ⟨some 6, .mv (.tmp 14), none⟩]
def Xn61_2 : C := .seq Xn61_3 .ret
def Xn61_0 : C := .seq Xn61_1 Xn61_2
theorem Xt61 : Text Try.prog 61 Xn61_0 15 3 [.t 6] := ⟨⟨Try.f61, [], Try.func61, by kernel_rfl, by kernel_rfl, by kernel_rfl, by kernel_rfl⟩⟩
/- carried: [9, 10] -/
/- carried: [6, 7] -/
def Xn65_1 : C := regL [1, 2] none [⟨some 2, .box true 24 (.tmp 0), none⟩, ⟨some 4, .mv (.const (.int .i64 0)), none⟩]
def Xn65_3 : C := regL [4] none [⟨some 5, .ld 24 6 true (.tmp 2), none⟩, ⟨some 6, .call 29 [.tmp 5], none⟩, ⟨some 7, .mv (.tmp 1), none⟩, ⟨some 8, .call 30 [.tmp 7], none⟩, ⟨some 9, .bls 30 1 2 (.int .i64 0) [(0, 1, .tmp 6), (1, 1, .tmp 8)], none⟩, ⟨some 10, .call 88 [.tmp 9], none⟩, ⟨some 4, .mv (.tmp 10), none⟩]
def Xn65_2 : C := .seq Xn65_3 .ret
def Xn65_0 : C := .seq Xn65_1 Xn65_2
theorem Xt65 : Text Try.prog 65 Xn65_0 11 2 [.t 4] := ⟨⟨Try.f65, [2], Try.func65, by kernel_rfl, by kernel_rfl, by kernel_rfl, by kernel_rfl⟩⟩
/- carried: [63] -/
/- carried: [25] -/
/- carried: [11] -/
def Xn70_1 : C := regL [0, 3, 4] none [⟨some 3, .box true 102 (.tmp 1), none⟩, ⟨some 4, .alc 29 (.agg #[.int .i64 0, .int .i64 0, .int .i64 0, .int .i64 0]), none⟩]
def Xn70_3 : C := regL [0, 3, 4, 5] none [⟨some 5, .alc 4 (.bool false), none⟩, ⟨none, .st 4 1 (.tmp 5) (.const (.bool true)), none⟩]
def Xn70_6 : C := regL [3, 4, 5, 7] none [⟨some 7, .mv (.tmp 0), none⟩]
def Xn70_9 : C := regL [3, 4, 5, 6] none [⟨some 6, .alc 29 (.agg #[.int .i64 0, .int .i64 0, .int .i64 0, .int .i64 0]), none⟩, ⟨none, .st 29 4 (.tmp 6) (.tmp 8), none⟩]
def Xn70_12 : C := regL [4, 5, 6, 15] none [⟨some 9, .ld 4 1 false (.tmp 5), none⟩, ⟨some 10, .mv (.tmp 9), none⟩, ⟨some 11, .ld 102 1 false (.tmp 3), some (10, false)⟩, ⟨some 12, .ld 29 4 true (.tmp 4), some (10, false)⟩, ⟨some 13, .ld 29 4 true (.tmp 6), some (10, false)⟩, ⟨some 14, .callv (.tmp 11) [.tmp 12, .tmp 13], some (10, false)⟩, ⟨some 15, .pick 10 (.const (.bool true)) (.tmp 14), none⟩]
def Xn70_14 : C := regL [] none [⟨some 16, .ld 29 4 true (.tmp 6), none⟩, ⟨none, .st 29 4 (.tmp 4) (.tmp 16), none⟩, ⟨none, .st 4 1 (.tmp 5) (.const (.bool false)), none⟩]
def Xn70_13 : C := .cond (.tmp 15) Xn70_14 .skip
def Xn70_11 : C := .seq Xn70_12 Xn70_13
def Xn70_10 : C := .block 1 Xn70_11
def Xn70_8 : C := .rfn (.tmp 7) [8] Xn70_9 Xn70_10
def Xn70_7 : C := .block 0 Xn70_8
def Xn70_5 : C := .seq Xn70_6 Xn70_7
def Xn70_17 : C := regL [4] none [⟨some 17, .ld 29 4 true (.tmp 4), none⟩, ⟨none, .st 29 4 (.tmp 4) (.tmp 17), none⟩]
def Xn70_16 : C := .seq Xn70_17 .ret
def Xn70_4 : C := seqL [4] Xn70_5 Xn70_16
def Xn70_2 : C := .seq Xn70_3 Xn70_4
def Xn70_0 : C := .seq Xn70_1 Xn70_2
theorem Xt70 : Text Try.prog 70 Xn70_0 18 2 [.c 4 4 true] := ⟨⟨Try.f70, [3], Try.func70, by kernel_rfl, by kernel_rfl, by kernel_rfl, by kernel_rfl⟩⟩
/- carried: [10, 12] -/
/- carried: [10, 11] -/
/- carried: [10] -/
/- carried: [12] -/
/- carried: [8] -/
def Xn76_1 : C := regL [1] none [⟨some 1, .box true 67 (.tmp 0), none⟩, ⟨some 2, .mv (.const (.int .i64 0)), none⟩]
def Xn76_4 : C := regL [1, 11] none [⟨some 3, .fa 1 (.tmp 1), none⟩, ⟨some 4, .ld 65 1 false (.tmp 3), none⟩, ⟨some 5, .len (.tmp 4), none⟩, ⟨some 6, .bin 3 .gtr (.tmp 5) (.const (.int .i64 12)), none⟩, ⟨some 7, .mv (.tmp 6), none⟩, ⟨some 8, .fa 1 (.tmp 1), some (7, false)⟩, ⟨some 9, .ld 65 1 false (.tmp 8), some (7, false)⟩, ⟨some 10, .call 98 [.tmp 9, .func 99], some (7, false)⟩, ⟨some 11, .pick 7 (.const (.bool true)) (.tmp 10), none⟩]
def Xn76_7 : C := regL [2] none [⟨some 2, .mv (.const (.int .i64 6)), none⟩]
def Xn76_6 : C := .seq Xn76_7 .ret
def Xn76_5 : C := .cond (.tmp 11) Xn76_6 .skip
def Xn76_3 : C := .seq Xn76_4 Xn76_5
def Xn76_12 : C := regL [1, 49] none [⟨some 12, .fa 0 (.tmp 1), none⟩, ⟨some 13, .ld 9 1 false (.tmp 12), none⟩, ⟨some 14, .call 100 [.tmp 13], none⟩, ⟨some 15, .un .not (.tmp 14), none⟩, ⟨some 16, .mv (.tmp 15), none⟩, ⟨some 17, .fa 1 (.tmp 1), some (16, false)⟩, ⟨some 18, .ld 65 1 false (.tmp 17), some (16, false)⟩, ⟨some 19, .len (.tmp 18), some (16, false)⟩, ⟨some 20, .bin 3 .eql (.tmp 19) (.const (.int .i64 0)), some (16, false)⟩, ⟨some 21, .pick 16 (.const (.bool true)) (.tmp 20), none⟩, ⟨some 22, .mv (.tmp 21), none⟩, ⟨some 23, .fa 1 (.tmp 1), some (22, false)⟩, ⟨some 24, .ld 65 1 false (.tmp 23), some (22, false)⟩, ⟨some 25, .ia 11 (.tmp 24) (.const (.int .i64 0)), some (22, false)⟩, ⟨some 26, .fa 0 (.tmp 25), some (22, false)⟩, ⟨some 27, .ld 3 1 false (.tmp 26), some (22, false)⟩, ⟨some 28, .bin 3 .neq (.tmp 27) (.const (.int .i64 0)), some (22, false)⟩, ⟨some 29, .pick 22 (.const (.bool true)) (.tmp 28), none⟩, ⟨some 30, .mv (.tmp 29), none⟩, ⟨some 31, .fa 2 (.tmp 1), some (30, false)⟩, ⟨some 32, .ld 3 1 false (.tmp 31), some (30, false)⟩, ⟨some 33, .bin 3 .lss (.tmp 32) (.const (.int .i64 0)), some (30, false)⟩, ⟨some 34, .pick 30 (.const (.bool true)) (.tmp 33), none⟩, ⟨some 35, .mv (.tmp 34), none⟩, ⟨some 36, .fa 2 (.tmp 1), some (35, false)⟩, ⟨some 37, .ld 3 1 false (.tmp 36), some (35, false)⟩, ⟨some 38, .fa 3 (.tmp 1), some (35, false)⟩, ⟨some 39, .ld 3 1 false (.tmp 38), some (35, false)⟩, ⟨some 40, .bin 3 .gtr (.tmp 37) (.tmp 39), some (35, false)⟩, ⟨some 41, .pick 35 (.const (.bool true)) (.tmp 40), none⟩, ⟨some 42, .mv (.tmp 41), none⟩, ⟨some 43, .fa 3 (.tmp 1), some (42, false)⟩, ⟨some 44, .ld 3 1 false (.tmp 43), some (42, false)⟩, ⟨some 45, .fa 1 (.tmp 1), some (42, false)⟩, ⟨some 46, .ld 65 1 false (.tmp 45), some (42, false)⟩, ⟨some 47, .len (.tmp 46), some (42, false)⟩, ⟨some 48, .bin 3 .geq (.tmp 44) (.tmp 47), some (42, false)⟩, ⟨some 49, .pick 42 (.const (.bool true)) (.tmp 48), none⟩]
def Xn76_15 : C := regL [2] none [⟨some 2, .mv (.const (.int .i64 2)), none⟩]
def Xn76_14 : C := .seq Xn76_15 .ret
def Xn76_13 : C := .cond (.tmp 49) Xn76_14 .skip
def Xn76_11 : C := .seq Xn76_12 Xn76_13
def Xn76_20 : C := regL [52] none [⟨some 50, .fa 1 (.tmp 1), none⟩, ⟨some 51, .ld 65 1 false (.tmp 50), none⟩, ⟨some 52, .call 98 [.tmp 51, .func 101], none⟩]
def Xn76_23 : C := regL [2] none [⟨some 2, .mv (.const (.int .i64 2)), none⟩]
def Xn76_22 : C := .seq Xn76_23 .ret
def Xn76_21 : C := .cond (.tmp 52) Xn76_22 .skip
def Xn76_19 : C := .seq Xn76_20 Xn76_21
def Xn76_27 : C := regL [2] none [⟨some 2, .mv (.const (.int .i64 0)), none⟩]
def Xn76_26 : C := .seq Xn76_27 .ret
def Xn76_18 : C := seqL [] Xn76_19 Xn76_26
def Xn76_10 : C := seqL [1] Xn76_11 Xn76_18
def Xn76_2 : C := seqL [1] Xn76_3 Xn76_10
def Xn76_0 : C := .seq Xn76_1 Xn76_2
theorem Xt76 : Text Try.prog 76 Xn76_0 53 1 [.t 2] := ⟨⟨Try.f76, [1], Try.func76, by kernel_rfl, by kernel_rfl, by kernel_rfl, by kernel_rfl⟩⟩
def Xn77_0 : C := regL [] none [⟨some 4, .mv (.tmp 0), none⟩, ⟨some 5, .mv (.tmp 0), none⟩, ⟨some 6, .len (.tmp 5), none⟩, ⟨some 7, .mv (.tmp 1), none⟩, ⟨some 8, .call 103 [.tmp 4, .tmp 6, .tmp 7], none⟩]
theorem Xt77 : Text Try.prog 77 Xn77_0 9 2 [] := ⟨⟨Try.f77, [], Try.func77, by kernel_rfl, by kernel_rfl, by kernel_rfl, by kernel_rfl⟩⟩
def Xn78_1 : C := regL [2, 3] none [⟨some 2, .box true 35 (.tmp 0), none⟩, ⟨some 3, .box true 35 (.tmp 1), none⟩, ⟨some 4, .mv (.const (.int .i64 0)), none⟩]
def Xn78_3 : C := regL [4] none [⟨some 5, .fa 0 (.tmp 2), none⟩, ⟨some 6, .ld 2 1 false (.tmp 5), none⟩, ⟨some 7, .fa 0 (.tmp 3), none⟩, ⟨some 8, .ld 2 1 false (.tmp 7), none⟩, ⟨some 9, .call 79 [.tmp 6, .tmp 8], none⟩, ⟨some 4, .mv (.tmp 9), none⟩]
def Xn78_2 : C := .seq Xn78_3 .ret
def Xn78_0 : C := .seq Xn78_1 Xn78_2
theorem Xt78 : Text Try.prog 78 Xn78_0 10 2 [.t 4] := ⟨⟨Try.f78, [2, 3], Try.func78, by kernel_rfl, by kernel_rfl, by kernel_rfl, by kernel_rfl⟩⟩
def Xn79_1 : C := regL [0, 1] none [⟨some 4, .mv (.const (.int .i64 0)), none⟩]
def Xn79_3 : C := regL [0, 1, 5] none [⟨some 7, .mv (.tmp 0), none⟩, ⟨some 8, .call 104 [.tmp 7], none⟩, ⟨some 5, .mv (.tmp 8), none⟩]
def Xn79_5 : C := regL [0, 1, 5, 6] none [⟨some 9, .mv (.tmp 1), none⟩, ⟨some 10, .call 104 [.tmp 9], none⟩, ⟨some 6, .mv (.tmp 10), none⟩]
def Xn79_8 : C := regL [0, 1, 6, 11] none [⟨some 11, .mv (.tmp 5), none⟩]
def Xn79_12 : C := regL [12] none [⟨some 12, .mv (.tmp 6), none⟩]
def Xn79_15 : C := regL [4] none [⟨some 4, .mv (.const (.int .i64 0)), none⟩]
def Xn79_14 : C := .seq Xn79_15 .ret
def Xn79_13 : C := .cond (.tmp 12) Xn79_14 .skip
def Xn79_11 : C := .seq Xn79_12 Xn79_13
def Xn79_19 : C := regL [4] none [⟨some 4, .mv (.const (.int .i64 (-1))), none⟩]
def Xn79_18 : C := .seq Xn79_19 .ret
def Xn79_10 : C := seqL [] Xn79_11 Xn79_18
def Xn79_9 : C := .cond (.tmp 11) Xn79_10 .skip
def Xn79_7 : C := .seq Xn79_8 Xn79_9
def Xn79_24 : C := regL [0, 1, 13] none [⟨some 13, .mv (.tmp 6), none⟩]
def Xn79_27 : C := regL [4] none [⟨some 4, .mv (.const (.int .i64 1)), none⟩]
def Xn79_26 : C := .seq Xn79_27 .ret
def Xn79_25 : C := .cond (.tmp 13) Xn79_26 .skip
def Xn79_23 : C := .seq Xn79_24 Xn79_25
def Xn79_32 : C := regL [0, 1, 16] none [⟨some 14, .mv (.tmp 0), none⟩, ⟨some 15, .mv (.tmp 1), none⟩, ⟨some 16, .bin 2 .lss (.tmp 14) (.tmp 15), none⟩]
def Xn79_35 : C := regL [4] none [⟨some 4, .mv (.const (.int .i64 (-1))), none⟩]
def Xn79_34 : C := .seq Xn79_35 .ret
def Xn79_33 : C := .cond (.tmp 16) Xn79_34 .skip
def Xn79_31 : C := .seq Xn79_32 Xn79_33
def Xn79_40 : C := regL [19] none [⟨some 17, .mv (.tmp 0), none⟩, ⟨some 18, .mv (.tmp 1), none⟩, ⟨some 19, .bin 2 .gtr (.tmp 17) (.tmp 18), none⟩]
def Xn79_43 : C := regL [4] none [⟨some 4, .mv (.const (.int .i64 1)), none⟩]
def Xn79_42 : C := .seq Xn79_43 .ret
def Xn79_41 : C := .cond (.tmp 19) Xn79_42 .skip
def Xn79_39 : C := .seq Xn79_40 Xn79_41
def Xn79_47 : C := regL [4] none [⟨some 4, .mv (.const (.int .i64 0)), none⟩]
def Xn79_46 : C := .seq Xn79_47 .ret
def Xn79_38 : C := seqL [] Xn79_39 Xn79_46
def Xn79_30 : C := seqL [0, 1] Xn79_31 Xn79_38
def Xn79_22 : C := seqL [0, 1] Xn79_23 Xn79_30
def Xn79_6 : C := seqL [0, 1, 6] Xn79_7 Xn79_22
def Xn79_4 : C := .seq Xn79_5 Xn79_6
def Xn79_2 : C := .seq Xn79_3 Xn79_4
def Xn79_0 : C := .seq Xn79_1 Xn79_2
theorem Xt79 : Text Try.prog 79 Xn79_0 20 2 [.t 4] := ⟨⟨Try.f79, [], Try.func79, by kernel_rfl, by kernel_rfl, by kernel_rfl, by kernel_rfl⟩⟩
def Xn80_1 : C := regL [1] none [⟨some 1, .box true 67 (.tmp 0), none⟩, ⟨some 2, .mv (.const (.int .i64 0)), none⟩]
def Xn80_4 : C := regL [1, 8] none [⟨some 5, .fa 1 (.tmp 1), none⟩, ⟨some 6, .ld 65 1 false (.tmp 5), none⟩, ⟨some 7, .len (.tmp 6), none⟩, ⟨some 8, .bin 3 .gtr (.tmp 7) (.const (.int .i64 12)), none⟩]
def Xn80_7 : C := regL [2] none [⟨some 2, .mv (.const (.int .i64 6)), none⟩]
def Xn80_6 : C := .seq Xn80_7 .ret
def Xn80_5 : C := .cond (.tmp 8) Xn80_6 .skip
def Xn80_3 : C := .seq Xn80_4 Xn80_5
def Xn80_12 : C := regL [1, 3] none [⟨some 3, .mv (.const (.int .i64 0)), none⟩]
def Xn80_17 : C := regL [1, 3, 13] none [⟨some 9, .mv (.tmp 3), none⟩, ⟨some 10, .fa 1 (.tmp 1), none⟩, ⟨some 11, .ld 65 1 false (.tmp 10), none⟩, ⟨some 12, .len (.tmp 11), none⟩, ⟨some 13, .bin 3 .lss (.tmp 9) (.tmp 12), none⟩]
def Xn80_18 : C := .cond (.tmp 13) .skip (.exit 0)
def Xn80_16 : C := .seq Xn80_17 Xn80_18
def Xn80_24 : C := regL [1, 3, 23] none [⟨some 16, .fa 1 (.tmp 1), none⟩, ⟨some 17, .ld 65 1 false (.tmp 16), none⟩, ⟨some 18, .mv (.tmp 3), none⟩, ⟨some 19, .ia 11 (.tmp 17) (.tmp 18), none⟩, ⟨some 20, .fa 10 (.tmp 19), none⟩, ⟨some 21, .ld 68 1 false (.tmp 20), none⟩, ⟨some 22, .len (.tmp 21), none⟩, ⟨some 23, .bin 3 .gtr (.tmp 22) (.const (.int .i64 24)), none⟩]
def Xn80_27 : C := regL [2] none [⟨some 2, .mv (.const (.int .i64 6)), none⟩]
def Xn80_26 : C := .seq Xn80_27 .ret
def Xn80_25 : C := .cond (.tmp 23) Xn80_26 .skip
def Xn80_23 : C := .seq Xn80_24 Xn80_25
def Xn80_22 : C := .block 1 Xn80_23
def Xn80_30 : C := regL [1, 3] none [⟨some 14, .mv (.tmp 3), none⟩, ⟨some 15, .bin 3 .add (.tmp 14) (.const (.int .i64 1)), none⟩, ⟨some 3, .mv (.tmp 15), none⟩]
def Xn80_21 : C := seqL [1, 3] Xn80_22 Xn80_30
def Xn80_15 : C := seqL [1, 3] Xn80_16 Xn80_21
/- carried: [3] -/
def Xn80_14 : C := loopL [1, 3] Xn80_15
def Xn80_13 : C := .block 0 Xn80_14
def Xn80_11 : C := .seq Xn80_12 Xn80_13
def Xn80_33 : C := regL [1, 61] none [⟨some 24, .fa 0 (.tmp 1), none⟩, ⟨some 25, .ld 9 1 false (.tmp 24), none⟩, ⟨some 26, .call 105 [.tmp 25], none⟩, ⟨some 27, .un .not (.tmp 26), none⟩, ⟨some 28, .mv (.tmp 27), none⟩, ⟨some 29, .fa 1 (.tmp 1), some (28, false)⟩, ⟨some 30, .ld 65 1 false (.tmp 29), some (28, false)⟩, ⟨some 31, .len (.tmp 30), some (28, false)⟩, ⟨some 32, .bin 3 .lss (.tmp 31) (.const (.int .i64 1)), some (28, false)⟩, ⟨some 33, .pick 28 (.const (.bool true)) (.tmp 32), none⟩, ⟨some 34, .mv (.tmp 33), none⟩, ⟨some 35, .fa 1 (.tmp 1), some (34, false)⟩, ⟨some 36, .ld 65 1 false (.tmp 35), some (34, false)⟩, ⟨some 37, .ia 11 (.tmp 36) (.const (.int .i64 0)), some (34, false)⟩, ⟨some 38, .fa 0 (.tmp 37), some (34, false)⟩, ⟨some 39, .ld 3 1 false (.tmp 38), some (34, false)⟩, ⟨some 40, .bin 3 .neq (.tmp 39) (.const (.int .i64 0)), some (34, false)⟩, ⟨some 41, .pick 34 (.const (.bool true)) (.tmp 40), none⟩, ⟨some 42, .mv (.tmp 41), none⟩, ⟨some 43, .fa 2 (.tmp 1), some (42, false)⟩, ⟨some 44, .ld 3 1 false (.tmp 43), some (42, false)⟩, ⟨some 45, .bin 3 .lss (.tmp 44) (.const (.int .i64 0)), some (42, false)⟩, ⟨some 46, .pick 42 (.const (.bool true)) (.tmp 45), none⟩, ⟨some 47, .mv (.tmp 46), none⟩, ⟨some 48, .fa 2 (.tmp 1), some (47, false)⟩, ⟨some 49, .ld 3 1 false (.tmp 48), some (47, false)⟩, ⟨some 50, .fa 3 (.tmp 1), some (47, false)⟩, ⟨some 51, .ld 3 1 false (.tmp 50), some (47, false)⟩, ⟨some 52, .bin 3 .gtr (.tmp 49) (.tmp 51), some (47, false)⟩, ⟨some 53, .pick 47 (.const (.bool true)) (.tmp 52), none⟩, ⟨some 54, .mv (.tmp 53), none⟩, ⟨some 55, .fa 3 (.tmp 1), some (54, false)⟩, ⟨some 56, .ld 3 1 false (.tmp 55), some (54, false)⟩, ⟨some 57, .fa 1 (.tmp 1), some (54, false)⟩, ⟨some 58, .ld 65 1 false (.tmp 57), some (54, false)⟩, ⟨some 59, .len (.tmp 58), some (54, false)⟩, ⟨some 60, .bin 3 .geq (.tmp 56) (.tmp 59), some (54, false)⟩, ⟨some 61, .pick 54 (.const (.bool true)) (.tmp 60), none⟩]
def Xn80_36 : C := regL [2] none [⟨some 2, .mv (.const (.int .i64 2)), none⟩]
def Xn80_35 : C := .seq Xn80_36 .ret
def Xn80_34 : C := .cond (.tmp 61) Xn80_35 .skip
def Xn80_32 : C := .seq Xn80_33 Xn80_34
def Xn80_41 : C := regL [1, 4] none [⟨some 4, .mv (.const (.int .i64 0)), none⟩]
def Xn80_46 : C := regL [1, 4, 66] none [⟨some 62, .mv (.tmp 4), none⟩, ⟨some 63, .fa 1 (.tmp 1), none⟩, ⟨some 64, .ld 65 1 false (.tmp 63), none⟩, ⟨some 65, .len (.tmp 64), none⟩, ⟨some 66, .bin 3 .lss (.tmp 62) (.tmp 65), none⟩]
def Xn80_47 : C := .cond (.tmp 66) .skip (.exit 2)
def Xn80_45 : C := .seq Xn80_46 Xn80_47
def Xn80_53 : C := regL [1, 4, 75] none [⟨some 69, .fa 1 (.tmp 1), none⟩, ⟨some 70, .ld 65 1 false (.tmp 69), none⟩, ⟨some 71, .mv (.tmp 4), none⟩, ⟨some 72, .ia 11 (.tmp 70) (.tmp 71), none⟩, ⟨some 73, .ld 70 11 true (.tmp 72), none⟩, ⟨some 74, .call 106 [.tmp 73], none⟩, ⟨some 75, .un .not (.tmp 74), none⟩]
def Xn80_56 : C := regL [2] none [⟨some 2, .mv (.const (.int .i64 2)), none⟩]
def Xn80_55 : C := .seq Xn80_56 .ret
def Xn80_54 : C := .cond (.tmp 75) Xn80_55 .skip
def Xn80_52 : C := .seq Xn80_53 Xn80_54
def Xn80_51 : C := .block 3 Xn80_52
def Xn80_59 : C := regL [1, 4] none [⟨some 67, .mv (.tmp 4), none⟩, ⟨some 68, .bin 3 .add (.tmp 67) (.const (.int .i64 1)), none⟩, ⟨some 4, .mv (.tmp 68), none⟩]
def Xn80_50 : C := seqL [1, 4] Xn80_51 Xn80_59
def Xn80_44 : C := seqL [1, 4] Xn80_45 Xn80_50
/- carried: [4] -/
def Xn80_43 : C := loopL [1, 4] Xn80_44
def Xn80_42 : C := .block 2 Xn80_43
def Xn80_40 : C := .seq Xn80_41 Xn80_42
def Xn80_61 : C := regL [2] none [⟨some 2, .mv (.const (.int .i64 0)), none⟩]
def Xn80_60 : C := .seq Xn80_61 .ret
def Xn80_39 : C := seqL [] Xn80_40 Xn80_60
def Xn80_31 : C := seqL [1] Xn80_32 Xn80_39
def Xn80_10 : C := seqL [1] Xn80_11 Xn80_31
def Xn80_2 : C := seqL [1] Xn80_3 Xn80_10
def Xn80_0 : C := .seq Xn80_1 Xn80_2
theorem Xt80 : Text Try.prog 80 Xn80_0 76 1 [.t 2] := ⟨⟨Try.f80, [1], Try.func80, by kernel_rfl, by kernel_rfl, by kernel_rfl, by kernel_rfl⟩⟩
def Xn81_1 : C := regL [0, 1, 2, 3] none [⟨some 5, .mv (.const (.int .i64 0)), none⟩]
def Xn81_3 : C := regL [0, 2, 3] none [⟨some 6, .mv (.tmp 0), none⟩, ⟨some 7, .ld 2 1 false (.tmp 1), none⟩, ⟨some 8, .bin 2 .sub (.tmp 6) (.tmp 7), none⟩, ⟨some 0, .mv (.tmp 8), none⟩]
def Xn81_7 : C := regL [0, 2, 3, 9] none [⟨some 10, .mv (.tmp 0), none⟩, ⟨some 11, .bin 2 .lss (.tmp 10) (.const (.int .i64 0)), none⟩, ⟨some 12, .mv (.tmp 11), none⟩, ⟨some 13, .mv (.tmp 0), some (12, false)⟩, ⟨some 14, .ld 2 1 false (.tmp 2), some (12, false)⟩, ⟨some 15, .bin 2 .gtr (.tmp 13) (.tmp 14), some (12, false)⟩, ⟨some 16, .pick 12 (.const (.bool true)) (.tmp 15), none⟩, ⟨some 9, .mv (.tmp 16), none⟩]
def Xn81_10 : C := regL [5] none [⟨some 5, .mv (.const (.int .i64 0)), none⟩]
def Xn81_9 : C := .seq Xn81_10 .ret
def Xn81_13 : C := regL [0, 2, 3, 17] none [⟨some 18, .mv (.tmp 0), none⟩, ⟨some 19, .ld 2 1 false (.tmp 3), none⟩, ⟨some 20, .bin 2 .leq (.tmp 18) (.tmp 19), none⟩, ⟨some 17, .mv (.tmp 20), none⟩]
def Xn81_16 : C := regL [5] none [⟨some 21, .mv (.tmp 0), none⟩, ⟨some 22, .ld 2 1 false (.tmp 2), none⟩, ⟨some 23, .ld 2 1 false (.tmp 3), none⟩, ⟨some 24, .bin 2 .sub (.tmp 22) (.tmp 23), none⟩, ⟨some 25, .bin 2 .mul (.tmp 21) (.tmp 24), none⟩, ⟨some 5, .mv (.tmp 25), none⟩]
def Xn81_15 : C := .seq Xn81_16 .ret
def Xn81_14 : C := .cond (.tmp 17) Xn81_15 .skip
def Xn81_12 : C := .seq Xn81_13 Xn81_14
def Xn81_8 : C := .cond (.tmp 9) Xn81_9 Xn81_12
def Xn81_6 : C := .seq Xn81_7 Xn81_8
def Xn81_5 : C := .block 0 Xn81_6
def Xn81_20 : C := regL [5] none [⟨some 26, .ld 2 1 false (.tmp 3), none⟩, ⟨some 27, .ld 2 1 false (.tmp 2), none⟩, ⟨some 28, .mv (.tmp 0), none⟩, ⟨some 29, .bin 2 .sub (.tmp 27) (.tmp 28), none⟩, ⟨some 30, .bin 2 .mul (.tmp 26) (.tmp 29), none⟩, ⟨some 5, .mv (.tmp 30), none⟩]
def Xn81_19 : C := .seq Xn81_20 .ret
def Xn81_4 : C := seqL [0, 2, 3] Xn81_5 Xn81_19
def Xn81_2 : C := .seq Xn81_3 Xn81_4
def Xn81_0 : C := .seq Xn81_1 Xn81_2
theorem Xt81 : Text Try.prog 81 Xn81_0 31 4 [.t 5] := ⟨⟨Try.f81, [], Try.func81, by kernel_rfl, by kernel_rfl, by kernel_rfl, by kernel_rfl⟩⟩
def Xn82_1 : C := regL [1, 2, 3, 4, 5] none [⟨some 5, .box true 110 (.tmp 0), none⟩]
def Xn82_3 : C := regL [1, 2, 3, 4, 5, 9] none [⟨some 7, .ld 79 2 true (.tmp 1), none⟩, ⟨some 8, .ld 25 1 false (.tmp 2), none⟩, ⟨some 9, .call 83 [.tmp 7, .tmp 8], none⟩]
def Xn82_6 : C := regL [1, 2, 3, 4, 5, 6] none [⟨some 6, .mv (.tmp 10), none⟩]
def Xn82_9 : C := regL [21] (some [0, 0, 0, 0, 14, 0, 0, 0, 254, 511, 1023]) [⟨some 11, .ld 110 1 false (.tmp 5), none⟩, ⟨some 12, .ld 79 2 true (.tmp 1), none⟩, ⟨some 13, .ld 25 1 false (.tmp 2), none⟩, ⟨some 14, .mv (.tmp 6), none⟩, ⟨some 15, .call 53 [.tmp 12, .tmp 13, .tmp 14], none⟩, ⟨some 16, .ld 3 1 false (.tmp 3), none⟩, ⟨some 17, .ld 2 1 false (.tmp 4), none⟩, ⟨some 18, .mv (.tmp 6), none⟩, ⟨some 19, .bld (.agg #[.int .i64 0, .int .i64 0, .int .i64 0, .int .i64 0]) [(0, 1, .tmp 15), (1, 1, .tmp 16), (2, 1, .tmp 17), (3, 1, .tmp 18)], none⟩, ⟨some 20, .callv (.tmp 11) [.tmp 19], none⟩, ⟨some 21, .un .not (.tmp 20), none⟩]
def Xn82_10 : C := .cond (.tmp 21) .ret .skip
def Xn82_8 : C := .seq Xn82_9 Xn82_10
def Xn82_7 : C := .block 1 Xn82_8
def Xn82_5 : C := .rfn (.tmp 9) [10] Xn82_6 Xn82_7
def Xn82_4 : C := .block 0 Xn82_5
def Xn82_2 : C := .seq Xn82_3 Xn82_4
def Xn82_0 : C := .seq Xn82_1 Xn82_2
theorem Xt82 : Text Try.prog 82 Xn82_0 22 5 [] := ⟨⟨Try.f82, [5], Try.func82, by kernel_rfl, by kernel_rfl, by kernel_rfl, by kernel_rfl⟩⟩
def Xn83_1 : C := regL [2, 3] none [⟨some 2, .box true 79 (.tmp 0), none⟩, ⟨some 3, .box true 25 (.tmp 1), none⟩, ⟨some 4, .mv (.const (.nilFunc)), none⟩]
def Xn83_3 : C := regL [4] none [⟨some 5, .mkf 107 [] [.tmp 3, .tmp 2], none⟩, ⟨some 4, .mv (.tmp 5), none⟩]
def Xn83_2 : C := .seq Xn83_3 .ret
def Xn83_0 : C := .seq Xn83_1 Xn83_2
theorem Xt83 : Text Try.prog 83 Xn83_0 6 2 [.t 4] := ⟨⟨Try.f83, [2, 3], Try.func83, by kernel_rfl, by kernel_rfl, by kernel_rfl, by kernel_rfl⟩⟩
def Xn84_1 : C := regL [2, 3] none [⟨some 2, .box true 29 (.tmp 0), none⟩, ⟨some 3, .box true 29 (.tmp 1), none⟩, ⟨some 4, .mv (.const (.bool false)), none⟩]
def Xn84_3 : C := regL [4] (some [0, 1, 0, 4, 15, 0, 32, 0, 128, 511, 1023, 2047, 4095, 8191]) [⟨some 5, .fa 0 (.tmp 2), none⟩, ⟨some 6, .ld 2 1 false (.tmp 5), none⟩, ⟨some 7, .fa 0 (.tmp 3), none⟩, ⟨some 8, .ld 2 1 false (.tmp 7), none⟩, ⟨some 9, .call 79 [.tmp 6, .tmp 8], none⟩, ⟨some 10, .fa 3 (.tmp 3), none⟩, ⟨some 11, .ld 2 1 false (.tmp 10), none⟩, ⟨some 12, .fa 3 (.tmp 2), none⟩, ⟨some 13, .ld 2 1 false (.tmp 12), none⟩, ⟨some 14, .call 79 [.tmp 11, .tmp 13], none⟩, ⟨some 15, .bls 3 1 2 (.int .i64 0) [(0, 1, .tmp 9), (1, 1, .tmp 14)], none⟩, ⟨some 16, .call 85 [.tmp 15], none⟩, ⟨some 17, .bin 3 .lss (.tmp 16) (.const (.int .i64 0)), none⟩, ⟨some 4, .mv (.tmp 17), none⟩]
def Xn84_2 : C := .seq Xn84_3 .ret
def Xn84_0 : C := .seq Xn84_1 Xn84_2
theorem Xt84 : Text Try.prog 84 Xn84_0 18 2 [.t 4] := ⟨⟨Try.f84, [2, 3], Try.func84, by kernel_rfl, by kernel_rfl, by kernel_rfl, by kernel_rfl⟩⟩
def Xn85_1 : C := regL [0] none [⟨some 2, .mv (.const (.int .i64 0)), none⟩]
def Xn85_3 : C := regL [0, 3] none [⟨some 3, .mv (.const (.int .i64 0)), none⟩]
def Xn85_6 : C := regL [3, 6, 7, 8] none [⟨some 6, .mv (.tmp 0), none⟩, ⟨some 7, .len (.tmp 6), none⟩, ⟨some 8, .mv (.const (.int .i64 0)), none⟩]
def Xn85_10 : C := regL [3, 6, 7, 8, 9] none [⟨some 9, .bin 3 .lss (.tmp 8) (.tmp 7), none⟩]
def Xn85_12 : C := .cond (.tmp 9) .skip (.exit 0)
def Xn85_18 : C := regL [3, 5, 6, 7, 8] none [⟨some 10, .ia 1 (.tmp 6) (.tmp 8), none⟩, ⟨some 11, .ld 3 1 false (.tmp 10), none⟩, ⟨some 5, .mv (.tmp 11), none⟩]
def Xn85_20 : C := regL [3, 5, 6, 7, 8, 14] none [⟨some 12, .mv (.tmp 5), none⟩, ⟨some 13, .mv (.tmp 3), none⟩, ⟨some 14, .bin 3 .neq (.tmp 12) (.tmp 13), none⟩]
def Xn85_23 : C := regL [2] none [⟨some 15, .mv (.tmp 5), none⟩, ⟨some 2, .mv (.tmp 15), none⟩]
def Xn85_22 : C := .seq Xn85_23 .ret
def Xn85_21 : C := .cond (.tmp 14) Xn85_22 .skip
def Xn85_19 : C := .seq Xn85_20 Xn85_21
def Xn85_17 : C := .seq Xn85_18 Xn85_19
def Xn85_16 : C := .block 1 Xn85_17
def Xn85_26 : C := regL [3, 6, 7, 8] none [⟨some 16, .bin 3 .add (.tmp 8) (.const (.int .i64 1)), none⟩, ⟨some 8, .mv (.tmp 16), none⟩]
def Xn85_15 : C := seqL [3, 6, 7, 8] Xn85_16 Xn85_26
def Xn85_11 : C := seqL [3, 6, 7, 8] Xn85_12 Xn85_15
def Xn85_9 : C := .seq Xn85_10 Xn85_11
/- carried: [8] -/
def Xn85_8 : C := loopL [3, 6, 7, 8] Xn85_9
def Xn85_7 : C := .block 0 Xn85_8
def Xn85_5 : C := .seq Xn85_6 Xn85_7
def Xn85_28 : C := regL [2] none [⟨some 17, .mv (.tmp 3), none⟩, ⟨some 2, .mv (.tmp 17), none⟩]
def Xn85_27 : C := .seq Xn85_28 .ret
def Xn85_4 : C := seqL [3] Xn85_5 Xn85_27
def Xn85_2 : C := .seq Xn85_3 Xn85_4
def Xn85_0 : C := .seq Xn85_1 Xn85_2
theorem Xt85 : Text Try.prog 85 Xn85_0 18 1 [.t 2] := ⟨⟨Try.f85, [], Try.func85, by kernel_rfl, by kernel_rfl, by kernel_rfl, by kernel_rfl⟩⟩
def Xn86_1 : C := regL [0, 1, 2, 3] none [⟨some 5, .mv (.const (.int .i64 0)), none⟩]
def Xn86_3 : C := regL [0, 2, 3] none [⟨some 6, .mv (.tmp 0), none⟩, ⟨some 7, .ld 2 1 false (.tmp 1), none⟩, ⟨some 8, .bin 2 .sub (.tmp 6) (.tmp 7), none⟩, ⟨some 0, .mv (.tmp 8), none⟩]
def Xn86_7 : C := regL [0, 2, 3, 9] none [⟨some 10, .mv (.tmp 0), none⟩, ⟨some 11, .bin 2 .lss (.tmp 10) (.const (.int .i64 0)), none⟩, ⟨some 12, .mv (.tmp 11), none⟩, ⟨some 13, .mv (.tmp 0), some (12, false)⟩, ⟨some 14, .ld 2 1 false (.tmp 2), some (12, false)⟩, ⟨some 15, .bin 2 .gtr (.tmp 13) (.tmp 14), some (12, false)⟩, ⟨some 16, .pick 12 (.const (.bool true)) (.tmp 15), none⟩, ⟨some 9, .mv (.tmp 16), none⟩]
def Xn86_10 : C := regL [5] none [⟨some 5, .mv (.const (.int .i64 0)), none⟩]
def Xn86_9 : C := .seq Xn86_10 .ret
def Xn86_13 : C := regL [0, 2, 17] none [⟨some 18, .ld 4 1 false (.tmp 3), none⟩, ⟨some 17, .mv (.tmp 18), none⟩]
def Xn86_16 : C := regL [5] none [⟨some 19, .mv (.tmp 0), none⟩, ⟨some 5, .mv (.tmp 19), none⟩]
def Xn86_15 : C := .seq Xn86_16 .ret
def Xn86_14 : C := .cond (.tmp 17) Xn86_15 .skip
def Xn86_12 : C := .seq Xn86_13 Xn86_14
def Xn86_8 : C := .cond (.tmp 9) Xn86_9 Xn86_12
def Xn86_6 : C := .seq Xn86_7 Xn86_8
def Xn86_5 : C := .block 0 Xn86_6
def Xn86_20 : C := regL [5] none [⟨some 20, .ld 2 1 false (.tmp 2), none⟩, ⟨some 21, .mv (.tmp 0), none⟩, ⟨some 22, .bin 2 .sub (.tmp 20) (.tmp 21), none⟩, ⟨some 5, .mv (.tmp 22), none⟩]
def Xn86_19 : C := .seq Xn86_20 .ret
def Xn86_4 : C := seqL [0, 2] Xn86_5 Xn86_19
def Xn86_2 : C := .seq Xn86_3 Xn86_4
def Xn86_0 : C := .seq Xn86_1 Xn86_2
theorem Xt86 : Text Try.prog 86 Xn86_0 23 4 [.t 5] := ⟨⟨Try.f86, [], Try.func86, by kernel_rfl, by kernel_rfl, by kernel_rfl, by kernel_rfl⟩⟩
def Xn87_1 : C := regL [0, 2] none [⟨some 2, .mv (.const (.int .i64 0)), none⟩]
def Xn87_4 : C := regL [2, 5, 6, 7] none [⟨some 5, .mv (.tmp 0), none⟩, ⟨some 6, .len (.tmp 5), none⟩, ⟨some 7, .mv (.const (.int .i64 0)), none⟩]
def Xn87_8 : C := regL [2, 5, 6, 7, 8] none [⟨some 8, .bin 3 .lss (.tmp 7) (.tmp 6), none⟩]
def Xn87_10 : C := .cond (.tmp 8) .skip (.exit 0)
def Xn87_16 : C := regL [2, 4, 5, 6, 7] none [⟨some 9, .ia 1 (.tmp 5) (.tmp 7), none⟩, ⟨some 10, .ld 2 1 false (.tmp 9), none⟩, ⟨some 4, .mv (.tmp 10), none⟩]
def Xn87_17 : C := regL [2, 5, 6, 7] none [⟨some 11, .mv (.tmp 2), none⟩, ⟨some 12, .mv (.tmp 4), none⟩, ⟨some 13, .bin 2 .add (.tmp 11) (.tmp 12), none⟩, ⟨some 2, .mv (.tmp 13), none⟩]
def Xn87_15 : C := .seq Xn87_16 Xn87_17
def Xn87_14 : C := .block 1 Xn87_15
def Xn87_18 : C := regL [2, 5, 6, 7] none [⟨some 14, .bin 3 .add (.tmp 7) (.const (.int .i64 1)), none⟩, ⟨some 7, .mv (.tmp 14), none⟩]
def Xn87_13 : C := seqL [2, 5, 6, 7] Xn87_14 Xn87_18
def Xn87_9 : C := seqL [2, 5, 6, 7] Xn87_10 Xn87_13
def Xn87_7 : C := .seq Xn87_8 Xn87_9
/- carried: [2, 7] -/
def Xn87_6 : C := loopL [2, 5, 6, 7] Xn87_7
def Xn87_5 : C := .block 0 Xn87_6
def Xn87_3 : C := .seq Xn87_4 Xn87_5
def Xn87_20 : C := regL [2] none [⟨some 15, .mv (.tmp 2), none⟩, ⟨some 2, .mv (.tmp 15), none⟩]
def Xn87_19 : C := .seq Xn87_20 .ret
def Xn87_2 : C := seqL [2] Xn87_3 Xn87_19
def Xn87_0 : C := .seq Xn87_1 Xn87_2
theorem Xt87 : Text Try.prog 87 Xn87_0 16 1 [.t 2] := ⟨⟨Try.f87, [], Try.func87, by kernel_rfl, by kernel_rfl, by kernel_rfl, by kernel_rfl⟩⟩
def Xn88_1 : C := regL [0] none [⟨some 2, .mv (.const (.int .i64 0)), none⟩]
def Xn88_3 : C := regL [0, 3] none [⟨some 3, .mv (.const (.int .i64 0)), none⟩]
def Xn88_6 : C := regL [3, 6, 7, 8] none [⟨some 6, .mv (.tmp 0), none⟩, ⟨some 7, .len (.tmp 6), none⟩, ⟨some 8, .mv (.const (.int .i64 0)), none⟩]
def Xn88_10 : C := regL [3, 6, 7, 8, 9] none [⟨some 9, .bin 3 .lss (.tmp 8) (.tmp 7), none⟩]
def Xn88_12 : C := .cond (.tmp 9) .skip (.exit 0)
def Xn88_18 : C := regL [3, 5, 6, 7, 8] none [⟨some 10, .ia 1 (.tmp 6) (.tmp 8), none⟩, ⟨some 11, .ld 30 1 false (.tmp 10), none⟩, ⟨some 5, .mv (.tmp 11), none⟩]
def Xn88_20 : C := regL [3, 5, 6, 7, 8, 14] none [⟨some 12, .mv (.tmp 5), none⟩, ⟨some 13, .mv (.tmp 3), none⟩, ⟨some 14, .bin 30 .neq (.tmp 12) (.tmp 13), none⟩]
def Xn88_23 : C := regL [2] none [⟨some 15, .mv (.tmp 5), none⟩, ⟨some 2, .mv (.tmp 15), none⟩]
def Xn88_22 : C := .seq Xn88_23 .ret
def Xn88_21 : C := .cond (.tmp 14) Xn88_22 .skip
def Xn88_19 : C := .seq Xn88_20 Xn88_21
def Xn88_17 : C := .seq Xn88_18 Xn88_19
def Xn88_16 : C := .block 1 Xn88_17
def Xn88_26 : C := regL [3, 6, 7, 8] none [⟨some 16, .bin 3 .add (.tmp 8) (.const (.int .i64 1)), none⟩, ⟨some 8, .mv (.tmp 16), none⟩]
def Xn88_15 : C := seqL [3, 6, 7, 8] Xn88_16 Xn88_26
def Xn88_11 : C := seqL [3, 6, 7, 8] Xn88_12 Xn88_15
def Xn88_9 : C := .seq Xn88_10 Xn88_11
/- carried: [8] -/
def Xn88_8 : C := loopL [3, 6, 7, 8] Xn88_9
def Xn88_7 : C := .block 0 Xn88_8
def Xn88_5 : C := .seq Xn88_6 Xn88_7
def Xn88_28 : C := regL [2] none [⟨some 17, .mv (.tmp 3), none⟩, ⟨some 2, .mv (.tmp 17), none⟩]
def Xn88_27 : C := .seq Xn88_28 .ret
def Xn88_4 : C := seqL [3] Xn88_5 Xn88_27
def Xn88_2 : C := .seq Xn88_3 Xn88_4
def Xn88_0 : C := .seq Xn88_1 Xn88_2
theorem Xt88 : Text Try.prog 88 Xn88_0 18 1 [.t 2] := ⟨⟨Try.f88, [], Try.func88, by kernel_rfl, by kernel_rfl, by kernel_rfl, by kernel_rfl⟩⟩
def Xn89_1 : C := regL [0, 1] none [⟨some 4, .mv (.const (.int .u64 0)), none⟩, ⟨some 5, .mv (.const (.int .u64 0)), none⟩]
def Xn89_3 : C := regL [0, 1, 6] none [⟨some 14, .mv (.tmp 0), none⟩, ⟨some 15, .bin 117 .and (.tmp 14) (.const (.int .u64 4294967295)), none⟩, ⟨some 6, .mv (.tmp 15), none⟩]
def Xn89_5 : C := regL [0, 1, 6, 7] none [⟨some 16, .mv (.tmp 0), none⟩, ⟨some 17, .bin 117 .shr (.tmp 16) (.const (.int .u64 32)), none⟩, ⟨some 7, .mv (.tmp 17), none⟩]
def Xn89_7 : C := regL [0, 1, 6, 7, 8] none [⟨some 18, .mv (.tmp 1), none⟩, ⟨some 19, .bin 117 .and (.tmp 18) (.const (.int .u64 4294967295)), none⟩, ⟨some 8, .mv (.tmp 19), none⟩]
def Xn89_9 : C := regL [0, 1, 6, 7, 8, 9] none [⟨some 20, .mv (.tmp 1), none⟩, ⟨some 21, .bin 117 .shr (.tmp 20) (.const (.int .u64 32)), none⟩, ⟨some 9, .mv (.tmp 21), none⟩]
def Xn89_11 : C := regL [0, 1, 6, 7, 8, 9, 10] none [⟨some 22, .mv (.tmp 6), none⟩, ⟨some 23, .mv (.tmp 8), none⟩, ⟨some 24, .bin 117 .mul (.tmp 22) (.tmp 23), none⟩, ⟨some 10, .mv (.tmp 24), none⟩]
def Xn89_13 : C := regL [0, 1, 6, 7, 9, 11] none [⟨some 25, .mv (.tmp 7), none⟩, ⟨some 26, .mv (.tmp 8), none⟩, ⟨some 27, .bin 117 .mul (.tmp 25) (.tmp 26), none⟩, ⟨some 28, .mv (.tmp 10), none⟩, ⟨some 29, .bin 117 .shr (.tmp 28) (.const (.int .u64 32)), none⟩, ⟨some 30, .bin 117 .add (.tmp 27) (.tmp 29), none⟩, ⟨some 11, .mv (.tmp 30), none⟩]
def Xn89_15 : C := regL [0, 1, 6, 7, 9, 11, 12] none [⟨some 31, .mv (.tmp 11), none⟩, ⟨some 32, .bin 117 .and (.tmp 31) (.const (.int .u64 4294967295)), none⟩, ⟨some 12, .mv (.tmp 32), none⟩]
def Xn89_17 : C := regL [0, 1, 6, 7, 9, 12, 13] none [⟨some 33, .mv (.tmp 11), none⟩, ⟨some 34, .bin 117 .shr (.tmp 33) (.const (.int .u64 32)), none⟩, ⟨some 13, .mv (.tmp 34), none⟩]
def Xn89_19 : C := regL [0, 1, 7, 9, 12, 13] none [⟨some 35, .mv (.tmp 12), none⟩, ⟨some 36, .mv (.tmp 6), none⟩, ⟨some 37, .mv (.tmp 9), none⟩, ⟨some 38, .bin 117 .mul (.tmp 36) (.tmp 37), none⟩, ⟨some 39, .bin 117 .add (.tmp 35) (.tmp 38), none⟩, ⟨some 12, .mv (.tmp 39), none⟩]
def Xn89_21 : C := regL [0, 1, 4] none [⟨some 40, .mv (.tmp 7), none⟩, ⟨some 41, .mv (.tmp 9), none⟩, ⟨some 42, .bin 117 .mul (.tmp 40) (.tmp 41), none⟩, ⟨some 43, .mv (.tmp 13), none⟩, ⟨some 44, .bin 117 .add (.tmp 42) (.tmp 43), none⟩, ⟨some 45, .mv (.tmp 12), none⟩, ⟨some 46, .bin 117 .shr (.tmp 45) (.const (.int .u64 32)), none⟩, ⟨some 47, .bin 117 .add (.tmp 44) (.tmp 46), none⟩, ⟨some 4, .mv (.tmp 47), none⟩]
def Xn89_23 : C := regL [4, 5] none [⟨some 48, .mv (.tmp 0), none⟩, ⟨some 49, .mv (.tmp 1), none⟩, ⟨some 50, .bin 117 .mul (.tmp 48) (.tmp 49), none⟩, ⟨some 5, .mv (.tmp 50), none⟩]
def Xn89_22 : C := .seq Xn89_23 .ret
def Xn89_20 : C := .seq Xn89_21 Xn89_22
def Xn89_18 : C := .seq Xn89_19 Xn89_20
def Xn89_16 : C := .seq Xn89_17 Xn89_18
def Xn89_14 : C := .seq Xn89_15 Xn89_16
def Xn89_12 : C := .seq Xn89_13 Xn89_14
def Xn89_10 : C := .seq Xn89_11 Xn89_12
def Xn89_8 : C := .seq Xn89_9 Xn89_10
def Xn89_6 : C := .seq Xn89_7 Xn89_8
def Xn89_4 : C := .seq Xn89_5 Xn89_6
def Xn89_2 : C := .seq Xn89_3 Xn89_4
def Xn89_0 : C := .seq Xn89_1 Xn89_2
theorem Xt89 : Text Try.prog 89 Xn89_0 51 2 [.t 4, .t 5] := ⟨⟨Try.f89, [], Try.func89, by kernel_rfl, by kernel_rfl, by kernel_rfl, by kernel_rfl⟩⟩
def Xn90_1 : C := regL [0, 1, 2] none [⟨some 6, .mv (.const (.int .u64 0)), none⟩, ⟨some 7, .mv (.const (.int .u64 0)), none⟩]
def Xn90_4 : C := regL [0, 1, 2, 20] none [⟨some 19, .mv (.tmp 2), none⟩, ⟨some 20, .bin 117 .eql (.tmp 19) (.const (.int .u64 0)), none⟩]
def Xn90_6 : C := regL [0, 1, 2] none [⟨some 21, .ld 134 1 false (.global 0), none⟩, ⟨none, .dead, none⟩]
def Xn90_5 : C := .cond (.tmp 20) Xn90_6 .skip
def Xn90_3 : C := .seq Xn90_4 Xn90_5
def Xn90_10 : C := regL [0, 1, 2, 24] none [⟨some 22, .mv (.tmp 2), none⟩, ⟨some 23, .mv (.tmp 0), none⟩, ⟨some 24, .bin 117 .leq (.tmp 22) (.tmp 23), none⟩]
def Xn90_12 : C := regL [0, 1, 2] none [⟨some 25, .ld 134 1 false (.global 1), none⟩, ⟨none, .dead, none⟩]
def Xn90_11 : C := .cond (.tmp 24) Xn90_12 .skip
def Xn90_9 : C := .seq Xn90_10 Xn90_11
def Xn90_16 : C := regL [0, 1, 2, 27] none [⟨some 26, .mv (.tmp 0), none⟩, ⟨some 27, .bin 117 .eql (.tmp 26) (.const (.int .u64 0)), none⟩]
def Xn90_19 : C := regL [6, 7] (some [0, 0, 3, 0, 0, 24, 7, 127]) [⟨some 28, .mv (.tmp 1), none⟩, ⟨some 29, .mv (.tmp 2), none⟩, ⟨some 30, .bin 117 .quo (.tmp 28) (.tmp 29), none⟩, ⟨some 31, .mv (.tmp 1), none⟩, ⟨some 32, .mv (.tmp 2), none⟩, ⟨some 33, .bin 117 .rem (.tmp 31) (.tmp 32), none⟩, ⟨some 6, .mv (.tmp 30), none⟩, ⟨some 7, .mv (.tmp 33), none⟩]
def Xn90_18 : C := .seq Xn90_19 .ret
def Xn90_17 : C := .cond (.tmp 27) Xn90_18 .skip
def Xn90_15 : C := .seq Xn90_16 Xn90_17
def Xn90_23 : C := regL [0, 1, 2, 8] none [⟨some 34, .mv (.tmp 2), none⟩, ⟨some 35, .call 108 [.tmp 34], none⟩, ⟨some 36, .cvt .u64 (.tmp 35), none⟩, ⟨some 8, .mv (.tmp 36), none⟩]
def Xn90_25 : C := regL [0, 1, 2, 8] none [⟨some 37, .mv (.tmp 2), none⟩, ⟨some 38, .mv (.tmp 8), none⟩, ⟨some 39, .bin 117 .shl (.tmp 37) (.tmp 38), none⟩, ⟨some 2, .mv (.tmp 39), none⟩]
def Xn90_27 : C := regL [0, 1, 2, 8, 9] none [⟨some 40, .mv (.tmp 2), none⟩, ⟨some 41, .bin 117 .shr (.tmp 40) (.const (.int .u64 32)), none⟩, ⟨some 9, .mv (.tmp 41), none⟩]
def Xn90_29 : C := regL [0, 1, 2, 8, 9, 10] none [⟨some 42, .mv (.tmp 2), none⟩, ⟨some 43, .bin 117 .and (.tmp 42) (.const (.int .u64 4294967295)), none⟩, ⟨some 10, .mv (.tmp 43), none⟩]
def Xn90_31 : C := regL [1, 2, 8, 9, 10, 11] none [⟨some 44, .mv (.tmp 0), none⟩, ⟨some 45, .mv (.tmp 8), none⟩, ⟨some 46, .bin 117 .shl (.tmp 44) (.tmp 45), none⟩, ⟨some 47, .mv (.tmp 1), none⟩, ⟨some 48, .mv (.tmp 8), none⟩, ⟨some 49, .bin 121 .sub (.const (.int .u64 64)) (.tmp 48), none⟩, ⟨some 50, .bin 117 .shr (.tmp 47) (.tmp 49), none⟩, ⟨some 51, .bin 117 .or (.tmp 46) (.tmp 50), none⟩, ⟨some 11, .mv (.tmp 51), none⟩]
def Xn90_33 : C := regL [2, 8, 9, 10, 11, 12] none [⟨some 52, .mv (.tmp 1), none⟩, ⟨some 53, .mv (.tmp 8), none⟩, ⟨some 54, .bin 117 .shl (.tmp 52) (.tmp 53), none⟩, ⟨some 12, .mv (.tmp 54), none⟩]
def Xn90_35 : C := regL [2, 8, 9, 10, 11, 12, 13] none [⟨some 55, .mv (.tmp 12), none⟩, ⟨some 56, .bin 117 .shr (.tmp 55) (.const (.int .u64 32)), none⟩, ⟨some 13, .mv (.tmp 56), none⟩]
def Xn90_37 : C := regL [2, 8, 9, 10, 11, 13, 14] none [⟨some 57, .mv (.tmp 12), none⟩, ⟨some 58, .bin 117 .and (.tmp 57) (.const (.int .u64 4294967295)), none⟩, ⟨some 14, .mv (.tmp 58), none⟩]
def Xn90_39 : C := regL [2, 8, 9, 10, 11, 13, 14, 15] none [⟨some 59, .mv (.tmp 11), none⟩, ⟨some 60, .mv (.tmp 9), none⟩, ⟨some 61, .bin 117 .quo (.tmp 59) (.tmp 60), none⟩, ⟨some 15, .mv (.tmp 61), none⟩]
def Xn90_41 : C := regL [2, 8, 9, 10, 11, 13, 14, 15, 16] none [⟨some 62, .mv (.tmp 11), none⟩, ⟨some 63, .mv (.tmp 15), none⟩, ⟨some 64, .mv (.tmp 9), none⟩, ⟨some 65, .bin 117 .mul (.tmp 63) (.tmp 64), none⟩, ⟨some 66, .bin 117 .sub (.tmp 62) (.tmp 65), none⟩, ⟨some 16, .mv (.tmp 66), none⟩]
def Xn90_47 : C := regL [2, 8, 9, 10, 11, 13, 14, 15, 16, 78] none [⟨some 67, .mv (.tmp 15), none⟩, ⟨some 68, .bin 117 .geq (.tmp 67) (.const (.int .u64 4294967296)), none⟩, ⟨some 69, .mv (.tmp 68), none⟩, ⟨some 70, .mv (.tmp 15), some (69, false)⟩, ⟨some 71, .mv (.tmp 10), some (69, false)⟩, ⟨some 72, .bin 117 .mul (.tmp 70) (.tmp 71), some (69, false)⟩, ⟨some 73, .mv (.tmp 16), some (69, false)⟩, ⟨some 74, .bin 117 .mul (.const (.int .u64 4294967296)) (.tmp 73), some (69, false)⟩, ⟨some 75, .mv (.tmp 13), some (69, false)⟩, ⟨some 76, .bin 117 .add (.tmp 74) (.tmp 75), some (69, false)⟩, ⟨some 77, .bin 117 .gtr (.tmp 72) (.tmp 76), some (69, false)⟩, ⟨some 78, .pick 69 (.const (.bool true)) (.tmp 77), none⟩]
def Xn90_48 : C := .cond (.tmp 78) .skip (.exit 0)
def Xn90_46 : C := .seq Xn90_47 Xn90_48
def Xn90_53 : C := regL [2, 8, 9, 10, 11, 13, 14, 15, 16] none [⟨some 79, .mv (.tmp 15), none⟩, ⟨some 80, .bin 117 .sub (.tmp 79) (.const (.int .u64 1)), none⟩, ⟨some 15, .mv (.tmp 80), none⟩]
def Xn90_55 : C := regL [2, 8, 9, 10, 11, 13, 14, 15, 16] none [⟨some 81, .mv (.tmp 16), none⟩, ⟨some 82, .mv (.tmp 9), none⟩, ⟨some 83, .bin 117 .add (.tmp 81) (.tmp 82), none⟩, ⟨some 16, .mv (.tmp 83), none⟩]
def Xn90_57 : C := regL [2, 8, 9, 10, 11, 13, 14, 15, 16, 85] none [⟨some 84, .mv (.tmp 16), none⟩, ⟨some 85, .bin 117 .geq (.tmp 84) (.const (.int .u64 4294967296)), none⟩]
def Xn90_58 : C := .cond (.tmp 85) (.exit 0) .skip
def Xn90_56 : C := .seq Xn90_57 Xn90_58
def Xn90_54 : C := .seq Xn90_55 Xn90_56
def Xn90_52 : C := .seq Xn90_53 Xn90_54
def Xn90_51 : C := .block 1 Xn90_52
def Xn90_45 : C := seqL [2, 8, 9, 10, 11, 13, 14, 15, 16] Xn90_46 Xn90_51
/- carried: [15, 16] -/
def Xn90_44 : C := loopL [2, 8, 9, 10, 11, 13, 14, 15, 16] Xn90_45
def Xn90_43 : C := .block 0 Xn90_44
def Xn90_62 : C := regL [2, 8, 9, 10, 14, 15, 17] none [⟨some 86, .mv (.tmp 11), none⟩, ⟨some 87, .bin 117 .mul (.tmp 86) (.const (.int .u64 4294967296)), none⟩, ⟨some 88, .mv (.tmp 13), none⟩, ⟨some 89, .bin 117 .add (.tmp 87) (.tmp 88), none⟩, ⟨some 90, .mv (.tmp 15), none⟩, ⟨some 91, .mv (.tmp 2), none⟩, ⟨some 92, .bin 117 .mul (.tmp 90) (.tmp 91), none⟩, ⟨some 93, .bin 117 .sub (.tmp 89) (.tmp 92), none⟩, ⟨some 17, .mv (.tmp 93), none⟩]
def Xn90_64 : C := regL [2, 8, 9, 10, 14, 15, 17, 18] none [⟨some 94, .mv (.tmp 17), none⟩, ⟨some 95, .mv (.tmp 9), none⟩, ⟨some 96, .bin 117 .quo (.tmp 94) (.tmp 95), none⟩, ⟨some 18, .mv (.tmp 96), none⟩]
def Xn90_66 : C := regL [2, 8, 9, 10, 14, 15, 16, 17, 18] none [⟨some 97, .mv (.tmp 17), none⟩, ⟨some 98, .mv (.tmp 18), none⟩, ⟨some 99, .mv (.tmp 9), none⟩, ⟨some 100, .bin 117 .mul (.tmp 98) (.tmp 99), none⟩, ⟨some 101, .bin 117 .sub (.tmp 97) (.tmp 100), none⟩, ⟨some 16, .mv (.tmp 101), none⟩]
def Xn90_72 : C := regL [2, 8, 9, 10, 14, 15, 16, 17, 18, 113] none [⟨some 102, .mv (.tmp 18), none⟩, ⟨some 103, .bin 117 .geq (.tmp 102) (.const (.int .u64 4294967296)), none⟩, ⟨some 104, .mv (.tmp 103), none⟩, ⟨some 105, .mv (.tmp 18), some (104, false)⟩, ⟨some 106, .mv (.tmp 10), some (104, false)⟩, ⟨some 107, .bin 117 .mul (.tmp 105) (.tmp 106), some (104, false)⟩, ⟨some 108, .mv (.tmp 16), some (104, false)⟩, ⟨some 109, .bin 117 .mul (.const (.int .u64 4294967296)) (.tmp 108), some (104, false)⟩, ⟨some 110, .mv (.tmp 14), some (104, false)⟩, ⟨some 111, .bin 117 .add (.tmp 109) (.tmp 110), some (104, false)⟩, ⟨some 112, .bin 117 .gtr (.tmp 107) (.tmp 111), some (104, false)⟩, ⟨some 113, .pick 104 (.const (.bool true)) (.tmp 112), none⟩]
def Xn90_73 : C := .cond (.tmp 113) .skip (.exit 2)
def Xn90_71 : C := .seq Xn90_72 Xn90_73
def Xn90_78 : C := regL [2, 8, 9, 10, 14, 15, 16, 17, 18] none [⟨some 114, .mv (.tmp 18), none⟩, ⟨some 115, .bin 117 .sub (.tmp 114) (.const (.int .u64 1)), none⟩, ⟨some 18, .mv (.tmp 115), none⟩]
def Xn90_80 : C := regL [2, 8, 9, 10, 14, 15, 16, 17, 18] none [⟨some 116, .mv (.tmp 16), none⟩, ⟨some 117, .mv (.tmp 9), none⟩, ⟨some 118, .bin 117 .add (.tmp 116) (.tmp 117), none⟩, ⟨some 16, .mv (.tmp 118), none⟩]
def Xn90_82 : C := regL [2, 8, 9, 10, 14, 15, 16, 17, 18, 120] none [⟨some 119, .mv (.tmp 16), none⟩, ⟨some 120, .bin 117 .geq (.tmp 119) (.const (.int .u64 4294967296)), none⟩]
def Xn90_83 : C := .cond (.tmp 120) (.exit 2) .skip
def Xn90_81 : C := .seq Xn90_82 Xn90_83
def Xn90_79 : C := .seq Xn90_80 Xn90_81
def Xn90_77 : C := .seq Xn90_78 Xn90_79
def Xn90_76 : C := .block 3 Xn90_77
def Xn90_70 : C := seqL [2, 8, 9, 10, 14, 15, 16, 17, 18] Xn90_71 Xn90_76
/- carried: [16, 18] -/
def Xn90_69 : C := loopL [2, 8, 9, 10, 14, 15, 16, 17, 18] Xn90_70
def Xn90_68 : C := .block 2 Xn90_69
def Xn90_87 : C := regL [6, 7] none [⟨some 121, .mv (.tmp 15), none⟩, ⟨some 122, .bin 117 .mul (.tmp 121) (.const (.int .u64 4294967296)), none⟩, ⟨some 123, .mv (.tmp 18), none⟩, ⟨some 124, .bin 117 .add (.tmp 122) (.tmp 123), none⟩, ⟨some 125, .mv (.tmp 17), none⟩, ⟨some 126, .bin 117 .mul (.tmp 125) (.const (.int .u64 4294967296)), none⟩, ⟨some 127, .mv (.tmp 14), none⟩, ⟨some 128, .bin 117 .add (.tmp 126) (.tmp 127), none⟩, ⟨some 129, .mv (.tmp 18), none⟩, ⟨some 130, .mv (.tmp 2), none⟩, ⟨some 131, .bin 117 .mul (.tmp 129) (.tmp 130), none⟩, ⟨some 132, .bin 117 .sub (.tmp 128) (.tmp 131), none⟩, ⟨some 133, .mv (.tmp 8), none⟩, ⟨some 134, .bin 117 .shr (.tmp 132) (.tmp 133), none⟩, ⟨some 6, .mv (.tmp 124), none⟩, ⟨some 7, .mv (.tmp 134), none⟩]
def Xn90_86 : C := .seq Xn90_87 .ret
def Xn90_67 : C := seqL [2, 8, 14, 15, 17, 18] Xn90_68 Xn90_86
def Xn90_65 : C := .seq Xn90_66 Xn90_67
def Xn90_63 : C := .seq Xn90_64 Xn90_65
def Xn90_61 : C := .seq Xn90_62 Xn90_63
def Xn90_42 : C := seqL [2, 8, 9, 10, 11, 13, 14, 15] Xn90_43 Xn90_61
def Xn90_40 : C := .seq Xn90_41 Xn90_42
def Xn90_38 : C := .seq Xn90_39 Xn90_40
def Xn90_36 : C := .seq Xn90_37 Xn90_38
def Xn90_34 : C := .seq Xn90_35 Xn90_36
def Xn90_32 : C := .seq Xn90_33 Xn90_34
def Xn90_30 : C := .seq Xn90_31 Xn90_32
def Xn90_28 : C := .seq Xn90_29 Xn90_30
def Xn90_26 : C := .seq Xn90_27 Xn90_28
def Xn90_24 : C := .seq Xn90_25 Xn90_26
def Xn90_22 : C := .seq Xn90_23 Xn90_24
def Xn90_14 : C := seqL [0, 1, 2] Xn90_15 Xn90_22
def Xn90_8 : C := seqL [0, 1, 2] Xn90_9 Xn90_14
def Xn90_2 : C := seqL [0, 1, 2] Xn90_3 Xn90_8
def Xn90_0 : C := .seq Xn90_1 Xn90_2
theorem Xt90 : Text Try.prog 90 Xn90_0 135 3 [.t 6, .t 7] := ⟨⟨Try.f90, [], Try.func90, by kernel_rfl, by kernel_rfl, by kernel_rfl, by kernel_rfl⟩⟩
/- carried: [9, 10] -/
/- carried: [9, 10, 11] -/
/- carried: [5] -/
/- carried: [5, 6] -/
/- carried: [11, 12] -/
/- carried: [10, 13] -/
/- carried: [10, 12] -/
def Xn98_1 : C := regL [0, 1] none [⟨some 4, .mv (.const (.bool false)), none⟩]
def Xn98_3 : C := regL [4] none [⟨some 5, .mv (.tmp 0), none⟩, ⟨some 6, .mv (.tmp 1), none⟩, ⟨some 7, .call 112 [.tmp 5, .tmp 6], none⟩, ⟨some 8, .bin 3 .geq (.tmp 7) (.const (.int .i64 0)), none⟩, ⟨some 4, .mv (.tmp 8), none⟩]
def Xn98_2 : C := .seq Xn98_3 .ret
def Xn98_0 : C := .seq Xn98_1 Xn98_2
theorem Xt98 : Text Try.prog 98 Xn98_0 9 2 [.t 4] := ⟨⟨Try.f98, [], Try.func98, by kernel_rfl, by kernel_rfl, by kernel_rfl, by kernel_rfl⟩⟩
def Xn99_1 : C := regL [1] none [⟨some 1, .box true 70 (.tmp 0), none⟩, ⟨some 2, .mv (.const (.bool false)), none⟩]
def Xn99_3 : C := regL [2] none [⟨some 3, .fa 10 (.tmp 1), none⟩, ⟨some 4, .ld 68 1 false (.tmp 3), none⟩, ⟨some 5, .len (.tmp 4), none⟩, ⟨some 6, .bin 3 .gtr (.tmp 5) (.const (.int .i64 24)), none⟩, ⟨some 2, .mv (.tmp 6), none⟩]
def Xn99_2 : C := .seq Xn99_3 .ret
def Xn99_0 : C := .seq Xn99_1 Xn99_2
theorem Xt99 : Text Try.prog 99 Xn99_0 7 1 [.t 2] := ⟨⟨Try.f99, [1], Try.func99, by kernel_rfl, by kernel_rfl, by kernel_rfl, by kernel_rfl⟩⟩
def Xn100_1 : C := regL [0] none [⟨some 2, .mv (.const (.bool false)), none⟩]
def Xn100_4 : C := regL [0, 10] none [⟨some 3, .mv (.tmp 0), none⟩, ⟨some 4, .slen (.tmp 3), none⟩, ⟨some 5, .bin 3 .eql (.tmp 4) (.const (.int .i64 0)), none⟩, ⟨some 6, .mv (.tmp 5), none⟩, ⟨some 7, .mv (.tmp 0), some (6, false)⟩, ⟨some 8, .slen (.tmp 7), some (6, false)⟩, ⟨some 9, .bin 3 .gtr (.tmp 8) (.const (.int .i64 20)), some (6, false)⟩, ⟨some 10, .pick 6 (.const (.bool true)) (.tmp 9), none⟩]
def Xn100_7 : C := regL [2] none [⟨some 2, .mv (.const (.bool false)), none⟩]
def Xn100_6 : C := .seq Xn100_7 .ret
def Xn100_5 : C := .cond (.tmp 10) Xn100_6 .skip
def Xn100_3 : C := .seq Xn100_4 Xn100_5
def Xn100_11 : C := regL [2] none [⟨some 11, .mv (.tmp 0), none⟩, ⟨some 12, .call 113 [.tmp 11, .func 114], none⟩, ⟨some 13, .un .not (.tmp 12), none⟩, ⟨some 2, .mv (.tmp 13), none⟩]
def Xn100_10 : C := .seq Xn100_11 .ret
def Xn100_2 : C := seqL [0] Xn100_3 Xn100_10
def Xn100_0 : C := .seq Xn100_1 Xn100_2
theorem Xt100 : Text Try.prog 100 Xn100_0 14 1 [.t 2] := ⟨⟨Try.f100, [], Try.func100, by kernel_rfl, by kernel_rfl, by kernel_rfl, by kernel_rfl⟩⟩
def Xn101_1 : C := regL [1] none [⟨some 1, .box true 70 (.tmp 0), none⟩, ⟨some 2, .mv (.const (.bool false)), none⟩]
def Xn101_3 : C := regL [2] none [⟨some 3, .ld 70 11 true (.tmp 1), none⟩, ⟨some 4, .call 102 [.tmp 3], none⟩, ⟨some 5, .un .not (.tmp 4), none⟩, ⟨some 2, .mv (.tmp 5), none⟩]
def Xn101_2 : C := .seq Xn101_3 .ret
def Xn101_0 : C := .seq Xn101_1 Xn101_2
theorem Xt101 : Text Try.prog 101 Xn101_0 6 1 [.t 2] := ⟨⟨Try.f101, [1], Try.func101, by kernel_rfl, by kernel_rfl, by kernel_rfl, by kernel_rfl⟩⟩
def Xn102_1 : C := regL [1] none [⟨some 1, .box true 70 (.tmp 0), none⟩, ⟨some 2, .mv (.const (.bool false)), none⟩]
def Xn102_3 : C := regL [1, 3] none [⟨some 7, .fa 3 (.tmp 1), none⟩, ⟨some 8, .ld 2 1 false (.tmp 7), none⟩, ⟨some 9, .fa 4 (.tmp 1), none⟩, ⟨some 10, .ld 2 1 false (.tmp 9), none⟩, ⟨some 11, .fa 5 (.tmp 1), none⟩, ⟨some 12, .ld 2 1 false (.tmp 11), none⟩, ⟨some 13, .fa 6 (.tmp 1), none⟩, ⟨some 14, .ld 2 1 false (.tmp 13), none⟩, ⟨some 15, .bls 2 1 4 (.int .i64 0) [(0, 1, .tmp 8), (1, 1, .tmp 10), (2, 1, .tmp 12), (3, 1, .tmp 14)], none⟩, ⟨some 16, .call 115 [.tmp 15, .func 116], none⟩, ⟨some 17, .un .not (.tmp 16), none⟩, ⟨some 3, .mv (.tmp 17), none⟩]
def Xn102_6 : C := regL [1, 44] none [⟨some 18, .mv (.tmp 3), none⟩, ⟨some 19, .un .not (.tmp 18), none⟩, ⟨some 20, .mv (.tmp 19), none⟩, ⟨some 21, .fa 0 (.tmp 1), some (20, false)⟩, ⟨some 22, .ld 3 1 false (.tmp 21), some (20, false)⟩, ⟨some 23, .bin 3 .lss (.tmp 22) (.const (.int .i64 0)), some (20, false)⟩, ⟨some 24, .pick 20 (.const (.bool true)) (.tmp 23), none⟩, ⟨some 25, .mv (.tmp 24), none⟩, ⟨some 26, .fa 0 (.tmp 1), some (25, false)⟩, ⟨some 27, .ld 3 1 false (.tmp 26), some (25, false)⟩, ⟨some 28, .bin 3 .geq (.tmp 27) (.const (.int .i64 4)), some (25, false)⟩, ⟨some 29, .pick 25 (.const (.bool true)) (.tmp 28), none⟩, ⟨some 30, .mv (.tmp 29), none⟩, ⟨some 31, .fa 1 (.tmp 1), some (30, false)⟩, ⟨some 32, .ld 2 1 false (.tmp 31), some (30, false)⟩, ⟨some 33, .call 117 [.tmp 32, .const (.int .i64 100), .const (.int .i64 131072)], some (30, false)⟩, ⟨some 34, .un .not (.tmp 33), some (30, false)⟩, ⟨some 35, .pick 30 (.const (.bool true)) (.tmp 34), none⟩, ⟨some 36, .mv (.tmp 35), none⟩, ⟨some 37, .fa 2 (.tmp 1), some (36, false)⟩, ⟨some 38, .ld 2 1 false (.tmp 37), some (36, false)⟩, ⟨some 39, .fa 1 (.tmp 1), some (36, false)⟩, ⟨some 40, .ld 2 1 false (.tmp 39), some (36, false)⟩, ⟨some 41, .un .neg (.tmp 40), some (36, false)⟩, ⟨some 42, .call 117 [.tmp 38, .tmp 41, .const (.int .i64 131072)], some (36, false)⟩, ⟨some 43, .un .not (.tmp 42), some (36, false)⟩, ⟨some 44, .pick 36 (.const (.bool true)) (.tmp 43), none⟩]
def Xn102_9 : C := regL [2] none [⟨some 2, .mv (.const (.bool false)), none⟩]
def Xn102_8 : C := .seq Xn102_9 .ret
def Xn102_7 : C := .cond (.tmp 44) Xn102_8 .skip
def Xn102_5 : C := .seq Xn102_6 Xn102_7
def Xn102_14 : C := regL [1, 70] none [⟨some 45, .fa 7 (.tmp 1), none⟩, ⟨some 46, .ld 2 1 false (.tmp 45), none⟩, ⟨some 47, .call 117 [.tmp 46, .const (.int .i64 1), .const (.int .i64 1048576)], none⟩, ⟨some 48, .un .not (.tmp 47), none⟩, ⟨some 49, .mv (.tmp 48), none⟩, ⟨some 50, .fa 8 (.tmp 1), some (49, false)⟩, ⟨some 51, .ld 2 1 false (.tmp 50), some (49, false)⟩, ⟨some 52, .call 117 [.tmp 51, .const (.int .i64 0), .const (.int .i64 900)], some (49, false)⟩, ⟨some 53, .un .not (.tmp 52), some (49, false)⟩, ⟨some 54, .pick 49 (.const (.bool true)) (.tmp 53), none⟩, ⟨some 55, .mv (.tmp 54), none⟩, ⟨some 56, .fa 9 (.tmp 1), some (55, false)⟩, ⟨some 57, .ld 3 1 false (.tmp 56), some (55, false)⟩, ⟨some 58, .bin 3 .lss (.tmp 57) (.const (.int .i64 0)), some (55, false)⟩, ⟨some 59, .pick 55 (.const (.bool true)) (.tmp 58), none⟩, ⟨some 60, .mv (.tmp 59), none⟩, ⟨some 61, .fa 9 (.tmp 1), some (60, false)⟩, ⟨some 62, .ld 3 1 false (.tmp 61), some (60, false)⟩, ⟨some 63, .bin 3 .gtr (.tmp 62) (.const (.int .i64 40)), some (60, false)⟩, ⟨some 64, .pick 60 (.const (.bool true)) (.tmp 63), none⟩, ⟨some 65, .mv (.tmp 64), none⟩, ⟨some 66, .fa 10 (.tmp 1), some (65, false)⟩, ⟨some 67, .ld 68 1 false (.tmp 66), some (65, false)⟩, ⟨some 68, .len (.tmp 67), some (65, false)⟩, ⟨some 69, .bin 3 .eql (.tmp 68) (.const (.int .i64 0)), some (65, false)⟩, ⟨some 70, .pick 65 (.const (.bool true)) (.tmp 69), none⟩]
def Xn102_17 : C := regL [2] none [⟨some 2, .mv (.const (.bool false)), none⟩]
def Xn102_16 : C := .seq Xn102_17 .ret
def Xn102_15 : C := .cond (.tmp 70) Xn102_16 .skip
def Xn102_13 : C := .seq Xn102_14 Xn102_15
def Xn102_21 : C := regL [1, 4] none [⟨some 4, .mv (.const (.int .i64 0)), none⟩]
def Xn102_24 : C := regL [1, 4, 72, 73, 74] none [⟨some 71, .fa 10 (.tmp 1), none⟩, ⟨some 72, .ld 68 1 false (.tmp 71), none⟩, ⟨some 73, .len (.tmp 72), none⟩, ⟨some 74, .mv (.const (.int .i64 0)), none⟩]
def Xn102_28 : C := regL [1, 4, 72, 73, 74, 75] none [⟨some 75, .bin 3 .lss (.tmp 74) (.tmp 73), none⟩]
def Xn102_30 : C := .cond (.tmp 75) .skip (.exit 0)
def Xn102_36 : C := regL [1, 4, 6, 72, 73, 74] none [⟨some 76, .ia 3 (.tmp 72) (.tmp 74), none⟩, ⟨some 77, .ld 106 3 true (.tmp 76), none⟩, ⟨some 6, .alc 106 (.agg #[.int .i64 0, .int .i64 0, .int .i64 0]), none⟩, ⟨none, .st 106 3 (.tmp 6) (.tmp 77), none⟩]
def Xn102_39 : C := regL [1, 6, 72, 73, 74, 103] none [⟨some 78, .fa 0 (.tmp 6), none⟩, ⟨some 79, .ld 2 1 false (.tmp 78), none⟩, ⟨some 80, .mv (.tmp 4), none⟩, ⟨some 81, .fa 1 (.tmp 1), none⟩, ⟨some 82, .ld 2 1 false (.tmp 81), none⟩, ⟨some 83, .fa 4 (.tmp 1), none⟩, ⟨some 84, .ld 2 1 false (.tmp 83), none⟩, ⟨some 85, .bin 2 .add (.tmp 82) (.tmp 84), none⟩, ⟨some 86, .call 117 [.tmp 79, .tmp 80, .tmp 85], none⟩, ⟨some 87, .un .not (.tmp 86), none⟩, ⟨some 88, .mv (.tmp 87), none⟩, ⟨some 89, .fa 1 (.tmp 6), some (88, false)⟩, ⟨some 90, .ld 2 1 false (.tmp 89), some (88, false)⟩, ⟨some 91, .call 117 [.tmp 90, .const (.int .i64 1), .const (.int .i64 1048576)], some (88, false)⟩, ⟨some 92, .un .not (.tmp 91), some (88, false)⟩, ⟨some 93, .pick 88 (.const (.bool true)) (.tmp 92), none⟩, ⟨some 94, .mv (.tmp 93), none⟩, ⟨some 95, .fa 2 (.tmp 6), some (94, false)⟩, ⟨some 96, .ld 3 1 false (.tmp 95), some (94, false)⟩, ⟨some 97, .bin 3 .lss (.tmp 96) (.const (.int .i64 1)), some (94, false)⟩, ⟨some 98, .pick 94 (.const (.bool true)) (.tmp 97), none⟩, ⟨some 99, .mv (.tmp 98), none⟩, ⟨some 100, .fa 2 (.tmp 6), some (99, false)⟩, ⟨some 101, .ld 3 1 false (.tmp 100), some (99, false)⟩, ⟨some 102, .bin 3 .gtr (.tmp 101) (.const (.int .i64 16)), some (99, false)⟩, ⟨some 103, .pick 99 (.const (.bool true)) (.tmp 102), none⟩]
def Xn102_42 : C := regL [2] none [⟨some 2, .mv (.const (.bool false)), none⟩]
def Xn102_41 : C := .seq Xn102_42 .ret
def Xn102_40 : C := .cond (.tmp 103) Xn102_41 .skip
def Xn102_38 : C := .seq Xn102_39 Xn102_40
def Xn102_45 : C := regL [1, 4, 72, 73, 74] none [⟨some 104, .fa 0 (.tmp 6), none⟩, ⟨some 105, .ld 2 1 false (.tmp 104), none⟩, ⟨some 4, .mv (.tmp 105), none⟩]
def Xn102_37 : C := seqL [1, 6, 72, 73, 74] Xn102_38 Xn102_45
def Xn102_35 : C := .seq Xn102_36 Xn102_37
def Xn102_34 : C := .block 1 Xn102_35
def Xn102_46 : C := regL [1, 4, 72, 73, 74] none [⟨some 106, .bin 3 .add (.tmp 74) (.const (.int .i64 1)), none⟩, ⟨some 74, .mv (.tmp 106), none⟩]
def Xn102_33 : C := seqL [1, 4, 72, 73, 74] Xn102_34 Xn102_46
def Xn102_29 : C := seqL [1, 4, 72, 73, 74] Xn102_30 Xn102_33
def Xn102_27 : C := .seq Xn102_28 Xn102_29
/- carried: [4, 74] -/
def Xn102_26 : C := loopL [1, 4, 72, 73, 74] Xn102_27
def Xn102_25 : C := .block 0 Xn102_26
def Xn102_23 : C := .seq Xn102_24 Xn102_25
def Xn102_48 : C := regL [2] none [⟨some 2, .mv (.const (.bool true)), none⟩]
def Xn102_47 : C := .seq Xn102_48 .ret
def Xn102_22 : C := seqL [] Xn102_23 Xn102_47
def Xn102_20 : C := .seq Xn102_21 Xn102_22
def Xn102_12 : C := seqL [1] Xn102_13 Xn102_20
def Xn102_4 : C := seqL [1] Xn102_5 Xn102_12
def Xn102_2 : C := .seq Xn102_3 Xn102_4
def Xn102_0 : C := .seq Xn102_1 Xn102_2
theorem Xt102 : Text Try.prog 102 Xn102_0 107 1 [.t 2] := ⟨⟨Try.f102, [1], Try.func102, by kernel_rfl, by kernel_rfl, by kernel_rfl, by kernel_rfl⟩⟩
def Xn103_1 : C := regL [0, 1, 2, 6] none [⟨some 6, .mv (.const (.int .i64 20)), none⟩]
def Xn103_3 : C := regL [0, 1, 2, 6, 7, 8] none [⟨some 10, .mv (.tmp 6), none⟩, ⟨some 7, .mv (.const (.int .i64 0)), none⟩, ⟨some 8, .mv (.tmp 10), none⟩]
def Xn103_9 : C := regL [0, 1, 2, 6, 7, 8, 13] none [⟨some 11, .mv (.tmp 8), none⟩, ⟨some 12, .mv (.tmp 1), none⟩, ⟨some 13, .bin 3 .leq (.tmp 11) (.tmp 12), none⟩]
def Xn103_10 : C := .cond (.tmp 13) .skip (.exit 0)
def Xn103_8 : C := .seq Xn103_9 Xn103_10
def Xn103_15 : C := regL [0, 1, 2, 6, 8] none [⟨some 14, .mv (.tmp 0), none⟩, ⟨some 15, .mv (.tmp 7), none⟩, ⟨some 16, .mv (.tmp 8), none⟩, ⟨some 17, .mv (.tmp 2), none⟩, ⟨some 18, .call 118 [.tmp 14, .tmp 15, .tmp 16, .tmp 17], none⟩]
def Xn103_17 : C := regL [0, 1, 2, 6, 7, 8] none [⟨some 19, .mv (.tmp 8), none⟩, ⟨some 7, .mv (.tmp 19), none⟩]
def Xn103_18 : C := regL [0, 1, 2, 6, 7, 8] none [⟨some 20, .mv (.tmp 8), none⟩, ⟨some 21, .mv (.tmp 6), none⟩, ⟨some 22, .bin 3 .add (.tmp 20) (.tmp 21), none⟩, ⟨some 8, .mv (.tmp 22), none⟩]
def Xn103_16 : C := .seq Xn103_17 Xn103_18
def Xn103_14 : C := .seq Xn103_15 Xn103_16
def Xn103_13 : C := .block 1 Xn103_14
def Xn103_7 : C := seqL [0, 1, 2, 6, 7, 8] Xn103_8 Xn103_13
/- carried: [7, 8] -/
def Xn103_6 : C := loopL [0, 1, 2, 6, 7, 8] Xn103_7
def Xn103_5 : C := .block 0 Xn103_6
def Xn103_20 : C := regL [0, 1, 2, 6] none [⟨some 23, .mv (.tmp 0), none⟩, ⟨some 24, .mv (.tmp 7), none⟩, ⟨some 25, .mv (.tmp 1), none⟩, ⟨some 26, .mv (.tmp 2), none⟩, ⟨some 27, .call 118 [.tmp 23, .tmp 24, .tmp 25, .tmp 26], none⟩]
def Xn103_25 : C := regL [0, 1, 2, 6, 30] none [⟨some 28, .mv (.tmp 6), none⟩, ⟨some 29, .mv (.tmp 1), none⟩, ⟨some 30, .bin 3 .lss (.tmp 28) (.tmp 29), none⟩]
def Xn103_26 : C := .cond (.tmp 30) .skip (.exit 2)
def Xn103_24 : C := .seq Xn103_25 Xn103_26
def Xn103_31 : C := regL [0, 1, 2, 6, 7, 8] none [⟨some 31, .mv (.tmp 6), none⟩, ⟨some 32, .bin 3 .mul (.const (.int .i64 2)) (.tmp 31), none⟩, ⟨some 7, .mv (.const (.int .i64 0)), none⟩, ⟨some 8, .mv (.tmp 32), none⟩]
def Xn103_37 : C := regL [0, 1, 2, 6, 7, 8, 35] none [⟨some 33, .mv (.tmp 8), none⟩, ⟨some 34, .mv (.tmp 1), none⟩, ⟨some 35, .bin 3 .leq (.tmp 33) (.tmp 34), none⟩]
def Xn103_38 : C := .cond (.tmp 35) .skip (.exit 4)
def Xn103_36 : C := .seq Xn103_37 Xn103_38
def Xn103_43 : C := regL [0, 1, 2, 6, 8] none [⟨some 36, .mv (.tmp 0), none⟩, ⟨some 37, .mv (.tmp 7), none⟩, ⟨some 38, .mv (.tmp 7), none⟩, ⟨some 39, .mv (.tmp 6), none⟩, ⟨some 40, .bin 3 .add (.tmp 38) (.tmp 39), none⟩, ⟨some 41, .mv (.tmp 8), none⟩, ⟨some 42, .mv (.tmp 2), none⟩, ⟨some 43, .call 119 [.tmp 36, .tmp 37, .tmp 40, .tmp 41, .tmp 42], none⟩]
def Xn103_45 : C := regL [0, 1, 2, 6, 7, 8] none [⟨some 44, .mv (.tmp 8), none⟩, ⟨some 7, .mv (.tmp 44), none⟩]
def Xn103_46 : C := regL [0, 1, 2, 6, 7, 8] none [⟨some 45, .mv (.tmp 8), none⟩, ⟨some 46, .mv (.tmp 6), none⟩, ⟨some 47, .bin 3 .mul (.const (.int .i64 2)) (.tmp 46), none⟩, ⟨some 48, .bin 3 .add (.tmp 45) (.tmp 47), none⟩, ⟨some 8, .mv (.tmp 48), none⟩]
def Xn103_44 : C := .seq Xn103_45 Xn103_46
def Xn103_42 : C := .seq Xn103_43 Xn103_44
def Xn103_41 : C := .block 5 Xn103_42
def Xn103_35 : C := seqL [0, 1, 2, 6, 7, 8] Xn103_36 Xn103_41
/- carried: [7, 8] -/
def Xn103_34 : C := loopL [0, 1, 2, 6, 7, 8] Xn103_35
def Xn103_33 : C := .block 4 Xn103_34
def Xn103_49 : C := regL [0, 1, 2, 6, 7, 9] none [⟨some 49, .mv (.tmp 7), none⟩, ⟨some 50, .mv (.tmp 6), none⟩, ⟨some 51, .bin 3 .add (.tmp 49) (.tmp 50), none⟩, ⟨some 9, .mv (.tmp 51), none⟩]
def Xn103_51 : C := regL [0, 1, 2, 6, 7, 9, 54] none [⟨some 52, .mv (.tmp 9), none⟩, ⟨some 53, .mv (.tmp 1), none⟩, ⟨some 54, .bin 3 .lss (.tmp 52) (.tmp 53), none⟩]
def Xn103_53 : C := regL [0, 1, 2, 6] none [⟨some 55, .mv (.tmp 0), none⟩, ⟨some 56, .mv (.tmp 7), none⟩, ⟨some 57, .mv (.tmp 9), none⟩, ⟨some 58, .mv (.tmp 1), none⟩, ⟨some 59, .mv (.tmp 2), none⟩, ⟨some 60, .call 119 [.tmp 55, .tmp 56, .tmp 57, .tmp 58, .tmp 59], none⟩]
def Xn103_52 : C := .cond (.tmp 54) Xn103_53 .skip
def Xn103_50 : C := .seq Xn103_51 Xn103_52
def Xn103_48 : C := .seq Xn103_49 Xn103_50
def Xn103_55 : C := regL [0, 1, 2, 6] none [⟨some 61, .mv (.tmp 6), none⟩, ⟨some 62, .bin 3 .mul (.tmp 61) (.const (.int .i64 2)), none⟩, ⟨some 6, .mv (.tmp 62), none⟩]
def Xn103_47 : C := seqL [0, 1, 2, 6] Xn103_48 Xn103_55
def Xn103_32 : C := seqL [0, 1, 2, 6, 7] Xn103_33 Xn103_47
def Xn103_30 : C := .seq Xn103_31 Xn103_32
def Xn103_29 : C := .block 3 Xn103_30
def Xn103_23 : C := seqL [0, 1, 2, 6] Xn103_24 Xn103_29
/- carried: [6] -/
def Xn103_22 : C := loopL [0, 1, 2, 6] Xn103_23
def Xn103_21 : C := .block 2 Xn103_22
def Xn103_19 : C := .seq Xn103_20 Xn103_21
def Xn103_4 : C := seqL [0, 1, 2, 6, 7] Xn103_5 Xn103_19
def Xn103_2 : C := .seq Xn103_3 Xn103_4
def Xn103_0 : C := .seq Xn103_1 Xn103_2
theorem Xt103 : Text Try.prog 103 Xn103_0 63 3 [] := ⟨⟨Try.f103, [], Try.func103, by kernel_rfl, by kernel_rfl, by kernel_rfl, by kernel_rfl⟩⟩
def Xn104_1 : C := regL [0] none [⟨some 2, .mv (.const (.bool false)), none⟩]
def Xn104_3 : C := regL [2] none [⟨some 3, .mv (.tmp 0), none⟩, ⟨some 4, .mv (.tmp 0), none⟩, ⟨some 5, .bin 2 .neq (.tmp 3) (.tmp 4), none⟩, ⟨some 2, .mv (.tmp 5), none⟩]
def Xn104_2 : C := .seq Xn104_3 .ret
def Xn104_0 : C := .seq Xn104_1 Xn104_2
theorem Xt104 : Text Try.prog 104 Xn104_0 6 1 [.t 2] := ⟨⟨Try.f104, [], Try.func104, by kernel_rfl, by kernel_rfl, by kernel_rfl, by kernel_rfl⟩⟩
def Xn105_1 : C := regL [0] none [⟨some 2, .mv (.const (.bool false)), none⟩]
def Xn105_4 : C := regL [0, 11] none [⟨some 4, .mv (.tmp 0), none⟩, ⟨some 5, .slen (.tmp 4), none⟩, ⟨some 6, .bin 3 .lss (.tmp 5) (.const (.int .i64 1)), none⟩, ⟨some 7, .mv (.tmp 6), none⟩, ⟨some 8, .mv (.tmp 0), some (7, false)⟩, ⟨some 9, .slen (.tmp 8), some (7, false)⟩, ⟨some 10, .bin 3 .gtr (.tmp 9) (.const (.int .i64 20)), some (7, false)⟩, ⟨some 11, .pick 7 (.const (.bool true)) (.tmp 10), none⟩]
def Xn105_7 : C := regL [2] none [⟨some 2, .mv (.const (.bool false)), none⟩]
def Xn105_6 : C := .seq Xn105_7 .ret
def Xn105_5 : C := .cond (.tmp 11) Xn105_6 .skip
def Xn105_3 : C := .seq Xn105_4 Xn105_5
def Xn105_12 : C := regL [0, 3] none [⟨some 3, .mv (.const (.int .i64 0)), none⟩]
def Xn105_17 : C := regL [0, 3, 15] none [⟨some 12, .mv (.tmp 3), none⟩, ⟨some 13, .mv (.tmp 0), none⟩, ⟨some 14, .slen (.tmp 13), none⟩, ⟨some 15, .bin 3 .lss (.tmp 12) (.tmp 14), none⟩]
def Xn105_18 : C := .cond (.tmp 15) .skip (.exit 0)
def Xn105_16 : C := .seq Xn105_17 Xn105_18
def Xn105_24 : C := regL [0, 3, 40] none [⟨some 18, .mv (.tmp 0), none⟩, ⟨some 19, .mv (.tmp 3), none⟩, ⟨some 20, .sidx (.tmp 18) (.tmp 19), none⟩, ⟨some 21, .bin 5 .geq (.tmp 20) (.const (.int .u8 97)), none⟩, ⟨some 22, .mv (.tmp 21), none⟩, ⟨some 23, .mv (.tmp 0), some (22, true)⟩, ⟨some 24, .mv (.tmp 3), some (22, true)⟩, ⟨some 25, .sidx (.tmp 23) (.tmp 24), some (22, true)⟩, ⟨some 26, .bin 5 .leq (.tmp 25) (.const (.int .u8 122)), some (22, true)⟩, ⟨some 27, .pick 22 (.tmp 26) (.const (.bool false)), none⟩, ⟨some 28, .mv (.tmp 27), none⟩, ⟨some 29, .mv (.tmp 0), some (28, false)⟩, ⟨some 30, .mv (.tmp 3), some (28, false)⟩, ⟨some 31, .sidx (.tmp 29) (.tmp 30), some (28, false)⟩, ⟨some 32, .bin 5 .geq (.tmp 31) (.const (.int .u8 48)), some (28, false)⟩, ⟨some 33, .mv (.tmp 32), some (28, false)⟩, ⟨some 34, .mv (.tmp 0), some (33, true)⟩, ⟨some 35, .mv (.tmp 3), some (33, true)⟩, ⟨some 36, .sidx (.tmp 34) (.tmp 35), some (33, true)⟩, ⟨some 37, .bin 5 .leq (.tmp 36) (.const (.int .u8 57)), some (33, true)⟩, ⟨some 38, .pick 33 (.tmp 37) (.const (.bool false)), some (28, false)⟩, ⟨some 39, .pick 28 (.const (.bool true)) (.tmp 38), none⟩, ⟨some 40, .un .not (.tmp 39), none⟩]
def Xn105_27 : C := regL [2] none [⟨some 2, .mv (.const (.bool false)), none⟩]
def Xn105_26 : C := .seq Xn105_27 .ret
def Xn105_25 : C := .cond (.tmp 40) Xn105_26 .skip
def Xn105_23 : C := .seq Xn105_24 Xn105_25
def Xn105_22 : C := .block 1 Xn105_23
def Xn105_30 : C := regL [0, 3] none [⟨some 16, .mv (.tmp 3), none⟩, ⟨some 17, .bin 3 .add (.tmp 16) (.const (.int .i64 1)), none⟩, ⟨some 3, .mv (.tmp 17), none⟩]
def Xn105_21 : C := seqL [0, 3] Xn105_22 Xn105_30
def Xn105_15 : C := seqL [0, 3] Xn105_16 Xn105_21
/- carried: [3] -/
def Xn105_14 : C := loopL [0, 3] Xn105_15
def Xn105_13 : C := .block 0 Xn105_14
def Xn105_11 : C := .seq Xn105_12 Xn105_13
def Xn105_32 : C := regL [2] none [⟨some 2, .mv (.const (.bool true)), none⟩]
def Xn105_31 : C := .seq Xn105_32 .ret
def Xn105_10 : C := seqL [] Xn105_11 Xn105_31
def Xn105_2 : C := seqL [0] Xn105_3 Xn105_10
def Xn105_0 : C := .seq Xn105_1 Xn105_2
theorem Xt105 : Text Try.prog 105 Xn105_0 41 1 [.t 2] := ⟨⟨Try.f105, [], Try.func105, by kernel_rfl, by kernel_rfl, by kernel_rfl, by kernel_rfl⟩⟩
def Xn106_1 : C := regL [1] none [⟨some 1, .box true 70 (.tmp 0), none⟩, ⟨some 2, .mv (.const (.bool false)), none⟩]
def Xn106_4 : C := regL [1, 52] none [⟨some 6, .fa 0 (.tmp 1), none⟩, ⟨some 7, .ld 3 1 false (.tmp 6), none⟩, ⟨some 8, .bin 3 .lss (.tmp 7) (.const (.int .i64 0)), none⟩, ⟨some 9, .mv (.tmp 8), none⟩, ⟨some 10, .fa 0 (.tmp 1), some (9, false)⟩, ⟨some 11, .ld 3 1 false (.tmp 10), some (9, false)⟩, ⟨some 12, .bin 3 .gtr (.tmp 11) (.const (.int .i64 3)), some (9, false)⟩, ⟨some 13, .pick 9 (.const (.bool true)) (.tmp 12), none⟩, ⟨some 14, .mv (.tmp 13), none⟩, ⟨some 15, .fa 1 (.tmp 1), some (14, false)⟩, ⟨some 16, .ld 2 1 false (.tmp 15), some (14, false)⟩, ⟨some 17, .call 120 [.tmp 16, .const (.int .i64 100), .const (.int .i64 131072)], some (14, false)⟩, ⟨some 18, .un .not (.tmp 17), some (14, false)⟩, ⟨some 19, .pick 14 (.const (.bool true)) (.tmp 18), none⟩, ⟨some 20, .mv (.tmp 19), none⟩, ⟨some 21, .fa 2 (.tmp 1), some (20, false)⟩, ⟨some 22, .ld 2 1 false (.tmp 21), some (20, false)⟩, ⟨some 23, .fa 1 (.tmp 1), some (20, false)⟩, ⟨some 24, .ld 2 1 false (.tmp 23), some (20, false)⟩, ⟨some 25, .un .neg (.tmp 24), some (20, false)⟩, ⟨some 26, .call 120 [.tmp 22, .tmp 25, .const (.int .i64 131072)], some (20, false)⟩, ⟨some 27, .un .not (.tmp 26), some (20, false)⟩, ⟨some 28, .pick 20 (.const (.bool true)) (.tmp 27), none⟩, ⟨some 29, .mv (.tmp 28), none⟩, ⟨some 30, .fa 3 (.tmp 1), some (29, false)⟩, ⟨some 31, .ld 2 1 false (.tmp 30), some (29, false)⟩, ⟨some 32, .call 120 [.tmp 31, .const (.int .i64 0), .const (.int .i64 131072)], some (29, false)⟩, ⟨some 33, .un .not (.tmp 32), some (29, false)⟩, ⟨some 34, .pick 29 (.const (.bool true)) (.tmp 33), none⟩, ⟨some 35, .mv (.tmp 34), none⟩, ⟨some 36, .fa 4 (.tmp 1), some (35, false)⟩, ⟨some 37, .ld 2 1 false (.tmp 36), some (35, false)⟩, ⟨some 38, .call 120 [.tmp 37, .const (.int .i64 0), .const (.int .i64 131072)], some (35, false)⟩, ⟨some 39, .un .not (.tmp 38), some (35, false)⟩, ⟨some 40, .pick 35 (.const (.bool true)) (.tmp 39), none⟩, ⟨some 41, .mv (.tmp 40), none⟩, ⟨some 42, .fa 5 (.tmp 1), some (41, false)⟩, ⟨some 43, .ld 2 1 false (.tmp 42), some (41, false)⟩, ⟨some 44, .call 120 [.tmp 43, .const (.int .i64 0), .const (.int .i64 131072)], some (41, false)⟩, ⟨some 45, .un .not (.tmp 44), some (41, false)⟩, ⟨some 46, .pick 41 (.const (.bool true)) (.tmp 45), none⟩, ⟨some 47, .mv (.tmp 46), none⟩, ⟨some 48, .fa 6 (.tmp 1), some (47, false)⟩, ⟨some 49, .ld 2 1 false (.tmp 48), some (47, false)⟩, ⟨some 50, .call 120 [.tmp 49, .const (.int .i64 0), .const (.int .i64 131072)], some (47, false)⟩, ⟨some 51, .un .not (.tmp 50), some (47, false)⟩, ⟨some 52, .pick 47 (.const (.bool true)) (.tmp 51), none⟩]
def Xn106_7 : C := regL [2] none [⟨some 2, .mv (.const (.bool false)), none⟩]
def Xn106_6 : C := .seq Xn106_7 .ret
def Xn106_5 : C := .cond (.tmp 52) Xn106_6 .skip
def Xn106_3 : C := .seq Xn106_4 Xn106_5
def Xn106_12 : C := regL [1, 78] none [⟨some 53, .fa 7 (.tmp 1), none⟩, ⟨some 54, .ld 2 1 false (.tmp 53), none⟩, ⟨some 55, .call 120 [.tmp 54, .const (.int .i64 1), .const (.int .i64 1048576)], none⟩, ⟨some 56, .un .not (.tmp 55), none⟩, ⟨some 57, .mv (.tmp 56), none⟩, ⟨some 58, .fa 8 (.tmp 1), some (57, false)⟩, ⟨some 59, .ld 2 1 false (.tmp 58), some (57, false)⟩, ⟨some 60, .call 120 [.tmp 59, .const (.int .i64 0), .const (.int .i64 900)], some (57, false)⟩, ⟨some 61, .un .not (.tmp 60), some (57, false)⟩, ⟨some 62, .pick 57 (.const (.bool true)) (.tmp 61), none⟩, ⟨some 63, .mv (.tmp 62), none⟩, ⟨some 64, .fa 9 (.tmp 1), some (63, false)⟩, ⟨some 65, .ld 3 1 false (.tmp 64), some (63, false)⟩, ⟨some 66, .bin 3 .lss (.tmp 65) (.const (.int .i64 0)), some (63, false)⟩, ⟨some 67, .pick 63 (.const (.bool true)) (.tmp 66), none⟩, ⟨some 68, .mv (.tmp 67), none⟩, ⟨some 69, .fa 9 (.tmp 1), some (68, false)⟩, ⟨some 70, .ld 3 1 false (.tmp 69), some (68, false)⟩, ⟨some 71, .bin 3 .gtr (.tmp 70) (.const (.int .i64 40)), some (68, false)⟩, ⟨some 72, .pick 68 (.const (.bool true)) (.tmp 71), none⟩, ⟨some 73, .mv (.tmp 72), none⟩, ⟨some 74, .fa 10 (.tmp 1), some (73, false)⟩, ⟨some 75, .ld 68 1 false (.tmp 74), some (73, false)⟩, ⟨some 76, .len (.tmp 75), some (73, false)⟩, ⟨some 77, .bin 3 .lss (.tmp 76) (.const (.int .i64 1)), some (73, false)⟩, ⟨some 78, .pick 73 (.const (.bool true)) (.tmp 77), none⟩]
def Xn106_15 : C := regL [2] none [⟨some 2, .mv (.const (.bool false)), none⟩]
def Xn106_14 : C := .seq Xn106_15 .ret
def Xn106_13 : C := .cond (.tmp 78) Xn106_14 .skip
def Xn106_11 : C := .seq Xn106_12 Xn106_13
def Xn106_19 : C := regL [1, 3] none [⟨some 3, .mv (.const (.int .i64 0)), none⟩]
def Xn106_22 : C := regL [1, 3, 4] none [⟨some 4, .mv (.const (.int .i64 0)), none⟩]
def Xn106_27 : C := regL [1, 3, 4, 83] none [⟨some 79, .mv (.tmp 4), none⟩, ⟨some 80, .fa 10 (.tmp 1), none⟩, ⟨some 81, .ld 68 1 false (.tmp 80), none⟩, ⟨some 82, .len (.tmp 81), none⟩, ⟨some 83, .bin 3 .lss (.tmp 79) (.tmp 82), none⟩]
def Xn106_28 : C := .cond (.tmp 83) .skip (.exit 0)
def Xn106_26 : C := .seq Xn106_27 Xn106_28
def Xn106_34 : C := regL [1, 3, 4, 5] none [⟨some 86, .fa 10 (.tmp 1), none⟩, ⟨some 87, .ld 68 1 false (.tmp 86), none⟩, ⟨some 88, .mv (.tmp 4), none⟩, ⟨some 89, .ia 3 (.tmp 87) (.tmp 88), none⟩, ⟨some 90, .ld 106 3 true (.tmp 89), none⟩, ⟨some 5, .alc 106 (.agg #[.int .i64 0, .int .i64 0, .int .i64 0]), none⟩, ⟨none, .st 106 3 (.tmp 5) (.tmp 90), none⟩]
def Xn106_37 : C := regL [1, 4, 5, 116] none [⟨some 91, .fa 0 (.tmp 5), none⟩, ⟨some 92, .ld 2 1 false (.tmp 91), none⟩, ⟨some 93, .mv (.tmp 3), none⟩, ⟨some 94, .fa 1 (.tmp 1), none⟩, ⟨some 95, .ld 2 1 false (.tmp 94), none⟩, ⟨some 96, .fa 4 (.tmp 1), none⟩, ⟨some 97, .ld 2 1 false (.tmp 96), none⟩, ⟨some 98, .bin 2 .add (.tmp 95) (.tmp 97), none⟩, ⟨some 99, .call 120 [.tmp 92, .tmp 93, .tmp 98], none⟩, ⟨some 100, .un .not (.tmp 99), none⟩, ⟨some 101, .mv (.tmp 100), none⟩, ⟨some 102, .fa 1 (.tmp 5), some (101, false)⟩, ⟨some 103, .ld 2 1 false (.tmp 102), some (101, false)⟩, ⟨some 104, .call 120 [.tmp 103, .const (.int .i64 1), .const (.int .i64 1048576)], some (101, false)⟩, ⟨some 105, .un .not (.tmp 104), some (101, false)⟩, ⟨some 106, .pick 101 (.const (.bool true)) (.tmp 105), none⟩, ⟨some 107, .mv (.tmp 106), none⟩, ⟨some 108, .fa 2 (.tmp 5), some (107, false)⟩, ⟨some 109, .ld 3 1 false (.tmp 108), some (107, false)⟩, ⟨some 110, .bin 3 .lss (.tmp 109) (.const (.int .i64 1)), some (107, false)⟩, ⟨some 111, .pick 107 (.const (.bool true)) (.tmp 110), none⟩, ⟨some 112, .mv (.tmp 111), none⟩, ⟨some 113, .fa 2 (.tmp 5), some (112, false)⟩, ⟨some 114, .ld 3 1 false (.tmp 113), some (112, false)⟩, ⟨some 115, .bin 3 .gtr (.tmp 114) (.const (.int .i64 16)), some (112, false)⟩, ⟨some 116, .pick 112 (.const (.bool true)) (.tmp 115), none⟩]
def Xn106_40 : C := regL [2] none [⟨some 2, .mv (.const (.bool false)), none⟩]
def Xn106_39 : C := .seq Xn106_40 .ret
def Xn106_38 : C := .cond (.tmp 116) Xn106_39 .skip
def Xn106_36 : C := .seq Xn106_37 Xn106_38
def Xn106_43 : C := regL [1, 3, 4] none [⟨some 117, .fa 0 (.tmp 5), none⟩, ⟨some 118, .ld 2 1 false (.tmp 117), none⟩, ⟨some 3, .mv (.tmp 118), none⟩]
def Xn106_35 : C := seqL [1, 4, 5] Xn106_36 Xn106_43
def Xn106_33 : C := .seq Xn106_34 Xn106_35
def Xn106_32 : C := .block 1 Xn106_33
def Xn106_44 : C := regL [1, 3, 4] none [⟨some 84, .mv (.tmp 4), none⟩, ⟨some 85, .bin 3 .add (.tmp 84) (.const (.int .i64 1)), none⟩, ⟨some 4, .mv (.tmp 85), none⟩]
def Xn106_31 : C := seqL [1, 3, 4] Xn106_32 Xn106_44
def Xn106_25 : C := seqL [1, 3, 4] Xn106_26 Xn106_31
/- carried: [3, 4] -/
def Xn106_24 : C := loopL [1, 3, 4] Xn106_25
def Xn106_23 : C := .block 0 Xn106_24
def Xn106_21 : C := .seq Xn106_22 Xn106_23
def Xn106_46 : C := regL [2] none [⟨some 2, .mv (.const (.bool true)), none⟩]
def Xn106_45 : C := .seq Xn106_46 .ret
def Xn106_20 : C := seqL [] Xn106_21 Xn106_45
def Xn106_18 : C := .seq Xn106_19 Xn106_20
def Xn106_10 : C := seqL [1] Xn106_11 Xn106_18
def Xn106_2 : C := seqL [1] Xn106_3 Xn106_10
def Xn106_0 : C := .seq Xn106_1 Xn106_2
theorem Xt106 : Text Try.prog 106 Xn106_0 119 1 [.t 2] := ⟨⟨Try.f106, [1], Try.func106, by kernel_rfl, by kernel_rfl, by kernel_rfl, by kernel_rfl⟩⟩
def Xn107_1 : C := regL [0, 2, 8, 9, 10] none [⟨some 8, .ld 25 1 false (.tmp 1), none⟩, ⟨some 9, .len (.tmp 8), none⟩, ⟨some 10, .mv (.const (.int .i64 0)), none⟩]
def Xn107_5 : C := regL [0, 2, 8, 9, 10, 11] none [⟨some 11, .bin 3 .lss (.tmp 10) (.tmp 9), none⟩]
def Xn107_7 : C := .cond (.tmp 11) .skip (.exit 0)
def Xn107_13 : C := regL [0, 2, 5, 8, 9, 10] none [⟨some 12, .ia 2 (.tmp 8) (.tmp 10), none⟩, ⟨some 13, .ld 35 2 true (.tmp 12), none⟩, ⟨some 5, .alc 35 (.agg #[.int .i64 0, .int .i64 0]), none⟩, ⟨none, .st 35 2 (.tmp 5) (.tmp 13), none⟩]
def Xn107_15 : C := regL [0, 2, 5, 8, 9, 10, 15, 16, 17] none [⟨some 14, .fa 1 (.tmp 2), none⟩, ⟨some 15, .ld 22 1 false (.tmp 14), none⟩, ⟨some 16, .len (.tmp 15), none⟩, ⟨some 17, .mv (.const (.int .i64 0)), none⟩]
def Xn107_19 : C := regL [0, 2, 5, 8, 9, 10, 15, 16, 17, 18] none [⟨some 18, .bin 3 .lss (.tmp 17) (.tmp 16), none⟩]
def Xn107_21 : C := .cond (.tmp 18) .skip (.exit 2)
def Xn107_27 : C := regL [0, 2, 5, 7, 8, 9, 10, 15, 16, 17] none [⟨some 19, .ia 1 (.tmp 15) (.tmp 17), none⟩, ⟨some 20, .ld 2 1 false (.tmp 19), none⟩, ⟨some 7, .mv (.tmp 20), none⟩]
def Xn107_29 : C := regL [0, 2, 5, 8, 9, 10, 15, 16, 17, 27] none [⟨some 21, .mv (.tmp 0), none⟩, ⟨some 22, .mv (.tmp 7), none⟩, ⟨some 23, .fa 0 (.tmp 5), none⟩, ⟨some 24, .ld 2 1 false (.tmp 23), none⟩, ⟨some 25, .bin 2 .add (.tmp 22) (.tmp 24), none⟩, ⟨some 26, .callv (.tmp 21) [.tmp 25], none⟩, ⟨some 27, .un .not (.tmp 26), none⟩]
def Xn107_30 : C := .cond (.tmp 27) .ret .skip
def Xn107_28 : C := .seq Xn107_29 Xn107_30
def Xn107_26 : C := .seq Xn107_27 Xn107_28
def Xn107_25 : C := .block 3 Xn107_26
def Xn107_33 : C := regL [0, 2, 5, 8, 9, 10, 15, 16, 17] none [⟨some 28, .bin 3 .add (.tmp 17) (.const (.int .i64 1)), none⟩, ⟨some 17, .mv (.tmp 28), none⟩]
def Xn107_24 : C := seqL [0, 2, 5, 8, 9, 10, 15, 16, 17] Xn107_25 Xn107_33
def Xn107_20 : C := seqL [0, 2, 5, 8, 9, 10, 15, 16, 17] Xn107_21 Xn107_24
def Xn107_18 : C := .seq Xn107_19 Xn107_20
/- carried: [17] -/
def Xn107_17 : C := loopL [0, 2, 5, 8, 9, 10, 15, 16, 17] Xn107_18
def Xn107_16 : C := .block 2 Xn107_17
def Xn107_14 : C := .seq Xn107_15 Xn107_16
def Xn107_12 : C := .seq Xn107_13 Xn107_14
def Xn107_11 : C := .block 1 Xn107_12
def Xn107_34 : C := regL [0, 2, 8, 9, 10] none [⟨some 29, .bin 3 .add (.tmp 10) (.const (.int .i64 1)), none⟩, ⟨some 10, .mv (.tmp 29), none⟩]
def Xn107_10 : C := seqL [0, 2, 8, 9, 10] Xn107_11 Xn107_34
def Xn107_6 : C := seqL [0, 2, 8, 9, 10] Xn107_7 Xn107_10
def Xn107_4 : C := .seq Xn107_5 Xn107_6
/- carried: [10] -/
def Xn107_3 : C := loopL [0, 2, 8, 9, 10] Xn107_4
def Xn107_2 : C := .block 0 Xn107_3
def Xn107_0 : C := .seq Xn107_1 Xn107_2
theorem Xt107 : Text Try.prog 107 Xn107_0 30 3 [] := ⟨⟨Try.f107, [], Try.func107, by kernel_rfl, by kernel_rfl, by kernel_rfl, by kernel_rfl⟩⟩
def Xn108_1 : C := regL [0] none [⟨some 2, .mv (.const (.int .i64 0)), none⟩]
def Xn108_3 : C := regL [2] none [⟨some 3, .mv (.tmp 0), none⟩, ⟨some 4, .call 121 [.tmp 3], none⟩, ⟨some 5, .bin 3 .sub (.const (.int .i64 64)) (.tmp 4), none⟩, ⟨some 2, .mv (.tmp 5), none⟩]
def Xn108_2 : C := .seq Xn108_3 .ret
def Xn108_0 : C := .seq Xn108_1 Xn108_2
theorem Xt108 : Text Try.prog 108 Xn108_0 6 1 [.t 2] := ⟨⟨Try.f108, [], Try.func108, by kernel_rfl, by kernel_rfl, by kernel_rfl, by kernel_rfl⟩⟩
/- carried: [11, 12] -/
def Xn112_1 : C := regL [0, 1] none [⟨some 4, .mv (.const (.int .i64 0)), none⟩]
def Xn112_4 : C := regL [0, 1, 7, 8] none [⟨some 6, .mv (.tmp 0), none⟩, ⟨some 7, .len (.tmp 6), none⟩, ⟨some 8, .mv (.const (.int .i64 0)), none⟩]
def Xn112_8 : C := regL [0, 1, 7, 8, 9] none [⟨some 9, .bin 3 .lss (.tmp 8) (.tmp 7), none⟩]
def Xn112_10 : C := .cond (.tmp 9) .skip (.exit 0)
def Xn112_16 : C := regL [0, 1, 5, 7, 8] none [⟨some 10, .mv (.tmp 8), none⟩, ⟨some 5, .mv (.tmp 10), none⟩]
def Xn112_18 : C := regL [0, 1, 5, 7, 8, 16] none [⟨some 11, .mv (.tmp 1), none⟩, ⟨some 12, .mv (.tmp 0), none⟩, ⟨some 13, .mv (.tmp 5), none⟩, ⟨some 14, .ia 11 (.tmp 12) (.tmp 13), none⟩, ⟨some 15, .ld 70 11 true (.tmp 14), none⟩, ⟨some 16, .callv (.tmp 11) [.tmp 15], none⟩]
def Xn112_21 : C := regL [4] none [⟨some 17, .mv (.tmp 5), none⟩, ⟨some 4, .mv (.tmp 17), none⟩]
def Xn112_20 : C := .seq Xn112_21 .ret
def Xn112_19 : C := .cond (.tmp 16) Xn112_20 .skip
def Xn112_17 : C := .seq Xn112_18 Xn112_19
def Xn112_15 : C := .seq Xn112_16 Xn112_17
def Xn112_14 : C := .block 1 Xn112_15
def Xn112_24 : C := regL [0, 1, 7, 8] none [⟨some 18, .bin 3 .add (.tmp 8) (.const (.int .i64 1)), none⟩, ⟨some 8, .mv (.tmp 18), none⟩]
def Xn112_13 : C := seqL [0, 1, 7, 8] Xn112_14 Xn112_24
def Xn112_9 : C := seqL [0, 1, 7, 8] Xn112_10 Xn112_13
def Xn112_7 : C := .seq Xn112_8 Xn112_9
/- carried: [8] -/
def Xn112_6 : C := loopL [0, 1, 7, 8] Xn112_7
def Xn112_5 : C := .block 0 Xn112_6
def Xn112_3 : C := .seq Xn112_4 Xn112_5
def Xn112_26 : C := regL [4] none [⟨some 4, .mv (.const (.int .i64 (-1))), none⟩]
def Xn112_25 : C := .seq Xn112_26 .ret
def Xn112_2 : C := seqL [] Xn112_3 Xn112_25
def Xn112_0 : C := .seq Xn112_1 Xn112_2
theorem Xt112 : Text Try.prog 112 Xn112_0 19 2 [.t 4] := ⟨⟨Try.f112, [], Try.func112, by kernel_rfl, by kernel_rfl, by kernel_rfl, by kernel_rfl⟩⟩
def Xn113_1 : C := regL [0, 1] none [⟨some 4, .mv (.const (.bool false)), none⟩]
def Xn113_3 : C := regL [4] none [⟨some 5, .mv (.tmp 0), none⟩, ⟨some 6, .mv (.tmp 1), none⟩, ⟨some 7, .call 123 [.tmp 5, .tmp 6], none⟩, ⟨some 8, .bin 3 .geq (.tmp 7) (.const (.int .i64 0)), none⟩, ⟨some 4, .mv (.tmp 8), none⟩]
def Xn113_2 : C := .seq Xn113_3 .ret
def Xn113_0 : C := .seq Xn113_1 Xn113_2
theorem Xt113 : Text Try.prog 113 Xn113_0 9 2 [.t 4] := ⟨⟨Try.f113, [], Try.func113, by kernel_rfl, by kernel_rfl, by kernel_rfl, by kernel_rfl⟩⟩
def Xn114_1 : C := regL [0] none [⟨some 2, .mv (.const (.bool false)), none⟩]
def Xn114_3 : C := regL [2] none [⟨some 3, .mv (.tmp 0), none⟩, ⟨some 4, .bin 21 .lss (.tmp 3) (.const (.int .i32 97)), none⟩, ⟨some 5, .mv (.tmp 4), none⟩, ⟨some 6, .mv (.tmp 0), some (5, false)⟩, ⟨some 7, .bin 21 .gtr (.tmp 6) (.const (.int .i32 122)), some (5, false)⟩, ⟨some 8, .pick 5 (.const (.bool true)) (.tmp 7), none⟩, ⟨some 9, .mv (.tmp 8), none⟩, ⟨some 10, .mv (.tmp 0), some (9, true)⟩, ⟨some 11, .bin 21 .lss (.tmp 10) (.const (.int .i32 48)), some (9, true)⟩, ⟨some 12, .mv (.tmp 11), some (9, true)⟩, ⟨some 13, .mv (.tmp 0), some (12, false)⟩, ⟨some 14, .bin 21 .gtr (.tmp 13) (.const (.int .i32 57)), some (12, false)⟩, ⟨some 15, .pick 12 (.const (.bool true)) (.tmp 14), some (9, true)⟩, ⟨some 16, .pick 9 (.tmp 15) (.const (.bool false)), none⟩, ⟨some 2, .mv (.tmp 16), none⟩]
def Xn114_2 : C := .seq Xn114_3 .ret
def Xn114_0 : C := .seq Xn114_1 Xn114_2
theorem Xt114 : Text Try.prog 114 Xn114_0 17 1 [.t 2] := ⟨⟨Try.f114, [], Try.func114, by kernel_rfl, by kernel_rfl, by kernel_rfl, by kernel_rfl⟩⟩
def Xn115_1 : C := regL [0, 1] none [⟨some 4, .mv (.const (.bool false)), none⟩]
def Xn115_3 : C := regL [4] none [⟨some 5, .mv (.tmp 0), none⟩, ⟨some 6, .mv (.tmp 1), none⟩, ⟨some 7, .call 124 [.tmp 5, .tmp 6], none⟩, ⟨some 8, .bin 3 .geq (.tmp 7) (.const (.int .i64 0)), none⟩, ⟨some 4, .mv (.tmp 8), none⟩]
def Xn115_2 : C := .seq Xn115_3 .ret
def Xn115_0 : C := .seq Xn115_1 Xn115_2
theorem Xt115 : Text Try.prog 115 Xn115_0 9 2 [.t 4] := ⟨⟨Try.f115, [], Try.func115, by kernel_rfl, by kernel_rfl, by kernel_rfl, by kernel_rfl⟩⟩
def Xn116_1 : C := regL [0] none [⟨some 2, .mv (.const (.bool false)), none⟩]
def Xn116_3 : C := regL [2] none [⟨some 3, .mv (.tmp 0), none⟩, ⟨some 4, .call 117 [.tmp 3, .const (.int .i64 0), .const (.int .i64 131072)], none⟩, ⟨some 5, .un .not (.tmp 4), none⟩, ⟨some 2, .mv (.tmp 5), none⟩]
def Xn116_2 : C := .seq Xn116_3 .ret
def Xn116_0 : C := .seq Xn116_1 Xn116_2
theorem Xt116 : Text Try.prog 116 Xn116_0 6 1 [.t 2] := ⟨⟨Try.f116, [], Try.func116, by kernel_rfl, by kernel_rfl, by kernel_rfl, by kernel_rfl⟩⟩
def Xn117_1 : C := regL [0, 1, 2] none [⟨some 6, .mv (.const (.bool false)), none⟩]
def Xn117_3 : C := regL [6] none [⟨some 7, .mv (.tmp 1), none⟩, ⟨some 8, .mv (.tmp 0), none⟩, ⟨some 9, .bin 2 .leq (.tmp 7) (.tmp 8), none⟩, ⟨some 10, .mv (.tmp 9), none⟩, ⟨some 11, .mv (.tmp 0), some (10, true)⟩, ⟨some 12, .mv (.tmp 2), some (10, true)⟩, ⟨some 13, .bin 2 .leq (.tmp 11) (.tmp 12), some (10, true)⟩, ⟨some 14, .pick 10 (.tmp 13) (.const (.bool false)), none⟩, ⟨some 6, .mv (.tmp 14), none⟩]
def Xn117_2 : C := .seq Xn117_3 .ret
def Xn117_0 : C := .seq Xn117_1 Xn117_2
theorem Xt117 : Text Try.prog 117 Xn117_0 15 3 [.t 6] := ⟨⟨Try.f117, [], Try.func117, by kernel_rfl, by kernel_rfl, by kernel_rfl, by kernel_rfl⟩⟩
def Xn118_1 : C := regL [0, 1, 2, 3, 8] none [⟨some 10, .mv (.tmp 1), none⟩, ⟨some 11, .bin 3 .add (.tmp 10) (.const (.int .i64 1)), none⟩, ⟨some 8, .mv (.tmp 11), none⟩]
def Xn118_6 : C := regL [0, 1, 2, 3, 8, 14] none [⟨some 12, .mv (.tmp 8), none⟩, ⟨some 13, .mv (.tmp 2), none⟩, ⟨some 14, .bin 3 .lss (.tmp 12) (.tmp 13), none⟩]
def Xn118_7 : C := .cond (.tmp 14) .skip (.exit 0)
def Xn118_5 : C := .seq Xn118_6 Xn118_7
def Xn118_13 : C := regL [0, 1, 2, 3, 8, 9] none [⟨some 17, .mv (.tmp 8), none⟩, ⟨some 9, .mv (.tmp 17), none⟩]
def Xn118_18 : C := regL [0, 1, 2, 3, 8, 9, 34] (some [0, 0, 3, 7, 15, 15, 15, 111, 239, 15, 15, 1039, 3599, 7695, 16383, 32767, 65535]) [⟨some 18, .mv (.tmp 9), none⟩, ⟨some 19, .mv (.tmp 1), none⟩, ⟨some 20, .bin 3 .gtr (.tmp 18) (.tmp 19), none⟩, ⟨some 21, .mv (.tmp 20), none⟩, ⟨some 22, .mv (.tmp 3), some (21, true)⟩, ⟨some 23, .mv (.tmp 0), some (21, true)⟩, ⟨some 24, .mv (.tmp 9), some (21, true)⟩, ⟨some 25, .ia 2 (.tmp 23) (.tmp 24), some (21, true)⟩, ⟨some 26, .ld 35 2 true (.tmp 25), some (21, true)⟩, ⟨some 27, .mv (.tmp 0), some (21, true)⟩, ⟨some 28, .mv (.tmp 9), some (21, true)⟩, ⟨some 29, .bin 3 .sub (.tmp 28) (.const (.int .i64 1)), some (21, true)⟩, ⟨some 30, .ia 2 (.tmp 27) (.tmp 29), some (21, true)⟩, ⟨some 31, .ld 35 2 true (.tmp 30), some (21, true)⟩, ⟨some 32, .callv (.tmp 22) [.tmp 26, .tmp 31], some (21, true)⟩, ⟨some 33, .bin 3 .lss (.tmp 32) (.const (.int .i64 0)), some (21, true)⟩, ⟨some 34, .pick 21 (.tmp 33) (.const (.bool false)), none⟩]
def Xn118_19 : C := .cond (.tmp 34) .skip (.exit 2)
def Xn118_17 : C := .seq Xn118_18 Xn118_19
def Xn118_24 : C := regL [0, 1, 2, 3, 8, 9] (some [0, 0, 0, 0, 8, 0, 0, 64, 224, 480, 0, 0, 3072, 7168, 16355, 32739, 65535, 131071]) [⟨some 37, .mv (.tmp 0), none⟩, ⟨some 38, .mv (.tmp 9), none⟩, ⟨some 39, .mv (.tmp 0), none⟩, ⟨some 40, .mv (.tmp 9), none⟩, ⟨some 41, .bin 3 .sub (.tmp 40) (.const (.int .i64 1)), none⟩, ⟨some 42, .mv (.tmp 0), none⟩, ⟨some 43, .mv (.tmp 9), none⟩, ⟨some 44, .bin 3 .sub (.tmp 43) (.const (.int .i64 1)), none⟩, ⟨some 45, .ia 2 (.tmp 42) (.tmp 44), none⟩, ⟨some 46, .ld 35 2 true (.tmp 45), none⟩, ⟨some 47, .mv (.tmp 0), none⟩, ⟨some 48, .mv (.tmp 9), none⟩, ⟨some 49, .ia 2 (.tmp 47) (.tmp 48), none⟩, ⟨some 50, .ld 35 2 true (.tmp 49), none⟩, ⟨some 51, .ia 2 (.tmp 37) (.tmp 38), none⟩, ⟨none, .st 35 2 (.tmp 51) (.tmp 46), none⟩, ⟨some 52, .ia 2 (.tmp 39) (.tmp 41), none⟩, ⟨none, .st 35 2 (.tmp 52) (.tmp 50), none⟩]
def Xn118_23 : C := .block 3 Xn118_24
def Xn118_25 : C := regL [0, 1, 2, 3, 8, 9] none [⟨some 35, .mv (.tmp 9), none⟩, ⟨some 36, .bin 3 .sub (.tmp 35) (.const (.int .i64 1)), none⟩, ⟨some 9, .mv (.tmp 36), none⟩]
def Xn118_22 : C := seqL [0, 1, 2, 3, 8, 9] Xn118_23 Xn118_25
def Xn118_16 : C := seqL [0, 1, 2, 3, 8, 9] Xn118_17 Xn118_22
/- carried: [9] -/
def Xn118_15 : C := loopL [0, 1, 2, 3, 8, 9] Xn118_16
def Xn118_14 : C := .block 2 Xn118_15
def Xn118_12 : C := .seq Xn118_13 Xn118_14
def Xn118_11 : C := .block 1 Xn118_12
def Xn118_26 : C := regL [0, 1, 2, 3, 8] none [⟨some 15, .mv (.tmp 8), none⟩, ⟨some 16, .bin 3 .add (.tmp 15) (.const (.int .i64 1)), none⟩, ⟨some 8, .mv (.tmp 16), none⟩]
def Xn118_10 : C := seqL [0, 1, 2, 3, 8] Xn118_11 Xn118_26
def Xn118_4 : C := seqL [0, 1, 2, 3, 8] Xn118_5 Xn118_10
/- carried: [8] -/
def Xn118_3 : C := loopL [0, 1, 2, 3, 8] Xn118_4
def Xn118_2 : C := .block 0 Xn118_3
def Xn118_0 : C := .seq Xn118_1 Xn118_2
theorem Xt118 : Text Try.prog 118 Xn118_0 53 4 [] := ⟨⟨Try.f118, [], Try.func118, by kernel_rfl, by kernel_rfl, by kernel_rfl, by kernel_rfl⟩⟩
def Xn119_2 : C := regL [0, 1, 2, 3, 4, 28] none [⟨some 25, .mv (.tmp 2), none⟩, ⟨some 26, .mv (.tmp 1), none⟩, ⟨some 27, .bin 3 .sub (.tmp 25) (.tmp 26), none⟩, ⟨some 28, .bin 3 .eql (.tmp 27) (.const (.int .i64 1)), none⟩]
def Xn119_5 : C := regL [0, 1, 3, 4, 10] none [⟨some 29, .mv (.tmp 2), none⟩, ⟨some 10, .mv (.tmp 29), none⟩]
def Xn119_7 : C := regL [0, 1, 4, 10, 11] none [⟨some 30, .mv (.tmp 3), none⟩, ⟨some 11, .mv (.tmp 30), none⟩]
def Xn119_13 : C := regL [0, 1, 4, 10, 11, 33] none [⟨some 31, .mv (.tmp 10), none⟩, ⟨some 32, .mv (.tmp 11), none⟩, ⟨some 33, .bin 3 .lss (.tmp 31) (.tmp 32), none⟩]
def Xn119_14 : C := .cond (.tmp 33) .skip (.exit 0)
def Xn119_12 : C := .seq Xn119_13 Xn119_14
def Xn119_19 : C := regL [0, 1, 4, 10, 11, 12] none [⟨some 34, .mv (.tmp 10), none⟩, ⟨some 35, .mv (.tmp 11), none⟩, ⟨some 36, .bin 3 .add (.tmp 34) (.tmp 35), none⟩, ⟨some 37, .cvt .u64 (.tmp 36), none⟩, ⟨some 38, .bin 121 .shr (.tmp 37) (.const (.int .u64 1)), none⟩, ⟨some 39, .cvt .i64 (.tmp 38), none⟩, ⟨some 12, .mv (.tmp 39), none⟩]
def Xn119_21 : C := regL [0, 1, 4, 10, 11, 12, 50] (some [0, 0, 0, 6, 14, 0, 0, 96, 224, 511, 1023]) [⟨some 40, .mv (.tmp 4), none⟩, ⟨some 41, .mv (.tmp 0), none⟩, ⟨some 42, .mv (.tmp 12), none⟩, ⟨some 43, .ia 2 (.tmp 41) (.tmp 42), none⟩, ⟨some 44, .ld 35 2 true (.tmp 43), none⟩, ⟨some 45, .mv (.tmp 0), none⟩, ⟨some 46, .mv (.tmp 1), none⟩, ⟨some 47, .ia 2 (.tmp 45) (.tmp 46), none⟩, ⟨some 48, .ld 35 2 true (.tmp 47), none⟩, ⟨some 49, .callv (.tmp 40) [.tmp 44, .tmp 48], none⟩, ⟨some 50, .bin 3 .lss (.tmp 49) (.const (.int .i64 0)), none⟩]
def Xn119_23 : C := regL [0, 1, 4, 10, 11] none [⟨some 51, .mv (.tmp 12), none⟩, ⟨some 52, .bin 3 .add (.tmp 51) (.const (.int .i64 1)), none⟩, ⟨some 10, .mv (.tmp 52), none⟩]
def Xn119_24 : C := regL [0, 1, 4, 10, 11] none [⟨some 53, .mv (.tmp 12), none⟩, ⟨some 11, .mv (.tmp 53), none⟩]
def Xn119_22 : C := .cond (.tmp 50) Xn119_23 Xn119_24
def Xn119_20 : C := .seq Xn119_21 Xn119_22
def Xn119_18 : C := .seq Xn119_19 Xn119_20
def Xn119_17 : C := .block 1 Xn119_18
def Xn119_11 : C := seqL [0, 1, 4, 10, 11] Xn119_12 Xn119_17
/- carried: [10, 11] -/
def Xn119_10 : C := loopL [0, 1, 4, 10, 11] Xn119_11
def Xn119_9 : C := .block 0 Xn119_10
def Xn119_27 : C := regL [0, 10, 13] none [⟨some 54, .mv (.tmp 1), none⟩, ⟨some 13, .mv (.tmp 54), none⟩]
def Xn119_32 : C := regL [0, 10, 13, 58] none [⟨some 55, .mv (.tmp 13), none⟩, ⟨some 56, .mv (.tmp 10), none⟩, ⟨some 57, .bin 3 .sub (.tmp 56) (.const (.int .i64 1)), none⟩, ⟨some 58, .bin 3 .lss (.tmp 55) (.tmp 57), none⟩]
def Xn119_33 : C := .cond (.tmp 58) .skip (.exit 2)
def Xn119_31 : C := .seq Xn119_32 Xn119_33
def Xn119_38 : C := regL [0, 10, 13] (some [0, 0, 0, 0, 8, 0, 0, 64, 224, 480, 0, 0, 3072, 7168, 16355, 32739, 65535, 131071]) [⟨some 61, .mv (.tmp 0), none⟩, ⟨some 62, .mv (.tmp 13), none⟩, ⟨some 63, .mv (.tmp 0), none⟩, ⟨some 64, .mv (.tmp 13), none⟩, ⟨some 65, .bin 3 .add (.tmp 64) (.const (.int .i64 1)), none⟩, ⟨some 66, .mv (.tmp 0), none⟩, ⟨some 67, .mv (.tmp 13), none⟩, ⟨some 68, .bin 3 .add (.tmp 67) (.const (.int .i64 1)), none⟩, ⟨some 69, .ia 2 (.tmp 66) (.tmp 68), none⟩, ⟨some 70, .ld 35 2 true (.tmp 69), none⟩, ⟨some 71, .mv (.tmp 0), none⟩, ⟨some 72, .mv (.tmp 13), none⟩, ⟨some 73, .ia 2 (.tmp 71) (.tmp 72), none⟩, ⟨some 74, .ld 35 2 true (.tmp 73), none⟩, ⟨some 75, .ia 2 (.tmp 61) (.tmp 62), none⟩, ⟨none, .st 35 2 (.tmp 75) (.tmp 70), none⟩, ⟨some 76, .ia 2 (.tmp 63) (.tmp 65), none⟩, ⟨none, .st 35 2 (.tmp 76) (.tmp 74), none⟩]
def Xn119_37 : C := .block 3 Xn119_38
def Xn119_39 : C := regL [0, 10, 13] none [⟨some 59, .mv (.tmp 13), none⟩, ⟨some 60, .bin 3 .add (.tmp 59) (.const (.int .i64 1)), none⟩, ⟨some 13, .mv (.tmp 60), none⟩]
def Xn119_36 : C := seqL [0, 10, 13] Xn119_37 Xn119_39
def Xn119_30 : C := seqL [0, 10, 13] Xn119_31 Xn119_36
/- carried: [13] -/
def Xn119_29 : C := loopL [0, 10, 13] Xn119_30
def Xn119_28 : C := .block 2 Xn119_29
def Xn119_26 : C := .seq Xn119_27 Xn119_28
def Xn119_25 : C := seqL [] Xn119_26 .ret
def Xn119_8 : C := seqL [0, 1, 10] Xn119_9 Xn119_25
def Xn119_6 : C := .seq Xn119_7 Xn119_8
def Xn119_4 : C := .seq Xn119_5 Xn119_6
def Xn119_3 : C := .cond (.tmp 28) Xn119_4 .skip
def Xn119_1 : C := .seq Xn119_2 Xn119_3
def Xn119_44 : C := regL [0, 1, 2, 3, 4, 80] none [⟨some 77, .mv (.tmp 3), none⟩, ⟨some 78, .mv (.tmp 2), none⟩, ⟨some 79, .bin 3 .sub (.tmp 77) (.tmp 78), none⟩, ⟨some 80, .bin 3 .eql (.tmp 79) (.const (.int .i64 1)), none⟩]
def Xn119_47 : C := regL [0, 2, 4, 14] none [⟨some 81, .mv (.tmp 1), none⟩, ⟨some 14, .mv (.tmp 81), none⟩]
def Xn119_49 : C := regL [0, 2, 4, 14, 15] none [⟨some 82, .mv (.tmp 2), none⟩, ⟨some 15, .mv (.tmp 82), none⟩]
def Xn119_55 : C := regL [0, 2, 4, 14, 15, 85] none [⟨some 83, .mv (.tmp 14), none⟩, ⟨some 84, .mv (.tmp 15), none⟩, ⟨some 85, .bin 3 .lss (.tmp 83) (.tmp 84), none⟩]
def Xn119_56 : C := .cond (.tmp 85) .skip (.exit 4)
def Xn119_54 : C := .seq Xn119_55 Xn119_56
def Xn119_61 : C := regL [0, 2, 4, 14, 15, 16] none [⟨some 86, .mv (.tmp 14), none⟩, ⟨some 87, .mv (.tmp 15), none⟩, ⟨some 88, .bin 3 .add (.tmp 86) (.tmp 87), none⟩, ⟨some 89, .cvt .u64 (.tmp 88), none⟩, ⟨some 90, .bin 121 .shr (.tmp 89) (.const (.int .u64 1)), none⟩, ⟨some 91, .cvt .i64 (.tmp 90), none⟩, ⟨some 16, .mv (.tmp 91), none⟩]
def Xn119_63 : C := regL [0, 2, 4, 14, 15, 16, 103] (some [0, 0, 0, 6, 14, 0, 0, 96, 224, 511, 1023, 2047]) [⟨some 92, .mv (.tmp 4), none⟩, ⟨some 93, .mv (.tmp 0), none⟩, ⟨some 94, .mv (.tmp 2), none⟩, ⟨some 95, .ia 2 (.tmp 93) (.tmp 94), none⟩, ⟨some 96, .ld 35 2 true (.tmp 95), none⟩, ⟨some 97, .mv (.tmp 0), none⟩, ⟨some 98, .mv (.tmp 16), none⟩, ⟨some 99, .ia 2 (.tmp 97) (.tmp 98), none⟩, ⟨some 100, .ld 35 2 true (.tmp 99), none⟩, ⟨some 101, .callv (.tmp 92) [.tmp 96, .tmp 100], none⟩, ⟨some 102, .bin 3 .lss (.tmp 101) (.const (.int .i64 0)), none⟩, ⟨some 103, .un .not (.tmp 102), none⟩]
def Xn119_65 : C := regL [0, 2, 4, 14, 15] none [⟨some 104, .mv (.tmp 16), none⟩, ⟨some 105, .bin 3 .add (.tmp 104) (.const (.int .i64 1)), none⟩, ⟨some 14, .mv (.tmp 105), none⟩]
def Xn119_66 : C := regL [0, 2, 4, 14, 15] none [⟨some 106, .mv (.tmp 16), none⟩, ⟨some 15, .mv (.tmp 106), none⟩]
def Xn119_64 : C := .cond (.tmp 103) Xn119_65 Xn119_66
def Xn119_62 : C := .seq Xn119_63 Xn119_64
def Xn119_60 : C := .seq Xn119_61 Xn119_62
def Xn119_59 : C := .block 5 Xn119_60
def Xn119_53 : C := seqL [0, 2, 4, 14, 15] Xn119_54 Xn119_59
/- carried: [14, 15] -/
def Xn119_52 : C := loopL [0, 2, 4, 14, 15] Xn119_53
def Xn119_51 : C := .block 4 Xn119_52
def Xn119_69 : C := regL [0, 14, 17] none [⟨some 107, .mv (.tmp 2), none⟩, ⟨some 17, .mv (.tmp 107), none⟩]
def Xn119_74 : C := regL [0, 14, 17, 110] none [⟨some 108, .mv (.tmp 17), none⟩, ⟨some 109, .mv (.tmp 14), none⟩, ⟨some 110, .bin 3 .gtr (.tmp 108) (.tmp 109), none⟩]
def Xn119_75 : C := .cond (.tmp 110) .skip (.exit 6)
def Xn119_73 : C := .seq Xn119_74 Xn119_75
def Xn119_80 : C := regL [0, 14, 17] (some [0, 0, 0, 0, 8, 0, 0, 64, 224, 480, 0, 0, 3072, 7168, 16355, 32739, 65535, 131071]) [⟨some 113, .mv (.tmp 0), none⟩, ⟨some 114, .mv (.tmp 17), none⟩, ⟨some 115, .mv (.tmp 0), none⟩, ⟨some 116, .mv (.tmp 17), none⟩, ⟨some 117, .bin 3 .sub (.tmp 116) (.const (.int .i64 1)), none⟩, ⟨some 118, .mv (.tmp 0), none⟩, ⟨some 119, .mv (.tmp 17), none⟩, ⟨some 120, .bin 3 .sub (.tmp 119) (.const (.int .i64 1)), none⟩, ⟨some 121, .ia 2 (.tmp 118) (.tmp 120), none⟩, ⟨some 122, .ld 35 2 true (.tmp 121), none⟩, ⟨some 123, .mv (.tmp 0), none⟩, ⟨some 124, .mv (.tmp 17), none⟩, ⟨some 125, .ia 2 (.tmp 123) (.tmp 124), none⟩, ⟨some 126, .ld 35 2 true (.tmp 125), none⟩, ⟨some 127, .ia 2 (.tmp 113) (.tmp 114), none⟩, ⟨none, .st 35 2 (.tmp 127) (.tmp 122), none⟩, ⟨some 128, .ia 2 (.tmp 115) (.tmp 117), none⟩, ⟨none, .st 35 2 (.tmp 128) (.tmp 126), none⟩]
def Xn119_79 : C := .block 7 Xn119_80
def Xn119_81 : C := regL [0, 14, 17] none [⟨some 111, .mv (.tmp 17), none⟩, ⟨some 112, .bin 3 .sub (.tmp 111) (.const (.int .i64 1)), none⟩, ⟨some 17, .mv (.tmp 112), none⟩]
def Xn119_78 : C := seqL [0, 14, 17] Xn119_79 Xn119_81
def Xn119_72 : C := seqL [0, 14, 17] Xn119_73 Xn119_78
/- carried: [17] -/
def Xn119_71 : C := loopL [0, 14, 17] Xn119_72
def Xn119_70 : C := .block 6 Xn119_71
def Xn119_68 : C := .seq Xn119_69 Xn119_70
def Xn119_67 : C := seqL [] Xn119_68 .ret
def Xn119_50 : C := seqL [0, 2, 14] Xn119_51 Xn119_67
def Xn119_48 : C := .seq Xn119_49 Xn119_50
def Xn119_46 : C := .seq Xn119_47 Xn119_48
def Xn119_45 : C := .cond (.tmp 80) Xn119_46 .skip
def Xn119_43 : C := .seq Xn119_44 Xn119_45
def Xn119_85 : C := regL [0, 1, 2, 3, 4, 18] none [⟨some 129, .mv (.tmp 1), none⟩, ⟨some 130, .mv (.tmp 3), none⟩, ⟨some 131, .bin 3 .add (.tmp 129) (.tmp 130), none⟩, ⟨some 132, .cvt .u64 (.tmp 131), none⟩, ⟨some 133, .bin 121 .shr (.tmp 132) (.const (.int .u64 1)), none⟩, ⟨some 134, .cvt .i64 (.tmp 133), none⟩, ⟨some 18, .mv (.tmp 134), none⟩]
def Xn119_87 : C := regL [0, 1, 2, 3, 4, 18, 19] none [⟨some 135, .mv (.tmp 18), none⟩, ⟨some 136, .mv (.tmp 2), none⟩, ⟨some 137, .bin 3 .add (.tmp 135) (.tmp 136), none⟩, ⟨some 19, .mv (.tmp 137), none⟩]
def Xn119_89 : C := regL [0, 1, 2, 3, 4, 18, 19] none [⟨some 20, .mv (.const (.int .i64 0)), none⟩, ⟨some 21, .mv (.const (.int .i64 0)), none⟩]
def Xn119_92 : C := regL [0, 1, 2, 3, 4, 18, 19, 140] none [⟨some 138, .mv (.tmp 2), none⟩, ⟨some 139, .mv (.tmp 18), none⟩, ⟨some 140, .bin 3 .gtr (.tmp 138) (.tmp 139), none⟩]
def Xn119_95 : C := regL [0, 1, 2, 3, 4, 18, 19, 20] none [⟨some 141, .mv (.tmp 19), none⟩, ⟨some 142, .mv (.tmp 3), none⟩, ⟨some 143, .bin 3 .sub (.tmp 141) (.tmp 142), none⟩, ⟨some 20, .mv (.tmp 143), none⟩]
def Xn119_96 : C := regL [0, 1, 2, 3, 4, 18, 19, 20, 21] none [⟨some 144, .mv (.tmp 18), none⟩, ⟨some 21, .mv (.tmp 144), none⟩]
def Xn119_94 : C := .seq Xn119_95 Xn119_96
def Xn119_98 : C := regL [0, 1, 2, 3, 4, 18, 19, 20] none [⟨some 145, .mv (.tmp 1), none⟩, ⟨some 20, .mv (.tmp 145), none⟩]
def Xn119_99 : C := regL [0, 1, 2, 3, 4, 18, 19, 20, 21] none [⟨some 146, .mv (.tmp 2), none⟩, ⟨some 21, .mv (.tmp 146), none⟩]
def Xn119_97 : C := .seq Xn119_98 Xn119_99
def Xn119_93 : C := .cond (.tmp 140) Xn119_94 Xn119_97
def Xn119_91 : C := .seq Xn119_92 Xn119_93
def Xn119_101 : C := regL [0, 1, 2, 3, 4, 18, 19, 20, 21, 22] none [⟨some 147, .mv (.tmp 19), none⟩, ⟨some 148, .bin 3 .sub (.tmp 147) (.const (.int .i64 1)), none⟩, ⟨some 22, .mv (.tmp 148), none⟩]
def Xn119_107 : C := regL [0, 1, 2, 3, 4, 18, 19, 20, 21, 22, 151] none [⟨some 149, .mv (.tmp 20), none⟩, ⟨some 150, .mv (.tmp 21), none⟩, ⟨some 151, .bin 3 .lss (.tmp 149) (.tmp 150), none⟩]
def Xn119_108 : C := .cond (.tmp 151) .skip (.exit 8)
def Xn119_106 : C := .seq Xn119_107 Xn119_108
def Xn119_113 : C := regL [0, 1, 2, 3, 4, 18, 19, 20, 21, 22, 23] none [⟨some 152, .mv (.tmp 20), none⟩, ⟨some 153, .mv (.tmp 21), none⟩, ⟨some 154, .bin 3 .add (.tmp 152) (.tmp 153), none⟩, ⟨some 155, .cvt .u64 (.tmp 154), none⟩, ⟨some 156, .bin 121 .shr (.tmp 155) (.const (.int .u64 1)), none⟩, ⟨some 157, .cvt .i64 (.tmp 156), none⟩, ⟨some 23, .mv (.tmp 157), none⟩]
def Xn119_115 : C := regL [0, 1, 2, 3, 4, 18, 19, 20, 21, 22, 23, 171] (some [0, 0, 0, 0, 12, 30, 62, 0, 0, 384, 896, 2047, 4095, 8191]) [⟨some 158, .mv (.tmp 4), none⟩, ⟨some 159, .mv (.tmp 0), none⟩, ⟨some 160, .mv (.tmp 22), none⟩, ⟨some 161, .mv (.tmp 23), none⟩, ⟨some 162, .bin 3 .sub (.tmp 160) (.tmp 161), none⟩, ⟨some 163, .ia 2 (.tmp 159) (.tmp 162), none⟩, ⟨some 164, .ld 35 2 true (.tmp 163), none⟩, ⟨some 165, .mv (.tmp 0), none⟩, ⟨some 166, .mv (.tmp 23), none⟩, ⟨some 167, .ia 2 (.tmp 165) (.tmp 166), none⟩, ⟨some 168, .ld 35 2 true (.tmp 167), none⟩, ⟨some 169, .callv (.tmp 158) [.tmp 164, .tmp 168], none⟩, ⟨some 170, .bin 3 .lss (.tmp 169) (.const (.int .i64 0)), none⟩, ⟨some 171, .un .not (.tmp 170), none⟩]
def Xn119_117 : C := regL [0, 1, 2, 3, 4, 18, 19, 20, 21, 22] none [⟨some 172, .mv (.tmp 23), none⟩, ⟨some 173, .bin 3 .add (.tmp 172) (.const (.int .i64 1)), none⟩, ⟨some 20, .mv (.tmp 173), none⟩]
def Xn119_118 : C := regL [0, 1, 2, 3, 4, 18, 19, 20, 21, 22] none [⟨some 174, .mv (.tmp 23), none⟩, ⟨some 21, .mv (.tmp 174), none⟩]
def Xn119_116 : C := .cond (.tmp 171) Xn119_117 Xn119_118
def Xn119_114 : C := .seq Xn119_115 Xn119_116
def Xn119_112 : C := .seq Xn119_113 Xn119_114
def Xn119_111 : C := .block 9 Xn119_112
def Xn119_105 : C := seqL [0, 1, 2, 3, 4, 18, 19, 20, 21, 22] Xn119_106 Xn119_111
/- carried: [20, 21] -/
def Xn119_104 : C := loopL [0, 1, 2, 3, 4, 18, 19, 20, 21, 22] Xn119_105
def Xn119_103 : C := .block 8 Xn119_104
def Xn119_120 : C := regL [0, 1, 2, 3, 4, 18, 20, 24] none [⟨some 175, .mv (.tmp 19), none⟩, ⟨some 176, .mv (.tmp 20), none⟩, ⟨some 177, .bin 3 .sub (.tmp 175) (.tmp 176), none⟩, ⟨some 24, .mv (.tmp 177), none⟩]
def Xn119_123 : C := regL [0, 1, 2, 3, 4, 18, 20, 24, 185] none [⟨some 178, .mv (.tmp 20), none⟩, ⟨some 179, .mv (.tmp 2), none⟩, ⟨some 180, .bin 3 .lss (.tmp 178) (.tmp 179), none⟩, ⟨some 181, .mv (.tmp 180), none⟩, ⟨some 182, .mv (.tmp 2), some (181, true)⟩, ⟨some 183, .mv (.tmp 24), some (181, true)⟩, ⟨some 184, .bin 3 .lss (.tmp 182) (.tmp 183), some (181, true)⟩, ⟨some 185, .pick 181 (.tmp 184) (.const (.bool false)), none⟩]
def Xn119_125 : C := regL [0, 1, 3, 4, 18, 20, 24] none [⟨some 186, .mv (.tmp 0), none⟩, ⟨some 187, .mv (.tmp 20), none⟩, ⟨some 188, .mv (.tmp 2), none⟩, ⟨some 189, .mv (.tmp 24), none⟩, ⟨some 190, .mv (.tmp 4), none⟩, ⟨some 191, .call 125 [.tmp 186, .tmp 187, .tmp 188, .tmp 189, .tmp 190], none⟩]
def Xn119_124 : C := .cond (.tmp 185) Xn119_125 .skip
def Xn119_122 : C := .seq Xn119_123 Xn119_124
def Xn119_129 : C := regL [0, 1, 3, 4, 18, 20, 24, 199] none [⟨some 192, .mv (.tmp 1), none⟩, ⟨some 193, .mv (.tmp 20), none⟩, ⟨some 194, .bin 3 .lss (.tmp 192) (.tmp 193), none⟩, ⟨some 195, .mv (.tmp 194), none⟩, ⟨some 196, .mv (.tmp 20), some (195, true)⟩, ⟨some 197, .mv (.tmp 18), some (195, true)⟩, ⟨some 198, .bin 3 .lss (.tmp 196) (.tmp 197), some (195, true)⟩, ⟨some 199, .pick 195 (.tmp 198) (.const (.bool false)), none⟩]
def Xn119_131 : C := regL [0, 3, 4, 18, 24] none [⟨some 200, .mv (.tmp 0), none⟩, ⟨some 201, .mv (.tmp 1), none⟩, ⟨some 202, .mv (.tmp 20), none⟩, ⟨some 203, .mv (.tmp 18), none⟩, ⟨some 204, .mv (.tmp 4), none⟩, ⟨some 205, .call 119 [.tmp 200, .tmp 201, .tmp 202, .tmp 203, .tmp 204], none⟩]
def Xn119_130 : C := .cond (.tmp 199) Xn119_131 .skip
def Xn119_128 : C := .seq Xn119_129 Xn119_130
def Xn119_134 : C := regL [0, 3, 4, 18, 24, 213] none [⟨some 206, .mv (.tmp 18), none⟩, ⟨some 207, .mv (.tmp 24), none⟩, ⟨some 208, .bin 3 .lss (.tmp 206) (.tmp 207), none⟩, ⟨some 209, .mv (.tmp 208), none⟩, ⟨some 210, .mv (.tmp 24), some (209, true)⟩, ⟨some 211, .mv (.tmp 3), some (209, true)⟩, ⟨some 212, .bin 3 .lss (.tmp 210) (.tmp 211), some (209, true)⟩, ⟨some 213, .pick 209 (.tmp 212) (.const (.bool false)), none⟩]
def Xn119_136 : C := regL [] none [⟨some 214, .mv (.tmp 0), none⟩, ⟨some 215, .mv (.tmp 18), none⟩, ⟨some 216, .mv (.tmp 24), none⟩, ⟨some 217, .mv (.tmp 3), none⟩, ⟨some 218, .mv (.tmp 4), none⟩, ⟨some 219, .call 119 [.tmp 214, .tmp 215, .tmp 216, .tmp 217, .tmp 218], none⟩]
def Xn119_135 : C := .cond (.tmp 213) Xn119_136 .skip
def Xn119_133 : C := .seq Xn119_134 Xn119_135
def Xn119_127 : C := seqL [0, 3, 4, 18, 24] Xn119_128 Xn119_133
def Xn119_121 : C := seqL [0, 1, 3, 4, 18, 20, 24] Xn119_122 Xn119_127
def Xn119_119 : C := .seq Xn119_120 Xn119_121
def Xn119_102 : C := seqL [0, 1, 2, 3, 4, 18, 19, 20] Xn119_103 Xn119_119
def Xn119_100 : C := .seq Xn119_101 Xn119_102
def Xn119_90 : C := seqL [0, 1, 2, 3, 4, 18, 19, 20, 21] Xn119_91 Xn119_100
def Xn119_88 : C := .seq Xn119_89 Xn119_90
def Xn119_86 : C := .seq Xn119_87 Xn119_88
def Xn119_84 : C := .seq Xn119_85 Xn119_86
def Xn119_42 : C := seqL [0, 1, 2, 3, 4] Xn119_43 Xn119_84
def Xn119_0 : C := seqL [0, 1, 2, 3, 4] Xn119_1 Xn119_42
theorem Xt119 : Text Try.prog 119 Xn119_0 220 5 [] := ⟨⟨Try.f119, [], Try.func119, by kernel_rfl, by kernel_rfl, by kernel_rfl, by kernel_rfl⟩⟩
def Xn120_1 : C := regL [0, 1, 2] none [⟨some 6, .mv (.const (.bool false)), none⟩]
def Xn120_3 : C := regL [6] none [⟨some 7, .mv (.tmp 0), none⟩, ⟨some 8, .mv (.tmp 1), none⟩, ⟨some 9, .bin 2 .geq (.tmp 7) (.tmp 8), none⟩, ⟨some 10, .mv (.tmp 9), none⟩, ⟨some 11, .mv (.tmp 0), some (10, true)⟩, ⟨some 12, .mv (.tmp 2), some (10, true)⟩, ⟨some 13, .bin 2 .leq (.tmp 11) (.tmp 12), some (10, true)⟩, ⟨some 14, .pick 10 (.tmp 13) (.const (.bool false)), none⟩, ⟨some 6, .mv (.tmp 14), none⟩]
def Xn120_2 : C := .seq Xn120_3 .ret
def Xn120_0 : C := .seq Xn120_1 Xn120_2
theorem Xt120 : Text Try.prog 120 Xn120_0 15 3 [.t 6] := ⟨⟨Try.f120, [], Try.func120, by kernel_rfl, by kernel_rfl, by kernel_rfl, by kernel_rfl⟩⟩
def Xn121_1 : C := regL [0, 2] none [⟨some 2, .mv (.const (.int .i64 0)), none⟩]
def Xn121_4 : C := regL [0, 2, 4] none [⟨some 3, .mv (.tmp 0), none⟩, ⟨some 4, .bin 117 .geq (.tmp 3) (.const (.int .u64 4294967296)), none⟩]
def Xn121_7 : C := regL [0] none [⟨some 5, .mv (.tmp 0), none⟩, ⟨some 6, .bin 117 .shr (.tmp 5) (.const (.int .u64 32)), none⟩, ⟨some 0, .mv (.tmp 6), none⟩]
def Xn121_8 : C := regL [0, 2] none [⟨some 2, .mv (.const (.int .i64 32)), none⟩]
def Xn121_6 : C := .seq Xn121_7 Xn121_8
def Xn121_5 : C := .cond (.tmp 4) Xn121_6 .skip
def Xn121_3 : C := .seq Xn121_4 Xn121_5
def Xn121_12 : C := regL [0, 2, 8] none [⟨some 7, .mv (.tmp 0), none⟩, ⟨some 8, .bin 117 .geq (.tmp 7) (.const (.int .u64 65536)), none⟩]
def Xn121_15 : C := regL [0, 2] none [⟨some 9, .mv (.tmp 0), none⟩, ⟨some 10, .bin 117 .shr (.tmp 9) (.const (.int .u64 16)), none⟩, ⟨some 0, .mv (.tmp 10), none⟩]
def Xn121_16 : C := regL [0, 2] none [⟨some 11, .mv (.tmp 2), none⟩, ⟨some 12, .bin 3 .add (.tmp 11) (.const (.int .i64 16)), none⟩, ⟨some 2, .mv (.tmp 12), none⟩]
def Xn121_14 : C := .seq Xn121_15 Xn121_16
def Xn121_13 : C := .cond (.tmp 8) Xn121_14 .skip
def Xn121_11 : C := .seq Xn121_12 Xn121_13
def Xn121_20 : C := regL [0, 2, 14] none [⟨some 13, .mv (.tmp 0), none⟩, ⟨some 14, .bin 117 .geq (.tmp 13) (.const (.int .u64 256)), none⟩]
def Xn121_23 : C := regL [0, 2] none [⟨some 15, .mv (.tmp 0), none⟩, ⟨some 16, .bin 117 .shr (.tmp 15) (.const (.int .u64 8)), none⟩, ⟨some 0, .mv (.tmp 16), none⟩]
def Xn121_24 : C := regL [0, 2] none [⟨some 17, .mv (.tmp 2), none⟩, ⟨some 18, .bin 3 .add (.tmp 17) (.const (.int .i64 8)), none⟩, ⟨some 2, .mv (.tmp 18), none⟩]
def Xn121_22 : C := .seq Xn121_23 Xn121_24
def Xn121_21 : C := .cond (.tmp 14) Xn121_22 .skip
def Xn121_19 : C := .seq Xn121_20 Xn121_21
def Xn121_27 : C := regL [2] none [⟨some 19, .mv (.tmp 2), none⟩, ⟨some 20, .mv (.tmp 0), none⟩, ⟨some 21, .cvt .u8 (.tmp 20), none⟩, ⟨some 22, .sidx (.const (.string ⟨#[0, 1, 2, 2, 3, 3, 3, 3, 4, 4, 4, 4, 4, 4, 4, 4, 5, 5, 5, 5, 5, 5, 5, 5, 5, 5, 5, 5, 5, 5, 5, 5, 6, 6, 6, 6, 6, 6, 6, 6, 6, 6, 6, 6, 6, 6, 6, 6, 6, 6, 6, 6, 6, 6, 6, 6, 6, 6, 6, 6, 6, 6, 6, 6, 7, 7, 7, 7, 7, 7, 7, 7, 7, 7, 7, 7, 7, 7, 7, 7, 7, 7, 7, 7, 7, 7, 7, 7, 7, 7, 7, 7, 7, 7, 7, 7, 7, 7, 7, 7, 7, 7, 7, 7, 7, 7, 7, 7, 7, 7, 7, 7, 7, 7, 7, 7, 7, 7, 7, 7, 7, 7, 7, 7, 7, 7, 7, 7, 8, 8, 8, 8, 8, 8, 8, 8, 8, 8, 8, 8, 8, 8, 8, 8, 8, 8, 8, 8, 8, 8, 8, 8, 8, 8, 8, 8, 8, 8, 8, 8, 8, 8, 8, 8, 8, 8, 8, 8, 8, 8, 8, 8, 8, 8, 8, 8, 8, 8, 8, 8, 8, 8, 8, 8, 8, 8, 8, 8, 8, 8, 8, 8, 8, 8, 8, 8, 8, 8, 8, 8, 8, 8, 8, 8, 8, 8, 8, 8, 8, 8, 8, 8, 8, 8, 8, 8, 8, 8, 8, 8, 8, 8, 8, 8, 8, 8, 8, 8, 8, 8, 8, 8, 8, 8, 8, 8, 8, 8, 8, 8, 8, 8, 8, 8, 8, 8, 8, 8, 8, 8, 8, 8, 8, 8, 8, 8]⟩)) (.tmp 21), none⟩, ⟨some 23, .cvt .i64 (.tmp 22), none⟩, ⟨some 24, .bin 3 .add (.tmp 19) (.tmp 23), none⟩, ⟨some 2, .mv (.tmp 24), none⟩]
def Xn121_26 : C := .seq Xn121_27 .ret
def Xn121_18 : C := seqL [0, 2] Xn121_19 Xn121_26
def Xn121_10 : C := seqL [0, 2] Xn121_11 Xn121_18
def Xn121_2 : C := seqL [0, 2] Xn121_3 Xn121_10
def Xn121_0 : C := .seq Xn121_1 Xn121_2
theorem Xt121 : Text Try.prog 121 Xn121_0 25 1 [.t 2] := ⟨⟨Try.f121, [], Try.func121, by kernel_rfl, by kernel_rfl, by kernel_rfl, by kernel_rfl⟩⟩
def Xn123_1 : C := regL [0, 1] none [⟨some 4, .mv (.const (.int .i64 0)), none⟩]
def Xn123_3 : C := regL [4] none [⟨some 5, .mv (.tmp 0), none⟩, ⟨some 6, .mv (.tmp 1), none⟩, ⟨some 7, .call 126 [.tmp 5, .tmp 6, .const (.bool true)], none⟩, ⟨some 4, .mv (.tmp 7), none⟩]
def Xn123_2 : C := .seq Xn123_3 .ret
def Xn123_0 : C := .seq Xn123_1 Xn123_2
theorem Xt123 : Text Try.prog 123 Xn123_0 8 2 [.t 4] := ⟨⟨Try.f123, [], Try.func123, by kernel_rfl, by kernel_rfl, by kernel_rfl, by kernel_rfl⟩⟩
def Xn124_1 : C := regL [0, 1] none [⟨some 4, .mv (.const (.int .i64 0)), none⟩]
def Xn124_4 : C := regL [0, 1, 7, 8] none [⟨some 6, .mv (.tmp 0), none⟩, ⟨some 7, .len (.tmp 6), none⟩, ⟨some 8, .mv (.const (.int .i64 0)), none⟩]
def Xn124_8 : C := regL [0, 1, 7, 8, 9] none [⟨some 9, .bin 3 .lss (.tmp 8) (.tmp 7), none⟩]
def Xn124_10 : C := .cond (.tmp 9) .skip (.exit 0)
def Xn124_16 : C := regL [0, 1, 5, 7, 8] none [⟨some 10, .mv (.tmp 8), none⟩, ⟨some 5, .mv (.tmp 10), none⟩]
def Xn124_18 : C := regL [0, 1, 5, 7, 8, 16] none [⟨some 11, .mv (.tmp 1), none⟩, ⟨some 12, .mv (.tmp 0), none⟩, ⟨some 13, .mv (.tmp 5), none⟩, ⟨some 14, .ia 1 (.tmp 12) (.tmp 13), none⟩, ⟨some 15, .ld 2 1 false (.tmp 14), none⟩, ⟨some 16, .callv (.tmp 11) [.tmp 15], none⟩]
def Xn124_21 : C := regL [4] none [⟨some 17, .mv (.tmp 5), none⟩, ⟨some 4, .mv (.tmp 17), none⟩]
def Xn124_20 : C := .seq Xn124_21 .ret
def Xn124_19 : C := .cond (.tmp 16) Xn124_20 .skip
def Xn124_17 : C := .seq Xn124_18 Xn124_19
def Xn124_15 : C := .seq Xn124_16 Xn124_17
def Xn124_14 : C := .block 1 Xn124_15
def Xn124_24 : C := regL [0, 1, 7, 8] none [⟨some 18, .bin 3 .add (.tmp 8) (.const (.int .i64 1)), none⟩, ⟨some 8, .mv (.tmp 18), none⟩]
def Xn124_13 : C := seqL [0, 1, 7, 8] Xn124_14 Xn124_24
def Xn124_9 : C := seqL [0, 1, 7, 8] Xn124_10 Xn124_13
def Xn124_7 : C := .seq Xn124_8 Xn124_9
/- carried: [8] -/
def Xn124_6 : C := loopL [0, 1, 7, 8] Xn124_7
def Xn124_5 : C := .block 0 Xn124_6
def Xn124_3 : C := .seq Xn124_4 Xn124_5
def Xn124_26 : C := regL [4] none [⟨some 4, .mv (.const (.int .i64 (-1))), none⟩]
def Xn124_25 : C := .seq Xn124_26 .ret
def Xn124_2 : C := seqL [] Xn124_3 Xn124_25
def Xn124_0 : C := .seq Xn124_1 Xn124_2
theorem Xt124 : Text Try.prog 124 Xn124_0 19 2 [.t 4] := ⟨⟨Try.f124, [], Try.func124, by kernel_rfl, by kernel_rfl, by kernel_rfl, by kernel_rfl⟩⟩
def Xn125_1 : C := regL [0, 2, 3, 4, 10] none [⟨some 12, .mv (.tmp 2), none⟩, ⟨some 13, .mv (.tmp 1), none⟩, ⟨some 14, .bin 3 .sub (.tmp 12) (.tmp 13), none⟩, ⟨some 10, .mv (.tmp 14), none⟩]
def Xn125_3 : C := regL [0, 2, 4, 10, 11] none [⟨some 15, .mv (.tmp 3), none⟩, ⟨some 16, .mv (.tmp 2), none⟩, ⟨some 17, .bin 3 .sub (.tmp 15) (.tmp 16), none⟩, ⟨some 11, .mv (.tmp 17), none⟩]
def Xn125_9 : C := regL [0, 2, 4, 10, 11, 20] none [⟨some 18, .mv (.tmp 10), none⟩, ⟨some 19, .mv (.tmp 11), none⟩, ⟨some 20, .bin 3 .neq (.tmp 18) (.tmp 19), none⟩]
def Xn125_10 : C := .cond (.tmp 20) .skip (.exit 0)
def Xn125_8 : C := .seq Xn125_9 Xn125_10
def Xn125_15 : C := regL [0, 2, 4, 10, 11, 23] none [⟨some 21, .mv (.tmp 10), none⟩, ⟨some 22, .mv (.tmp 11), none⟩, ⟨some 23, .bin 3 .gtr (.tmp 21) (.tmp 22), none⟩]
def Xn125_18 : C := regL [0, 2, 4, 10, 11] none [⟨some 24, .mv (.tmp 0), none⟩, ⟨some 25, .mv (.tmp 2), none⟩, ⟨some 26, .mv (.tmp 10), none⟩, ⟨some 27, .bin 3 .sub (.tmp 25) (.tmp 26), none⟩, ⟨some 28, .mv (.tmp 2), none⟩, ⟨some 29, .mv (.tmp 11), none⟩, ⟨some 30, .mv (.tmp 4), none⟩, ⟨some 31, .call 127 [.tmp 24, .tmp 27, .tmp 28, .tmp 29, .tmp 30], none⟩]
def Xn125_19 : C := regL [0, 2, 4, 10, 11] none [⟨some 32, .mv (.tmp 10), none⟩, ⟨some 33, .mv (.tmp 11), none⟩, ⟨some 34, .bin 3 .sub (.tmp 32) (.tmp 33), none⟩, ⟨some 10, .mv (.tmp 34), none⟩]
def Xn125_17 : C := .seq Xn125_18 Xn125_19
def Xn125_21 : C := regL [0, 2, 4, 10, 11] none [⟨some 35, .mv (.tmp 0), none⟩, ⟨some 36, .mv (.tmp 2), none⟩, ⟨some 37, .mv (.tmp 10), none⟩, ⟨some 38, .bin 3 .sub (.tmp 36) (.tmp 37), none⟩, ⟨some 39, .mv (.tmp 2), none⟩, ⟨some 40, .mv (.tmp 11), none⟩, ⟨some 41, .bin 3 .add (.tmp 39) (.tmp 40), none⟩, ⟨some 42, .mv (.tmp 10), none⟩, ⟨some 43, .bin 3 .sub (.tmp 41) (.tmp 42), none⟩, ⟨some 44, .mv (.tmp 10), none⟩, ⟨some 45, .mv (.tmp 4), none⟩, ⟨some 46, .call 127 [.tmp 35, .tmp 38, .tmp 43, .tmp 44, .tmp 45], none⟩]
def Xn125_22 : C := regL [0, 2, 4, 10, 11] none [⟨some 47, .mv (.tmp 11), none⟩, ⟨some 48, .mv (.tmp 10), none⟩, ⟨some 49, .bin 3 .sub (.tmp 47) (.tmp 48), none⟩, ⟨some 11, .mv (.tmp 49), none⟩]
def Xn125_20 : C := .seq Xn125_21 Xn125_22
def Xn125_16 : C := .cond (.tmp 23) Xn125_17 Xn125_20
def Xn125_14 : C := .seq Xn125_15 Xn125_16
def Xn125_13 : C := .block 1 Xn125_14
def Xn125_7 : C := seqL [0, 2, 4, 10, 11] Xn125_8 Xn125_13
/- carried: [10, 11] -/
def Xn125_6 : C := loopL [0, 2, 4, 10, 11] Xn125_7
def Xn125_5 : C := .block 0 Xn125_6
def Xn125_23 : C := regL [] none [⟨some 50, .mv (.tmp 0), none⟩, ⟨some 51, .mv (.tmp 2), none⟩, ⟨some 52, .mv (.tmp 10), none⟩, ⟨some 53, .bin 3 .sub (.tmp 51) (.tmp 52), none⟩, ⟨some 54, .mv (.tmp 2), none⟩, ⟨some 55, .mv (.tmp 10), none⟩, ⟨some 56, .mv (.tmp 4), none⟩, ⟨some 57, .call 127 [.tmp 50, .tmp 53, .tmp 54, .tmp 55, .tmp 56], none⟩]
def Xn125_4 : C := seqL [0, 2, 4, 10] Xn125_5 Xn125_23
def Xn125_2 : C := .seq Xn125_3 Xn125_4
def Xn125_0 : C := .seq Xn125_1 Xn125_2
theorem Xt125 : Text Try.prog 125 Xn125_0 58 5 [] := ⟨⟨Try.f125, [], Try.func125, by kernel_rfl, by kernel_rfl, by kernel_rfl, by kernel_rfl⟩⟩
/- carried: [] -/
def Xn127_1 : C := regL [0, 1, 2, 3, 10] none [⟨some 10, .mv (.const (.int .i64 0)), none⟩]
def Xn127_6 : C := regL [0, 1, 2, 3, 10, 13] none [⟨some 11, .mv (.tmp 10), none⟩, ⟨some 12, .mv (.tmp 3), none⟩, ⟨some 13, .bin 3 .lss (.tmp 11) (.tmp 12), none⟩]
def Xn127_7 : C := .cond (.tmp 13) .skip (.exit 0)
def Xn127_5 : C := .seq Xn127_6 Xn127_7
def Xn127_12 : C := regL [0, 1, 2, 3, 10] (some [0, 0, 0, 6, 0, 0, 0, 96, 0, 0, 0, 1536, 3840, 7936, 0, 0, 0, 98304, 245760, 507904, 1048335, 2096911, 4194303, 8388607]) [⟨some 16, .mv (.tmp 0), none⟩, ⟨some 17, .mv (.tmp 1), none⟩, ⟨some 18, .mv (.tmp 10), none⟩, ⟨some 19, .bin 3 .add (.tmp 17) (.tmp 18), none⟩, ⟨some 20, .mv (.tmp 0), none⟩, ⟨some 21, .mv (.tmp 2), none⟩, ⟨some 22, .mv (.tmp 10), none⟩, ⟨some 23, .bin 3 .add (.tmp 21) (.tmp 22), none⟩, ⟨some 24, .mv (.tmp 0), none⟩, ⟨some 25, .mv (.tmp 2), none⟩, ⟨some 26, .mv (.tmp 10), none⟩, ⟨some 27, .bin 3 .add (.tmp 25) (.tmp 26), none⟩, ⟨some 28, .ia 2 (.tmp 24) (.tmp 27), none⟩, ⟨some 29, .ld 35 2 true (.tmp 28), none⟩, ⟨some 30, .mv (.tmp 0), none⟩, ⟨some 31, .mv (.tmp 1), none⟩, ⟨some 32, .mv (.tmp 10), none⟩, ⟨some 33, .bin 3 .add (.tmp 31) (.tmp 32), none⟩, ⟨some 34, .ia 2 (.tmp 30) (.tmp 33), none⟩, ⟨some 35, .ld 35 2 true (.tmp 34), none⟩, ⟨some 36, .ia 2 (.tmp 16) (.tmp 19), none⟩, ⟨none, .st 35 2 (.tmp 36) (.tmp 29), none⟩, ⟨some 37, .ia 2 (.tmp 20) (.tmp 23), none⟩, ⟨none, .st 35 2 (.tmp 37) (.tmp 35), none⟩]
def Xn127_11 : C := .block 1 Xn127_12
def Xn127_13 : C := regL [0, 1, 2, 3, 10] none [⟨some 14, .mv (.tmp 10), none⟩, ⟨some 15, .bin 3 .add (.tmp 14) (.const (.int .i64 1)), none⟩, ⟨some 10, .mv (.tmp 15), none⟩]
def Xn127_10 : C := seqL [0, 1, 2, 3, 10] Xn127_11 Xn127_13
def Xn127_4 : C := seqL [0, 1, 2, 3, 10] Xn127_5 Xn127_10
/- carried: [10] -/
def Xn127_3 : C := loopL [0, 1, 2, 3, 10] Xn127_4
def Xn127_2 : C := .block 0 Xn127_3
def Xn127_0 : C := .seq Xn127_1 Xn127_2
theorem Xt127 : Text Try.prog 127 Xn127_0 38 5 [] := ⟨⟨Try.f127, [], Try.func127, by kernel_rfl, by kernel_rfl, by kernel_rfl, by kernel_rfl⟩⟩
end Go.Proofs.Ytbdnnicodailcaa

/- Words of 64 bits: products. -/
namespace Go.Proofs.Ytbdnnicodailcaa
open Go Sy
set_option maxRecDepth 100000
set_option maxHeartbeats 4000000
set_option linter.unusedVariables false
set_option linter.unusedSimpArgs false

theorem mixed : Try.prog.follows .mixedOrders = true := by kernel_rfl
abbrev iv (n : Int) : AV := .v (.int .i64 n)
abbrev bv (b : Bool) : AV := .v (.bool b)
abbrev uv (n : Nat) : AV := .v (.int .u64 n)
theorem maskN (a : Nat) (ha : a < 18446744073709551616) : bits .and .u64 (a : Int) 4294967295 = ((a % 4294967296 : Nat) : Int) := by
  have h := bits_and_u64_nat a 4294967295 ha (by omega)
  have e : a &&& 4294967295 = a % 4294967296 := Nat.and_two_pow_sub_one_eq_mod a 32
  rw [e] at h
  exact h
theorem shrC (a : Int) (s : Nat) (b : Int) (h : (2 : Int) ^ min s IntKind.u64.bits = b) (hb : 0 ≤ b) : a.fdiv (2 ^ min s IntKind.u64.bits) = a / b := by
  rw [h, Int.fdiv_eq_ediv_of_nonneg _ hb]
theorem shr32 (a : Int) : a.fdiv (2 ^ min 32 IntKind.u64.bits) = a / 4294967296 := shrC a 32 _ (by decide) (by decide)
theorem shr16 (a : Int) : a.fdiv (2 ^ min 16 IntKind.u64.bits) = a / 65536 := shrC a 16 _ (by decide) (by decide)
theorem shr8 (a : Int) : a.fdiv (2 ^ min 8 IntKind.u64.bits) = a / 256 := shrC a 8 _ (by decide) (by decide)
theorem divN (a : Nat) : (a : Int) / 4294967296 = ((a / 4294967296 : Nat) : Int) := by omega
theorem mulN (a b : Nat) : (a : Int) * (b : Int) = ((a * b : Nat) : Int) := (Int.natCast_mul a b).symm
theorem addN (a b : Nat) : (a : Int) + (b : Int) = ((a + b : Nat) : Int) := (Int.natCast_add a b).symm
theorem wrapN (a : Nat) (ha : a < 18446744073709551616) : IntKind.u64.wrap (a : Int) = (a : Int) := by rw [IntKind.wrap_u64]; omega
theorem wrapM (a : Nat) : IntKind.u64.wrap (a : Int) = ((a % 18446744073709551616 : Nat) : Int) := by rw [IntKind.wrap_u64]; omega
theorem fn89 (x y : Nat) (hx : x < 18446744073709551616) (hy : y < 18446744073709551616) : Sy.Fn Try.prog 89 [uv x, uv y] (.tup [uv (x * y / 18446744073709551616), uv (x * y % 18446744073709551616)]) := by
  refine Fn_of_W mixed Xt89 rfl ?_
  obtain ⟨bd, bt, bw, hhi⟩ := Lib.mul64_hi x y hx hy
  have ba := Lib.half_mul_le (a := x / 4294967296) (b := y / 4294967296) (by omega) (by omega)
  have bb := Lib.half_mul_le (a := x / 4294967296) (b := y % 4294967296) (by omega) (by omega)
  have bc := Lib.half_mul_le (a := x % 4294967296) (b := y / 4294967296) (by omega) (by omega)
  have ba' : x / 4294967296 * (y / 4294967296) < 18446744073709551616 := by omega
  have bb' : x / 4294967296 * (y % 4294967296) < 18446744073709551616 := by omega
  have bc' : x % 4294967296 * (y / 4294967296) < 18446744073709551616 := by omega
  have bh1 : x / 4294967296 * (y / 4294967296) + (x / 4294967296 * (y % 4294967296) + x % 4294967296 * (y % 4294967296) / 4294967296) / 4294967296 < 18446744073709551616 := by omega
  have bh : x / 4294967296 * (y / 4294967296) + (x / 4294967296 * (y % 4294967296) + x % 4294967296 * (y % 4294967296) / 4294967296) / 4294967296 + ((x / 4294967296 * (y % 4294967296) + x % 4294967296 * (y % 4294967296) / 4294967296) % 4294967296 + x % 4294967296 * (y / 4294967296)) / 4294967296 < 18446744073709551616 := by omega
  repeat' (first | refine WK_go ?_ | refine W_seqL ?_ | refine W_seq ?_ | refine W_block ?_ | ((first | refine W_regL ?_ | refine W_skip ?_ | refine W_exit ?_); simp (maxSteps := 400000) (disch := omega) only [push_cast, ↓reduceIte, reduceCtorEq, Nat.reduceAdd, Nat.reduceSub, Nat.reduceEqDiff, Nat.reduceLeDiff, Nat.reduceLT, Nat.reduceBEq, Nat.reduceDiv, Nat.reduceMod, Nat.reducePow, Nat.reduceMul, Int.reduceToNat, Int.reduceLT, Int.reduceLE]) | refine And.intro (by omega) ?_ | refine And.intro (by intro hq; (try simp only [Bool.and_eq_true, Bool.or_eq_true, Bool.and_eq_false_iff, Bool.or_eq_false_iff, decide_eq_true_eq, decide_eq_false_iff_not, Bool.not_eq_true', Bool.not_eq_false', beq_iff_eq, beq_eq_false_iff_ne, ne_eq] at hq); omega) ?_ | fail)
  simp only [maskN x hx, maskN y hy, shr32, divN, mulN, addN, wrapN _ bd, wrapN _ bb', wrapN _ bt, maskN _ bt, wrapN _ bc', wrapN _ bw, wrapN _ ba', wrapN _ bh1, wrapN _ bh, wrapM (x * y)]
  rw [hhi]
  exact W_ret ⟨[_, _], ⟨rfl, rfl, rfl⟩, rfl⟩
end Go.Proofs.Ytbdnnicodailcaa

/- Words of 64 bits: how many bits a number has. -/
namespace Go.Proofs.Ytbdnnicodailcaa
open Go Sy
set_option maxRecDepth 100000
set_option maxHeartbeats 4000000
set_option linter.unusedVariables false
set_option linter.unusedSimpArgs false
abbrev uw (n : Int) : AV := .v (.int .u64 n)
/-- n bits, the first one set -/
def Bits (x : Int) (n : Nat) : Prop := 2 ^ n ≤ 2 * x ∧ x < 2 ^ n
theorem Bits.up {x : Int} {n : Nat} (k : Nat) (h : Bits (x / 2 ^ k) n) : Bits x (n + k) := by
  obtain ⟨h1, h2⟩ := h
  have hk : (0 : Int) < 2 ^ k := Int.pow_pos (by omega)
  have hm := Int.mul_ediv_add_emod x (2 ^ k)
  have hr := Int.emod_lt_of_pos x hk
  have hr0 := Int.emod_nonneg x (Int.ne_of_gt hk)
  have e : (2 : Int) ^ (n + k) = 2 ^ n * 2 ^ k := Int.pow_add ..
  have m1 := Int.mul_le_mul_of_nonneg_right h1 (Int.le_of_lt hk)
  have m2 := Int.mul_le_mul_of_nonneg_right (show x / 2 ^ k + 1 ≤ 2 ^ n by omega) (Int.le_of_lt hk)
  unfold Bits
  rw [e]
  rw [Int.add_mul] at m2
  rw [Int.mul_assoc, Int.mul_comm (x / 2 ^ k)] at m1
  rw [Int.mul_comm (x / 2 ^ k)] at m2
  constructor <;> omega
def lo (b x : Int) : Int := if b ≤ x then x / b else x
def nb (b : Int) (k : Nat) (x : Int) : Nat := if b ≤ x then k else 0
theorem Bits.lo {b x : Int} {n : Nat} (k : Nat) (hb : (2 : Int) ^ k = b) (h : Bits (lo b x) n) : Bits x (n + nb b k x) := by
  unfold Go.Proofs.Ytbdnnicodailcaa.lo at h
  unfold nb
  subst hb
  split
  · rename_i h1; rw [if_pos h1] at h; exact h.up k
  · rename_i h1; rw [if_neg h1] at h; exact h
def tab : ByteArray := ⟨#[0, 1, 2, 2, 3, 3, 3, 3, 4, 4, 4, 4, 4, 4, 4, 4, 5, 5, 5, 5, 5, 5, 5, 5, 5, 5, 5, 5, 5, 5, 5, 5, 6, 6, 6, 6, 6, 6, 6, 6, 6, 6, 6, 6, 6, 6, 6, 6, 6, 6, 6, 6, 6, 6, 6, 6, 6, 6, 6, 6, 6, 6, 6, 6, 7, 7, 7, 7, 7, 7, 7, 7, 7, 7, 7, 7, 7, 7, 7, 7, 7, 7, 7, 7, 7, 7, 7, 7, 7, 7, 7, 7, 7, 7, 7, 7, 7, 7, 7, 7, 7, 7, 7, 7, 7, 7, 7, 7, 7, 7, 7, 7, 7, 7, 7, 7, 7, 7, 7, 7, 7, 7, 7, 7, 7, 7, 7, 7, 8, 8, 8, 8, 8, 8, 8, 8, 8, 8, 8, 8, 8, 8, 8, 8, 8, 8, 8, 8, 8, 8, 8, 8, 8, 8, 8, 8, 8, 8, 8, 8, 8, 8, 8, 8, 8, 8, 8, 8, 8, 8, 8, 8, 8, 8, 8, 8, 8, 8, 8, 8, 8, 8, 8, 8, 8, 8, 8, 8, 8, 8, 8, 8, 8, 8, 8, 8, 8, 8, 8, 8, 8, 8, 8, 8, 8, 8, 8, 8, 8, 8, 8, 8, 8, 8, 8, 8, 8, 8, 8, 8, 8, 8, 8, 8, 8, 8, 8, 8, 8, 8, 8, 8, 8, 8, 8, 8, 8, 8, 8, 8, 8, 8, 8, 8, 8, 8, 8, 8, 8, 8, 8, 8, 8, 8, 8, 8]⟩
def tabOK (i : Nat) : Bool := decide (byteAt tab i ≤ 8) && (decide (i = 0) || (decide (2 ^ byteAt tab i ≤ 2 * i) && decide (i < 2 ^ byteAt tab i)))
theorem tab_all : (List.range 256).all tabOK = true := by decide +kernel
theorem tab_size : tab.size = 256 := by decide +kernel
theorem tab_bits {u : Int} (h0 : 0 ≤ u) (h : u < 256) : byteAt tab u.toNat ≤ 8 ∧ (0 < u → Bits u (byteAt tab u.toNat)) := by
  have h1 := List.all_eq_true.1 tab_all u.toNat (by simp; omega)
  unfold tabOK at h1
  simp only [Bool.and_eq_true, Bool.or_eq_true, decide_eq_true_eq] at h1
  refine ⟨h1.1, fun h2 => ?_⟩
  have h3 := h1.2.resolve_left (by omega)
  unfold Bits
  have e : ((u.toNat : Nat) : Int) = u := by omega
  generalize byteAt tab u.toNat = n at *
  have e2 : ((2 ^ n : Nat) : Int) = (2 : Int) ^ n := Int.natCast_pow 2 n
  omega
theorem fn121 (x : Int) (h0 : 0 ≤ x) (hx : x < 18446744073709551616) : ∃ n : Nat, n ≤ 64 ∧ (0 < x → Bits x n) ∧ Sy.Fn Try.prog 121 [uw x] (iv n) := by
  generalize hy : lo 4294967296 x = y
  have hyb : 0 ≤ y ∧ y < 4294967296 := by subst hy; unfold lo; split <;> omega
  generalize hm : nb 4294967296 32 x = m
  have hmb : m ≤ 32 := by subst hm; unfold nb; split <;> omega
  generalize hz : lo 65536 y = z
  have hzb : 0 ≤ z ∧ z < 65536 := by subst hz; unfold lo; split <;> omega
  generalize hk : m + nb 65536 16 y = k
  have hkb : k ≤ 48 := by subst hk; unfold nb; split <;> omega
  generalize hu : lo 256 z = u
  have hub : 0 ≤ u ∧ u < 256 := by subst hu; unfold lo; split <;> omega
  generalize hj : k + nb 256 8 z = j
  have hjb : j ≤ 56 := by subst hj; unfold nb; split <;> omega
  have ht := tab_bits hub.1 hub.2
  have hpos : 0 < x → 0 < u := fun h => by
    have h1 : 0 < y := by subst hy; unfold lo; split <;> omega
    have h2 : 0 < z := by subst hz; unfold lo; split <;> omega
    subst hu; unfold lo; split <;> omega
  refine ⟨j + byteAt tab u.toNat, by omega, fun h => ?_, ?_⟩
  · have h1 := ht.2 (hpos h)
    rw [← hu] at h1
    have h2 := h1.lo 8 (by decide)
    rw [hu, ← hz] at h2
    have h3 := h2.lo 16 (by decide)
    rw [hz, ← hy] at h3
    have h4 := h3.lo 32 (by decide)
    rw [hy] at h4
    rw [← hj, ← hk, ← hm]
    rw [show nb 4294967296 32 x + nb 65536 16 y + nb 256 8 z + byteAt tab u.toNat = byteAt tab u.toNat + nb 256 8 z + nb 65536 16 y + nb 4294967296 32 x by omega]
    exact h4
  refine Fn_of_W mixed Xt121 rfl ?_
  repeat' (first | refine WK_go ?_ | refine W_seqL ?_ | refine W_seq ?_ | refine W_block ?_ | ((first | refine W_regL ?_ | refine W_skip ?_ | refine W_exit ?_); simp (maxSteps := 400000) (disch := omega) only [push_cast, ↓reduceIte, reduceCtorEq, Nat.reduceAdd, Nat.reduceSub, Nat.reduceEqDiff, Nat.reduceLeDiff, Nat.reduceLT, Nat.reduceBEq, Nat.reduceDiv, Nat.reduceMod, Nat.reducePow, Nat.reduceMul, Int.reduceToNat, Int.reduceLT, Int.reduceLE]) | refine And.intro (by omega) ?_ | refine And.intro (by intro hq; (try simp only [Bool.and_eq_true, Bool.or_eq_true, Bool.and_eq_false_iff, Bool.or_eq_false_iff, decide_eq_true_eq, decide_eq_false_iff_not, Bool.not_eq_true', Bool.not_eq_false', beq_iff_eq, beq_eq_false_iff_ne, ne_eq] at hq); omega) ?_ | fail)
  refine W_meet [(0, uw y), (2, iv m)] [] ?_ ?_
  · subst hy hm
    unfold lo nb
    refine W_condD (by rfl) (fun h => ?_) (fun h => ?_)
    · rw [if_pos h, if_pos h]
      repeat' (first | refine WK_go ?_ | refine W_seqL ?_ | refine W_seq ?_ | refine W_block ?_ | ((first | refine W_regL ?_ | refine W_skip ?_ | refine W_exit ?_); simp (maxSteps := 400000) (disch := omega) only [push_cast, ↓reduceIte, reduceCtorEq, Nat.reduceAdd, Nat.reduceSub, Nat.reduceEqDiff, Nat.reduceLeDiff, Nat.reduceLT, Nat.reduceBEq, Nat.reduceDiv, Nat.reduceMod, Nat.reducePow, Nat.reduceMul, Int.reduceToNat, Int.reduceLT, Int.reduceLE, shr32]) | refine And.intro (by omega) ?_ | refine And.intro (by intro hq; (try simp only [Bool.and_eq_true, Bool.or_eq_true, Bool.and_eq_false_iff, Bool.or_eq_false_iff, decide_eq_true_eq, decide_eq_false_iff_not, Bool.not_eq_true', Bool.not_eq_false', beq_iff_eq, beq_eq_false_iff_ne, ne_eq] at hq); omega) ?_ | fail)
      refine ⟨by rfl, ?_⟩
      simp (maxSteps := 400000) (disch := omega) only [push_cast, ↓reduceIte, reduceCtorEq, Nat.reduceAdd, Nat.reduceSub, Nat.reduceEqDiff, Nat.reduceLeDiff, Nat.reduceLT, Nat.reduceBEq, Nat.reduceDiv, Nat.reduceMod, Nat.reducePow, Nat.reduceMul, Int.reduceToNat, Int.reduceLT, Int.reduceLE, S.mk.injEq, List.cons.injEq, Prod.mk.injEq, AV.v.injEq, Value.int.injEq, Value.bool.injEq, Blk.cells.injEq]
      all_goals omega
    · rw [if_neg h, if_neg h]
      repeat' (first | refine WK_go ?_ | refine W_seqL ?_ | refine W_seq ?_ | refine W_block ?_ | ((first | refine W_regL ?_ | refine W_skip ?_ | refine W_exit ?_); simp (maxSteps := 400000) (disch := omega) only [push_cast, ↓reduceIte, reduceCtorEq, Nat.reduceAdd, Nat.reduceSub, Nat.reduceEqDiff, Nat.reduceLeDiff, Nat.reduceLT, Nat.reduceBEq, Nat.reduceDiv, Nat.reduceMod, Nat.reducePow, Nat.reduceMul, Int.reduceToNat, Int.reduceLT, Int.reduceLE]) | refine And.intro (by omega) ?_ | refine And.intro (by intro hq; (try simp only [Bool.and_eq_true, Bool.or_eq_true, Bool.and_eq_false_iff, Bool.or_eq_false_iff, decide_eq_true_eq, decide_eq_false_iff_not, Bool.not_eq_true', Bool.not_eq_false', beq_iff_eq, beq_eq_false_iff_ne, ne_eq] at hq); omega) ?_ | fail)
      rfl
  simp (maxSteps := 400000) (disch := omega) only [push_cast, ↓reduceIte, reduceCtorEq, Nat.reduceAdd, Nat.reduceSub, Nat.reduceEqDiff, Nat.reduceLeDiff, Nat.reduceLT, Nat.reduceBEq, Nat.reduceDiv, Nat.reduceMod, Nat.reducePow, Nat.reduceMul, Int.reduceToNat, Int.reduceLT, Int.reduceLE]
  repeat' (first | refine WK_go ?_ | refine W_seqL ?_ | refine W_seq ?_ | refine W_block ?_ | ((first | refine W_regL ?_ | refine W_skip ?_ | refine W_exit ?_); simp (maxSteps := 400000) (disch := omega) only [push_cast, ↓reduceIte, reduceCtorEq, Nat.reduceAdd, Nat.reduceSub, Nat.reduceEqDiff, Nat.reduceLeDiff, Nat.reduceLT, Nat.reduceBEq, Nat.reduceDiv, Nat.reduceMod, Nat.reducePow, Nat.reduceMul, Int.reduceToNat, Int.reduceLT, Int.reduceLE]) | refine And.intro (by omega) ?_ | refine And.intro (by intro hq; (try simp only [Bool.and_eq_true, Bool.or_eq_true, Bool.and_eq_false_iff, Bool.or_eq_false_iff, decide_eq_true_eq, decide_eq_false_iff_not, Bool.not_eq_true', Bool.not_eq_false', beq_iff_eq, beq_eq_false_iff_ne, ne_eq] at hq); omega) ?_ | fail)
  refine W_meet [(0, uw z), (2, iv k)] [] ?_ ?_
  · subst hz hk
    unfold lo nb
    refine W_condD (by rfl) (fun h => ?_) (fun h => ?_)
    · rw [if_pos h, if_pos h]
      repeat' (first | refine WK_go ?_ | refine W_seqL ?_ | refine W_seq ?_ | refine W_block ?_ | ((first | refine W_regL ?_ | refine W_skip ?_ | refine W_exit ?_); simp (maxSteps := 400000) (disch := omega) only [push_cast, ↓reduceIte, reduceCtorEq, Nat.reduceAdd, Nat.reduceSub, Nat.reduceEqDiff, Nat.reduceLeDiff, Nat.reduceLT, Nat.reduceBEq, Nat.reduceDiv, Nat.reduceMod, Nat.reducePow, Nat.reduceMul, Int.reduceToNat, Int.reduceLT, Int.reduceLE, shr16]) | refine And.intro (by omega) ?_ | refine And.intro (by intro hq; (try simp only [Bool.and_eq_true, Bool.or_eq_true, Bool.and_eq_false_iff, Bool.or_eq_false_iff, decide_eq_true_eq, decide_eq_false_iff_not, Bool.not_eq_true', Bool.not_eq_false', beq_iff_eq, beq_eq_false_iff_ne, ne_eq] at hq); omega) ?_ | fail)
      refine ⟨by rfl, ?_⟩
      simp (maxSteps := 400000) (disch := omega) only [push_cast, ↓reduceIte, reduceCtorEq, Nat.reduceAdd, Nat.reduceSub, Nat.reduceEqDiff, Nat.reduceLeDiff, Nat.reduceLT, Nat.reduceBEq, Nat.reduceDiv, Nat.reduceMod, Nat.reducePow, Nat.reduceMul, Int.reduceToNat, Int.reduceLT, Int.reduceLE, S.mk.injEq, List.cons.injEq, Prod.mk.injEq, AV.v.injEq, Value.int.injEq, Value.bool.injEq, Blk.cells.injEq]
      all_goals omega
    · rw [if_neg h, if_neg h]
      repeat' (first | refine WK_go ?_ | refine W_seqL ?_ | refine W_seq ?_ | refine W_block ?_ | ((first | refine W_regL ?_ | refine W_skip ?_ | refine W_exit ?_); simp (maxSteps := 400000) (disch := omega) only [push_cast, ↓reduceIte, reduceCtorEq, Nat.reduceAdd, Nat.reduceSub, Nat.reduceEqDiff, Nat.reduceLeDiff, Nat.reduceLT, Nat.reduceBEq, Nat.reduceDiv, Nat.reduceMod, Nat.reducePow, Nat.reduceMul, Int.reduceToNat, Int.reduceLT, Int.reduceLE]) | refine And.intro (by omega) ?_ | refine And.intro (by intro hq; (try simp only [Bool.and_eq_true, Bool.or_eq_true, Bool.and_eq_false_iff, Bool.or_eq_false_iff, decide_eq_true_eq, decide_eq_false_iff_not, Bool.not_eq_true', Bool.not_eq_false', beq_iff_eq, beq_eq_false_iff_ne, ne_eq] at hq); omega) ?_ | fail)
      rfl
  simp (maxSteps := 400000) (disch := omega) only [push_cast, ↓reduceIte, reduceCtorEq, Nat.reduceAdd, Nat.reduceSub, Nat.reduceEqDiff, Nat.reduceLeDiff, Nat.reduceLT, Nat.reduceBEq, Nat.reduceDiv, Nat.reduceMod, Nat.reducePow, Nat.reduceMul, Int.reduceToNat, Int.reduceLT, Int.reduceLE]
  repeat' (first | refine WK_go ?_ | refine W_seqL ?_ | refine W_seq ?_ | refine W_block ?_ | ((first | refine W_regL ?_ | refine W_skip ?_ | refine W_exit ?_); simp (maxSteps := 400000) (disch := omega) only [push_cast, ↓reduceIte, reduceCtorEq, Nat.reduceAdd, Nat.reduceSub, Nat.reduceEqDiff, Nat.reduceLeDiff, Nat.reduceLT, Nat.reduceBEq, Nat.reduceDiv, Nat.reduceMod, Nat.reducePow, Nat.reduceMul, Int.reduceToNat, Int.reduceLT, Int.reduceLE]) | refine And.intro (by omega) ?_ | refine And.intro (by intro hq; (try simp only [Bool.and_eq_true, Bool.or_eq_true, Bool.and_eq_false_iff, Bool.or_eq_false_iff, decide_eq_true_eq, decide_eq_false_iff_not, Bool.not_eq_true', Bool.not_eq_false', beq_iff_eq, beq_eq_false_iff_ne, ne_eq] at hq); omega) ?_ | fail)
  refine W_meet [(0, uw u), (2, iv j)] [] ?_ ?_
  · subst hu hj
    unfold lo nb
    refine W_condD (by rfl) (fun h => ?_) (fun h => ?_)
    · rw [if_pos h, if_pos h]
      repeat' (first | refine WK_go ?_ | refine W_seqL ?_ | refine W_seq ?_ | refine W_block ?_ | ((first | refine W_regL ?_ | refine W_skip ?_ | refine W_exit ?_); simp (maxSteps := 400000) (disch := omega) only [push_cast, ↓reduceIte, reduceCtorEq, Nat.reduceAdd, Nat.reduceSub, Nat.reduceEqDiff, Nat.reduceLeDiff, Nat.reduceLT, Nat.reduceBEq, Nat.reduceDiv, Nat.reduceMod, Nat.reducePow, Nat.reduceMul, Int.reduceToNat, Int.reduceLT, Int.reduceLE, shr8]) | refine And.intro (by omega) ?_ | refine And.intro (by intro hq; (try simp only [Bool.and_eq_true, Bool.or_eq_true, Bool.and_eq_false_iff, Bool.or_eq_false_iff, decide_eq_true_eq, decide_eq_false_iff_not, Bool.not_eq_true', Bool.not_eq_false', beq_iff_eq, beq_eq_false_iff_ne, ne_eq] at hq); omega) ?_ | fail)
      refine ⟨by rfl, ?_⟩
      simp (maxSteps := 400000) (disch := omega) only [push_cast, ↓reduceIte, reduceCtorEq, Nat.reduceAdd, Nat.reduceSub, Nat.reduceEqDiff, Nat.reduceLeDiff, Nat.reduceLT, Nat.reduceBEq, Nat.reduceDiv, Nat.reduceMod, Nat.reducePow, Nat.reduceMul, Int.reduceToNat, Int.reduceLT, Int.reduceLE, S.mk.injEq, List.cons.injEq, Prod.mk.injEq, AV.v.injEq, Value.int.injEq, Value.bool.injEq, Blk.cells.injEq]
      all_goals omega
    · rw [if_neg h, if_neg h]
      repeat' (first | refine WK_go ?_ | refine W_seqL ?_ | refine W_seq ?_ | refine W_block ?_ | ((first | refine W_regL ?_ | refine W_skip ?_ | refine W_exit ?_); simp (maxSteps := 400000) (disch := omega) only [push_cast, ↓reduceIte, reduceCtorEq, Nat.reduceAdd, Nat.reduceSub, Nat.reduceEqDiff, Nat.reduceLeDiff, Nat.reduceLT, Nat.reduceBEq, Nat.reduceDiv, Nat.reduceMod, Nat.reducePow, Nat.reduceMul, Int.reduceToNat, Int.reduceLT, Int.reduceLE]) | refine And.intro (by omega) ?_ | refine And.intro (by intro hq; (try simp only [Bool.and_eq_true, Bool.or_eq_true, Bool.and_eq_false_iff, Bool.or_eq_false_iff, decide_eq_true_eq, decide_eq_false_iff_not, Bool.not_eq_true', Bool.not_eq_false', beq_iff_eq, beq_eq_false_iff_ne, ne_eq] at hq); omega) ?_ | fail)
      rfl
  simp (maxSteps := 400000) (disch := omega) only [push_cast, ↓reduceIte, reduceCtorEq, Nat.reduceAdd, Nat.reduceSub, Nat.reduceEqDiff, Nat.reduceLeDiff, Nat.reduceLT, Nat.reduceBEq, Nat.reduceDiv, Nat.reduceMod, Nat.reducePow, Nat.reduceMul, Int.reduceToNat, Int.reduceLT, Int.reduceLE]
  have hw : IntKind.u8.wrap u = u := by rw [IntKind.wrap_u8]; omega
  refine W_seq (W_regL ?_)
  rw [show ({ data := _ } : ByteArray) = tab from rfl]
  simp (maxSteps := 400000) (disch := omega) only [push_cast, ↓reduceIte, reduceCtorEq, Nat.reduceAdd, Nat.reduceSub, Nat.reduceEqDiff, Nat.reduceLeDiff, Nat.reduceLT, Nat.reduceBEq, Nat.reduceDiv, Nat.reduceMod, Nat.reducePow, Nat.reduceMul, Int.reduceToNat, Int.reduceLT, Int.reduceLE, hw, tab_size]
  refine ⟨⟨hub.1, hub.2⟩, ?_⟩
  exact W_ret ⟨[_], ⟨rfl, rfl⟩, rfl⟩
/-- LeadingZeros64 -/
theorem fn108 (x : Int) (h0 : 0 < x) (hx : x < 18446744073709551616) : ∃ n : Nat, n ≤ 64 ∧ Bits x n ∧ Sy.Fn Try.prog 108 [uw x] (iv (64 - n)) := by
  obtain ⟨n, hn, hb, c⟩ := fn121 x (by omega) hx
  refine ⟨n, hn, hb h0, ?_⟩
  refine Fn_of_W mixed Xt108 rfl ?_
  repeat' (first | refine WK_go ?_ | refine W_seqL ?_ | refine W_seq ?_ | refine W_block ?_ | ((first | refine W_regL ?_ | refine W_skip ?_ | refine W_exit ?_ | refine CallC.now (c) ?_); simp (maxSteps := 400000) (disch := omega) only [push_cast, ↓reduceIte, reduceCtorEq, Nat.reduceAdd, Nat.reduceSub, Nat.reduceEqDiff, Nat.reduceLeDiff, Nat.reduceLT, Nat.reduceBEq, Nat.reduceDiv, Nat.reduceMod, Nat.reducePow, Nat.reduceMul, Int.reduceToNat, Int.reduceLT, Int.reduceLE]) | refine And.intro (by omega) ?_ | refine And.intro (by intro hq; (try simp only [Bool.and_eq_true, Bool.or_eq_true, Bool.and_eq_false_iff, Bool.or_eq_false_iff, decide_eq_true_eq, decide_eq_false_iff_not, Bool.not_eq_true', Bool.not_eq_false', beq_iff_eq, beq_eq_false_iff_ne, ne_eq] at hq); omega) ?_ | fail)
  exact W_ret ⟨[_], ⟨rfl, rfl⟩, rfl⟩
end Go.Proofs.Ytbdnnicodailcaa

/- The long division: the plain law. -/
namespace Go.Proofs.Ytbdnnicodailcaa
open Go Sy
set_option maxRecDepth 100000
set_option linter.unusedVariables false
/-- half of the division: a divisor of 64 bits, the upper part of what is divided, the next digit -/
structure Half (Y u d : Int) : Prop where
  y : 9223372036854775808 ≤ Y ∧ Y < 18446744073709551616
  u : 0 ≤ u ∧ u < Y
  d : 0 ≤ d ∧ d < 4294967296
def Half.q (Y u d : Int) : Int := (u * 4294967296 + d) / Y
theorem split_Y (Y q : Int) : q * Y = (q * (Y / 4294967296)) * 4294967296 + q * (Y % 4294967296) := by
  have h : Y = Y / 4294967296 * 4294967296 + Y % 4294967296 := by omega
  rw [Int.mul_assoc, ← Int.mul_add, ← h]
theorem Half.no {Y u d q r : Int} (h : Half Y u d) (e : q * (Y / 4294967296) + r = u) (hc : q * (Y % 4294967296) ≤ 4294967296 * r + d) : q ≤ Half.q Y u d := by
  unfold Half.q
  have := h.y
  rw [Int.le_ediv_iff_mul_le (by omega), split_Y Y q]
  omega
theorem Half.yes {Y u d q r : Int} (h : Half Y u d) (e : q * (Y / 4294967296) + r = u) (hc : 4294967296 * r + d < q * (Y % 4294967296)) : Half.q Y u d < q := by
  unfold Half.q
  have := h.y
  rw [Int.ediv_lt_iff_lt_mul (by omega), split_Y Y q]
  omega
theorem Half.lt {Y u d : Int} (h : Half Y u d) : 0 ≤ Half.q Y u d ∧ Half.q Y u d < 4294967296 := by
  have h1 := h.y; have h2 := h.u; have h3 := h.d
  unfold Half.q
  constructor
  · exact Int.ediv_nonneg (by omega) (by omega)
  · rw [Int.ediv_lt_iff_lt_mul (by omega)]
    omega
theorem Half.start {Y u d : Int} (h : Half Y u d) : u / (Y / 4294967296) * (Y / 4294967296) + u % (Y / 4294967296) = u ∧ Half.q Y u d ≤ u / (Y / 4294967296) ∧ u / (Y / 4294967296) ≤ 4294967297 ∧ 0 ≤ u % (Y / 4294967296) ∧ u % (Y / 4294967296) < 4294967296 := by
  have h1 := h.y; have h2 := h.u; have h3 := h.d
  have hlt := h.lt
  have hp : 0 < Y / 4294967296 := by omega
  have e := Int.ediv_mul_add_emod u (Y / 4294967296)
  have e1 := Int.emod_nonneg u (Int.ne_of_gt hp)
  have e2 := Int.emod_lt_of_pos u hp
  refine ⟨e, ?_, ?_, e1, by omega⟩
  · rw [Int.le_ediv_iff_mul_le hp]
    have h4 : Half.q Y u d * Y ≤ u * 4294967296 + d := Int.ediv_mul_le _ (by omega)
    rw [split_Y Y (Half.q Y u d)] at h4
    have h5 : 0 ≤ Half.q Y u d * (Y % 4294967296) := Int.mul_nonneg hlt.1 (by omega)
    omega
  · have h4 : u / (Y / 4294967296) < 4294967298 := by
      rw [Int.ediv_lt_iff_lt_mul hp]
      omega
    omega
/-- one step of the loop -/
theorem Half.step {Y u d q r : Int} (h : Half Y u d) (e : q * (Y / 4294967296) + r = u) (hq : Half.q Y u d ≤ q) (hc : 4294967296 ≤ q ∨ 4294967296 * r + d < q * (Y % 4294967296)) : (q - 1) * (Y / 4294967296) + (r + Y / 4294967296) = u ∧ Half.q Y u d ≤ q - 1 := by
  have hlt := h.lt
  refine ⟨by rw [Int.sub_mul, Int.one_mul]; omega, ?_⟩
  rcases hc with hc | hc
  · omega
  · have := h.yes e hc; omega
theorem Half.break {Y u d q r : Int} (h : Half Y u d) (e : q * (Y / 4294967296) + r = u) (hq : Half.q Y u d ≤ q) (hb : q ≤ 4294967296) (hr : 4294967296 ≤ r) : q = Half.q Y u d := by
  have h1 := h.y; have h2 := h.u; have h3 := h.d
  have hlt := h.lt
  have m : q * (Y % 4294967296) ≤ 4294967296 * 4294967295 := Int.mul_le_mul hb (by omega) (by omega) (by omega)
  have := h.no e (by omega)
  omega
theorem Half.stop {Y u d q r : Int} (h : Half Y u d) (e : q * (Y / 4294967296) + r = u) (hq : Half.q Y u d ≤ q) (hc : q * (Y % 4294967296) ≤ 4294967296 * r + d) : q = Half.q Y u d := by
  have := h.no e hc
  omega
/-- what is left -/
def Half.r (Y u d : Int) : Int := u * 4294967296 + d - Half.q Y u d * Y
theorem Half.r_lt {Y u d : Int} (h : Half Y u d) : 0 ≤ Half.r Y u d ∧ Half.r Y u d < Y := by
  have h1 := h.y
  have e := Int.ediv_mul_add_emod (u * 4294967296 + d) Y
  have e1 := Int.emod_nonneg (u * 4294967296 + d) (show Y ≠ 0 by omega)
  have e2 := Int.emod_lt_of_pos (u * 4294967296 + d) (show 0 < Y by omega)
  unfold Half.r Half.q
  omega
/-- both halves -/
theorem long_div {y P N u d1 d0 : Int} (hy : 0 < y) (hP : 0 < P) (e : N * P = u * 18446744073709551616 + d1 * 4294967296 + d0) (h : Half (y * P) u d1) (h0 : Half (y * P) (Half.r (y * P) u d1) d0) :
    Half.q (y * P) u d1 * 4294967296 + Half.q (y * P) (Half.r (y * P) u d1) d0 = N / y ∧ Half.r (y * P) (Half.r (y * P) u d1) d0 / P = N % y := by
  have hr := h0.r_lt
  have e1 : Half.r (y * P) u d1 = u * 4294967296 + d1 - Half.q (y * P) u d1 * (y * P) := rfl
  have e2 : Half.r (y * P) (Half.r (y * P) u d1) d0 = Half.r (y * P) u d1 * 4294967296 + d0 - Half.q (y * P) (Half.r (y * P) u d1) d0 * (y * P) := rfl
  generalize hR0 : Half.r (y * P) (Half.r (y * P) u d1) d0 = R0 at *
  generalize hR1 : Half.r (y * P) u d1 = R1 at *
  generalize hq1 : Half.q (y * P) u d1 = q1 at *
  generalize hq0 : Half.q (y * P) R1 d0 = q0 at *
  have e3 : (q1 * 4294967296 + q0) * (y * P) = q1 * (y * P) * 4294967296 + q0 * (y * P) := by
    rw [Int.add_mul, Int.mul_assoc, Int.mul_comm 4294967296, ← Int.mul_assoc]
  have e4 : R0 = (N - (q1 * 4294967296 + q0) * y) * P := by
    rw [Int.sub_mul, Int.mul_assoc, e3]
    omega
  have e5 : R0 / P = N - (q1 * 4294967296 + q0) * y := by
    rw [e4, Int.mul_ediv_cancel _ (Int.ne_of_gt hP)]
  have e6 : 0 ≤ N - (q1 * 4294967296 + q0) * y := by
    rw [e4] at hr
    exact Int.nonneg_of_mul_nonneg_left hr.1 hP
  have e7 : N - (q1 * 4294967296 + q0) * y < y := by
    rw [e4] at hr
    exact Int.lt_of_mul_lt_mul_right hr.2 (Int.le_of_lt hP)
  have e8 : N / y = q1 * 4294967296 + q0 := by
    have h1 : q1 * 4294967296 + q0 ≤ N / y := by rw [Int.le_ediv_iff_mul_le hy]; omega
    have h2 : N / y < q1 * 4294967296 + q0 + 1 := by rw [Int.ediv_lt_iff_lt_mul hy, Int.add_mul]; omega
    omega
  refine ⟨e8.symm, ?_⟩
  rw [e5, Int.emod_def, e8, Int.mul_comm]
/-- the shift to a divisor of 64 bits -/
theorem shift_up {y : Int} {n : Nat} (h : Bits y n) (hn : n ≤ 64) : 9223372036854775808 ≤ y * 2 ^ (64 - n) ∧ y * 2 ^ (64 - n) < 18446744073709551616 := by
  obtain ⟨h1, h2⟩ := h
  have hk : (0 : Int) < 2 ^ (64 - n) := Int.pow_pos (by omega)
  have e : (2 : Int) ^ n * 2 ^ (64 - n) = 18446744073709551616 := by
    rw [← Int.pow_add, show n + (64 - n) = 64 by omega]; rfl
  have m1 := Int.mul_le_mul_of_nonneg_right h1 (Int.le_of_lt hk)
  have m2 := Int.mul_lt_mul_of_pos_right h2 hk
  rw [Int.mul_assoc] at m1
  omega
theorem shift_parts {hi lo y : Int} {n : Nat} (hn : n ≤ 64) (h : 0 ≤ hi ∧ hi < y) (hl : 0 ≤ lo ∧ lo < 18446744073709551616) :
    (hi * 18446744073709551616 + lo) * 2 ^ (64 - n) = (hi * 2 ^ (64 - n) + lo / 2 ^ n) * 18446744073709551616 + lo * 2 ^ (64 - n) % 18446744073709551616 ∧
    0 ≤ hi * 2 ^ (64 - n) + lo / 2 ^ n ∧ hi * 2 ^ (64 - n) + lo / 2 ^ n < y * 2 ^ (64 - n) ∧ 0 ≤ lo / 2 ^ n ∧ lo / 2 ^ n < 2 ^ (64 - n) := by
  have hk : (0 : Int) < 2 ^ (64 - n) := Int.pow_pos (by omega)
  have hk2 : (0 : Int) < 2 ^ n := Int.pow_pos (by omega)
  have e : (2 : Int) ^ n * 2 ^ (64 - n) = 18446744073709551616 := by
    rw [← Int.pow_add, show n + (64 - n) = 64 by omega]; rfl
  have e2 : lo * 2 ^ (64 - n) / 18446744073709551616 = lo / 2 ^ n := by
    rw [← e]; exact Int.mul_ediv_mul_of_pos_left _ _ hk
  have h1 : 0 ≤ lo / 2 ^ n := Int.ediv_nonneg hl.1 (Int.le_of_lt hk2)
  have h2 : lo / 2 ^ n < 2 ^ (64 - n) := by
    rw [Int.ediv_lt_iff_lt_mul hk2, Int.mul_comm, e]; exact hl.2
  have h3 : 0 ≤ hi * 2 ^ (64 - n) := Int.mul_nonneg h.1 (Int.le_of_lt hk)
  have h4 := Int.mul_le_mul_of_nonneg_right (show hi + 1 ≤ y by omega) (Int.le_of_lt hk)
  rw [Int.add_mul, Int.one_mul] at h4
  refine ⟨?_, by omega, by omega, h1, h2⟩
  rw [Int.add_mul, Int.mul_assoc, Int.mul_comm 18446744073709551616, ← Int.mul_assoc]
  omega
/-- a sum without a carry -/
theorem or_add {a b : Int} {k : Nat} (ha : 0 ≤ a) (hb : 0 ≤ b) (hlt : b < 2 ^ k) (h : a * 2 ^ k + b < 18446744073709551616) : bits .or .u64 (a * 2 ^ k) b = a * 2 ^ k + b := by
  obtain ⟨x, rfl⟩ : ∃ x : Nat, a = x := ⟨a.toNat, by omega⟩
  obtain ⟨y, rfl⟩ : ∃ y : Nat, b = y := ⟨b.toNat, by omega⟩
  have e : (x : Int) * 2 ^ k = ((x * 2 ^ k : Nat) : Int) := by rw [Int.natCast_mul, Int.natCast_pow]; rfl
  have hl : y < 2 ^ k := by
    have : ((2 ^ k : Nat) : Int) = (2 : Int) ^ k := Int.natCast_pow 2 k
    omega
  rw [e] at h ⊢
  rw [bits_or_u64_nat _ _ (by omega) (by omega), ← Nat.shiftLeft_eq, ← Nat.shiftLeft_add_eq_or_of_lt hl]
  omega
end Go.Proofs.Ytbdnnicodailcaa

/- The long division: the walk. -/
namespace Go.Proofs.Ytbdnnicodailcaa
open Go Sy
set_option maxRecDepth 100000
set_option maxHeartbeats 4000000
set_option linter.unusedVariables false
set_option linter.unusedSimpArgs false
theorem wrapU {x : Int} (h : 0 ≤ x ∧ x < 18446744073709551616) : IntKind.u64.wrap x = x := by rw [IntKind.wrap_u64]; omega
theorem maskI {a : Int} (h : 0 ≤ a ∧ a < 18446744073709551616) : bits .and .u64 a 4294967295 = a % 4294967296 := by
  obtain ⟨n, rfl⟩ : ∃ n : Nat, a = n := ⟨a.toNat, by omega⟩
  rw [maskN n (by omega)]; omega
theorem wrap_rem {a b c r : Int} (h : a + b - c = r) (hr : 0 ≤ r ∧ r < 18446744073709551616) : IntKind.u64.wrap (IntKind.u64.wrap (IntKind.u64.wrap a + b) - IntKind.u64.wrap c) = r := by
  simp only [IntKind.wrap_u64]; omega
theorem fn90 (hi lo y : Int) (h : 0 ≤ hi ∧ hi < y) (hl : 0 ≤ lo ∧ lo < 18446744073709551616) (hy : y < 18446744073709551616) : Sy.Fn Try.prog 90 [uw hi, uw lo, uw y] (.tup [uw ((hi * 18446744073709551616 + lo) / y), uw ((hi * 18446744073709551616 + lo) % y)]) := by
  refine Fn_of_W mixed Xt90 rfl ?_
  obtain ⟨n, hn, hb, c⟩ := fn108 y (by omega) hy
  have hsu := shift_up hb hn
  obtain ⟨hp1, hp2, hp3, hp4, hp5⟩ := shift_parts hn h hl
  repeat' (first | refine WK_go ?_ | refine W_seqL ?_ | refine W_seq ?_ | refine W_block ?_ | ((first | refine W_regL ?_ | refine W_skip ?_ | refine W_exit ?_); simp (maxSteps := 400000) (disch := omega) only [push_cast, ↓reduceIte, reduceCtorEq, Nat.reduceAdd, Nat.reduceSub, Nat.reduceEqDiff, Nat.reduceLeDiff, Nat.reduceLT, Nat.reduceBEq, Nat.reduceDiv, Nat.reduceMod, Nat.reducePow, Nat.reduceMul, Int.reduceToNat, Int.reduceLT, Int.reduceLE]) | refine And.intro (by omega) ?_ | refine And.intro (by intro hq; (try simp only [Bool.and_eq_true, Bool.or_eq_true, Bool.and_eq_false_iff, Bool.or_eq_false_iff, decide_eq_true_eq, decide_eq_false_iff_not, Bool.not_eq_true', Bool.not_eq_false', beq_iff_eq, beq_eq_false_iff_ne, ne_eq] at hq); omega) ?_ | fail)
  refine W_cond (by rfl) (fun h1 => by rw [beq_iff_eq] at h1; omega) (fun _ => ?_)
  repeat' (first | refine WK_go ?_ | refine W_seqL ?_ | refine W_seq ?_ | refine W_block ?_ | ((first | refine W_regL ?_ | refine W_skip ?_ | refine W_exit ?_); simp (maxSteps := 400000) (disch := omega) only [push_cast, ↓reduceIte, reduceCtorEq, Nat.reduceAdd, Nat.reduceSub, Nat.reduceEqDiff, Nat.reduceLeDiff, Nat.reduceLT, Nat.reduceBEq, Nat.reduceDiv, Nat.reduceMod, Nat.reducePow, Nat.reduceMul, Int.reduceToNat, Int.reduceLT, Int.reduceLE]) | refine And.intro (by omega) ?_ | refine And.intro (by intro hq; (try simp only [Bool.and_eq_true, Bool.or_eq_true, Bool.and_eq_false_iff, Bool.or_eq_false_iff, decide_eq_true_eq, decide_eq_false_iff_not, Bool.not_eq_true', Bool.not_eq_false', beq_iff_eq, beq_eq_false_iff_ne, ne_eq] at hq); omega) ?_ | fail)
  refine W_condD (by rfl) (fun h1 => by omega) (fun _ => ?_)
  repeat' (first | refine WK_go ?_ | refine W_seqL ?_ | refine W_seq ?_ | refine W_block ?_ | ((first | refine W_regL ?_ | refine W_skip ?_ | refine W_exit ?_); simp (maxSteps := 400000) (disch := omega) only [push_cast, ↓reduceIte, reduceCtorEq, Nat.reduceAdd, Nat.reduceSub, Nat.reduceEqDiff, Nat.reduceLeDiff, Nat.reduceLT, Nat.reduceBEq, Nat.reduceDiv, Nat.reduceMod, Nat.reducePow, Nat.reduceMul, Int.reduceToNat, Int.reduceLT, Int.reduceLE]) | refine And.intro (by omega) ?_ | refine And.intro (by intro hq; (try simp only [Bool.and_eq_true, Bool.or_eq_true, Bool.and_eq_false_iff, Bool.or_eq_false_iff, decide_eq_true_eq, decide_eq_false_iff_not, Bool.not_eq_true', Bool.not_eq_false', beq_iff_eq, beq_eq_false_iff_ne, ne_eq] at hq); omega) ?_ | fail)
  refine W_cond (by rfl) (fun h1 => ?_) (fun h1 => ?_)
  · rw [beq_iff_eq] at h1
    subst h1
    have e1 := Int.ediv_nonneg hl.1 (show 0 ≤ y by omega)
    have e2 : lo / y ≤ lo := Int.ediv_le_self _ hl.1
    repeat' (first | refine WK_go ?_ | refine W_seqL ?_ | refine W_seq ?_ | refine W_block ?_ | ((first | refine W_regL ?_ | refine W_skip ?_ | refine W_exit ?_); simp (maxSteps := 400000) (disch := omega) only [push_cast, ↓reduceIte, reduceCtorEq, Nat.reduceAdd, Nat.reduceSub, Nat.reduceEqDiff, Nat.reduceLeDiff, Nat.reduceLT, Nat.reduceBEq, Nat.reduceDiv, Nat.reduceMod, Nat.reducePow, Nat.reduceMul, Int.reduceToNat, Int.reduceLT, Int.reduceLE, Int.tdiv_eq_ediv_of_nonneg, Int.tmod_eq_emod_of_nonneg, wrapU]) | refine And.intro (by omega) ?_ | refine And.intro (by intro hq; (try simp only [Bool.and_eq_true, Bool.or_eq_true, Bool.and_eq_false_iff, Bool.or_eq_false_iff, decide_eq_true_eq, decide_eq_false_iff_not, Bool.not_eq_true', Bool.not_eq_false', beq_iff_eq, beq_eq_false_iff_ne, ne_eq] at hq); omega) ?_ | fail)
    exact W_ret ⟨[_, _], ⟨rfl, rfl, rfl⟩, by simp; rfl⟩
  have w1 : IntKind.u64.wrap (64 - (n : Int)) = 64 - n := wrapU ⟨by omega, by omega⟩
  have w2 : min (64 - (n : Int)).toNat IntKind.u64.bits = 64 - n := by show min _ 64 = _; omega
  have w3 : min n IntKind.u64.bits = n := by show min _ 64 = _; omega
  have w4 : IntKind.u64.wrap (n : Int) = n := wrapU ⟨by omega, by omega⟩
  have hk : (0 : Int) < 2 ^ (64 - n) := Int.pow_pos (by omega)
  have hh : 0 ≤ hi * 2 ^ (64 - n) := Int.mul_nonneg h.1 (Int.le_of_lt hk)
  have w5 : IntKind.u64.wrap (64 - (64 - (n : Int))) = n := by rw [show 64 - (64 - (n : Int)) = n by omega]; exact w4
  have w6 : IntKind.u64.wrap (y * 2 ^ (64 - n)) = y * 2 ^ (64 - n) := wrapU (by omega)
  have w7 : IntKind.u64.wrap (hi * 2 ^ (64 - n)) = hi * 2 ^ (64 - n) := wrapU (by omega)
  have w8 : lo.fdiv (2 ^ n) = lo / 2 ^ n := Int.fdiv_eq_ediv_of_nonneg _ (Int.le_of_lt (Int.pow_pos (by omega)))
  have w9 := or_add (a := hi) (b := lo / 2 ^ n) (k := 64 - n) h.1 hp4 hp5 (by omega)
  have w10 : IntKind.u64.wrap (lo * 2 ^ (64 - n)) = lo * 2 ^ (64 - n) % 18446744073709551616 := IntKind.wrap_u64 _
  have wm := maskI (a := y * 2 ^ (64 - n)) (by omega)
  have wm2 := maskI (a := lo * 2 ^ (64 - n) % 18446744073709551616) (by omega)
  have hld := fun d1 d0 => long_div (y := y) (P := 2 ^ (64 - n)) (N := hi * 18446744073709551616 + lo) (u := hi * 2 ^ (64 - n) + lo / 2 ^ n) (d1 := d1) (d0 := d0) (by omega) hk
  repeat' (first | refine WK_go ?_ | refine W_seqL ?_ | refine W_seq ?_ | refine W_block ?_ | ((first | refine W_regL ?_ | refine W_skip ?_ | refine W_exit ?_ | refine CallC.now (c) ?_); simp (maxSteps := 400000) (disch := omega) only [push_cast, ↓reduceIte, reduceCtorEq, Nat.reduceAdd, Nat.reduceSub, Nat.reduceEqDiff, Nat.reduceLeDiff, Nat.reduceLT, Nat.reduceBEq, Nat.reduceDiv, Nat.reduceMod, Nat.reducePow, Nat.reduceMul, Int.reduceToNat, Int.reduceLT, Int.reduceLE, w1, w2, w3, w4, w5, w6, w7, w8, w9, w10, wm, wm2, shr32]) | refine And.intro (by omega) ?_ | refine And.intro (by intro hq; (try simp only [Bool.and_eq_true, Bool.or_eq_true, Bool.and_eq_false_iff, Bool.or_eq_false_iff, decide_eq_true_eq, decide_eq_false_iff_not, Bool.not_eq_true', Bool.not_eq_false', beq_iff_eq, beq_eq_false_iff_ne, ne_eq] at hq); omega) ?_ | fail)
  generalize hD : y * 2 ^ (64 - n) = Y at *
  generalize hU : hi * 2 ^ (64 - n) + lo / 2 ^ n = u at *
  generalize hE : lo * 2 ^ (64 - n) % 18446744073709551616 = e at *
  have heb : 0 ≤ e ∧ e < 18446744073709551616 := by subst hE; omega
  have H1 : Half Y u (e / 4294967296) := ⟨hsu, ⟨hp2, hp3⟩, by omega⟩
  obtain ⟨s1, s2, s3, s4, s5⟩ := H1.start
  have v1 : u.tdiv (Y / 4294967296) = u / (Y / 4294967296) := Int.tdiv_eq_ediv_of_nonneg hp2
  have s0 : 0 ≤ u / (Y / 4294967296) := Int.ediv_nonneg hp2 (by omega)
  have v2 : IntKind.u64.wrap (u / (Y / 4294967296)) = u / (Y / 4294967296) := wrapU (by omega)
  have s00 : 0 ≤ u / (Y / 4294967296) * (Y / 4294967296) := Int.mul_nonneg s0 (by omega)
  have v3 : IntKind.u64.wrap (u / (Y / 4294967296) * (Y / 4294967296)) = u / (Y / 4294967296) * (Y / 4294967296) := wrapU (by omega)
  have v4 : IntKind.u64.wrap (u - u / (Y / 4294967296) * (Y / 4294967296)) = u % (Y / 4294967296) := by
    rw [show u - u / (Y / 4294967296) * (Y / 4294967296) = u % (Y / 4294967296) by omega]; exact wrapU (by omega)
  rw [v1, v2, v3, v4]
  generalize hq0 : u / (Y / 4294967296) = q0 at *
  generalize hr0 : u % (Y / 4294967296) = r0 at *
  generalize hQ : Half.q Y u (e / 4294967296) = Q1 at *
  have wd : 0 ≤ e / 4294967296 ∧ e / 4294967296 < 4294967296 := by omega
  have we : 0 ≤ e % 4294967296 ∧ e % 4294967296 < 4294967296 := by omega
  have hQb := H1.lt
  refine W_meetB [(15, uw Q1)] [] ?_ ?_
  · refine W_loopU (fun p : Int × Int => [(15, uw p.1), (16, uw p.2)]) (fun i => []) (fun p => p.1 * (Y / 4294967296) + p.2 = u ∧ Q1 ≤ p.1 ∧ p.1 ≤ 4294967297 ∧ 0 ≤ p.2 ∧ p.2 < 4294967296) (fun p => p.1.toNat) (q0, r0) ⟨s1, s2, s3, s4, s5⟩ (by rfl) (by rfl) (fun p hp => ?_)
    obtain ⟨q, r⟩ := p
    obtain ⟨i1, i2, i3, i4, i5⟩ := hp
    simp only at i1 i2 i3 i4 i5
    have m0 : 0 ≤ q * (Y % 4294967296) := Int.mul_nonneg (by omega) (by omega)
    have v5 : IntKind.u64.wrap (4294967296 * r) = 4294967296 * r := wrapU (by omega)
    have v6 : IntKind.u64.wrap (4294967296 * r + e / 4294967296) = 4294967296 * r + e / 4294967296 := wrapU (by omega)
    have m1 : q < 4294967296 → q * (Y % 4294967296) ≤ 4294967295 * 4294967295 := fun hq => Int.mul_le_mul (by omega) (by omega) (by omega) (by omega)
    have v7 : q < 4294967296 → IntKind.u64.wrap (q * (Y % 4294967296)) = q * (Y % 4294967296) := fun hq => wrapU ⟨m0, by have := m1 hq; omega⟩
    simp (maxSteps := 400000) (disch := omega) only [push_cast, ↓reduceIte, reduceCtorEq, Nat.reduceAdd, Nat.reduceSub, Nat.reduceEqDiff, Nat.reduceLeDiff, Nat.reduceLT, Nat.reduceBEq, Nat.reduceDiv, Nat.reduceMod, Nat.reducePow, Nat.reduceMul, Int.reduceToNat, Int.reduceLT, Int.reduceLE]
    repeat' (first | refine WK_go ?_ | refine W_seqL ?_ | refine W_seq ?_ | refine W_block ?_ | ((first | refine W_regL ?_ | refine W_skip ?_ | refine W_exit ?_); simp (maxSteps := 400000) (disch := omega) only [push_cast, ↓reduceIte, reduceCtorEq, Nat.reduceAdd, Nat.reduceSub, Nat.reduceEqDiff, Nat.reduceLeDiff, Nat.reduceLT, Nat.reduceBEq, Nat.reduceDiv, Nat.reduceMod, Nat.reducePow, Nat.reduceMul, Int.reduceToNat, Int.reduceLT, Int.reduceLE, v5, v6]) | refine And.intro (by omega) ?_ | refine And.intro (by intro hq; (try simp only [Bool.and_eq_true, Bool.or_eq_true, Bool.and_eq_false_iff, Bool.or_eq_false_iff, decide_eq_true_eq, decide_eq_false_iff_not, Bool.not_eq_true', Bool.not_eq_false', beq_iff_eq, beq_eq_false_iff_ne, ne_eq] at hq); omega) ?_ | fail)
    refine W_cond (by rfl) (fun hb => ?_) (fun hb => ?_)
    · have hc : 4294967296 ≤ q ∨ 4294967296 * r + e / 4294967296 < q * (Y % 4294967296) := by
        rw [Bool.or_eq_true, decide_eq_true_eq, decide_eq_true_eq] at hb
        by_cases hq : 4294967296 ≤ q
        · exact .inl hq
        · rw [v7 (by omega)] at hb
          exact .inr (hb.resolve_left hq)
      obtain ⟨t1, t2⟩ := H1.step i1 (by rw [hQ]; exact i2) hc
      rw [hQ] at t2
      have v8 : IntKind.u64.wrap (q - 1) = q - 1 := wrapU (by omega)
      have v9 : IntKind.u64.wrap (r + Y / 4294967296) = r + Y / 4294967296 := wrapU (by omega)
      repeat' (first | refine WK_go ?_ | refine W_seqL ?_ | refine W_seq ?_ | refine W_block ?_ | ((first | refine W_regL ?_ | refine W_skip ?_ | refine W_exit ?_); simp (maxSteps := 400000) (disch := omega) only [push_cast, ↓reduceIte, reduceCtorEq, Nat.reduceAdd, Nat.reduceSub, Nat.reduceEqDiff, Nat.reduceLeDiff, Nat.reduceLT, Nat.reduceBEq, Nat.reduceDiv, Nat.reduceMod, Nat.reducePow, Nat.reduceMul, Int.reduceToNat, Int.reduceLT, Int.reduceLE, v8, v9]) | refine And.intro (by omega) ?_ | refine And.intro (by intro hq; (try simp only [Bool.and_eq_true, Bool.or_eq_true, Bool.and_eq_false_iff, Bool.or_eq_false_iff, decide_eq_true_eq, decide_eq_false_iff_not, Bool.not_eq_true', Bool.not_eq_false', beq_iff_eq, beq_eq_false_iff_ne, ne_eq] at hq); omega) ?_ | fail)
      refine W_condD (by rfl) (fun hr => ?_) (fun hr => ?_)
      · have hbr := H1.break t1 (by rw [hQ]; exact t2) (by omega) hr
        rw [hQ] at hbr
        repeat' (first | refine WK_go ?_ | refine W_seqL ?_ | refine W_seq ?_ | refine W_block ?_ | ((first | refine W_regL ?_ | refine W_skip ?_ | refine W_exit ?_); simp (maxSteps := 400000) (disch := omega) only [push_cast, ↓reduceIte, reduceCtorEq, Nat.reduceAdd, Nat.reduceSub, Nat.reduceEqDiff, Nat.reduceLeDiff, Nat.reduceLT, Nat.reduceBEq, Nat.reduceDiv, Nat.reduceMod, Nat.reducePow, Nat.reduceMul, Int.reduceToNat, Int.reduceLT, Int.reduceLE]) | refine And.intro (by omega) ?_ | refine And.intro (by intro hq; (try simp only [Bool.and_eq_true, Bool.or_eq_true, Bool.and_eq_false_iff, Bool.or_eq_false_iff, decide_eq_true_eq, decide_eq_false_iff_not, Bool.not_eq_true', Bool.not_eq_false', beq_iff_eq, beq_eq_false_iff_ne, ne_eq] at hq); omega) ?_ | fail)
        refine ⟨by rfl, ?_⟩
        simp (maxSteps := 400000) (disch := omega) only [push_cast, ↓reduceIte, reduceCtorEq, Nat.reduceAdd, Nat.reduceSub, Nat.reduceEqDiff, Nat.reduceLeDiff, Nat.reduceLT, Nat.reduceBEq, Nat.reduceDiv, Nat.reduceMod, Nat.reducePow, Nat.reduceMul, Int.reduceToNat, Int.reduceLT, Int.reduceLE, S.mk.injEq, List.cons.injEq, Prod.mk.injEq, AV.v.injEq, Value.int.injEq, Value.bool.injEq, Blk.cells.injEq, hbr]
      · repeat' (first | refine WK_go ?_ | refine W_seqL ?_ | refine W_seq ?_ | refine W_block ?_ | ((first | refine W_regL ?_ | refine W_skip ?_ | refine W_exit ?_); simp (maxSteps := 400000) (disch := omega) only [push_cast, ↓reduceIte, reduceCtorEq, Nat.reduceAdd, Nat.reduceSub, Nat.reduceEqDiff, Nat.reduceLeDiff, Nat.reduceLT, Nat.reduceBEq, Nat.reduceDiv, Nat.reduceMod, Nat.reducePow, Nat.reduceMul, Int.reduceToNat, Int.reduceLT, Int.reduceLE]) | refine And.intro (by omega) ?_ | refine And.intro (by intro hq; (try simp only [Bool.and_eq_true, Bool.or_eq_true, Bool.and_eq_false_iff, Bool.or_eq_false_iff, decide_eq_true_eq, decide_eq_false_iff_not, Bool.not_eq_true', Bool.not_eq_false', beq_iff_eq, beq_eq_false_iff_ne, ne_eq] at hq); omega) ?_ | fail)
        refine ⟨(q - 1, r + Y / 4294967296), ⟨t1, t2, by simp only []; omega, by simp only []; omega, by simp only []; omega⟩, by simp only []; omega, by rfl, ?_⟩
        simp (maxSteps := 400000) (disch := omega) only [push_cast, ↓reduceIte, reduceCtorEq, Nat.reduceAdd, Nat.reduceSub, Nat.reduceEqDiff, Nat.reduceLeDiff, Nat.reduceLT, Nat.reduceBEq, Nat.reduceDiv, Nat.reduceMod, Nat.reducePow, Nat.reduceMul, Int.reduceToNat, Int.reduceLT, Int.reduceLE, S.mk.injEq, List.cons.injEq, Prod.mk.injEq, AV.v.injEq, Value.int.injEq, Value.bool.injEq, Blk.cells.injEq]
    · rw [Bool.or_eq_false_iff, decide_eq_false_iff_not, decide_eq_false_iff_not] at hb
      have hst := H1.stop i1 (by rw [hQ]; exact i2) (by rw [v7 (by omega)] at hb; omega)
      rw [hQ] at hst
      repeat' (first | refine WK_go ?_ | refine W_seqL ?_ | refine W_seq ?_ | refine W_block ?_ | ((first | refine W_regL ?_ | refine W_skip ?_ | refine W_exit ?_); simp (maxSteps := 400000) (disch := omega) only [push_cast, ↓reduceIte, reduceCtorEq, Nat.reduceAdd, Nat.reduceSub, Nat.reduceEqDiff, Nat.reduceLeDiff, Nat.reduceLT, Nat.reduceBEq, Nat.reduceDiv, Nat.reduceMod, Nat.reducePow, Nat.reduceMul, Int.reduceToNat, Int.reduceLT, Int.reduceLE]) | refine And.intro (by omega) ?_ | refine And.intro (by intro hq; (try simp only [Bool.and_eq_true, Bool.or_eq_true, Bool.and_eq_false_iff, Bool.or_eq_false_iff, decide_eq_true_eq, decide_eq_false_iff_not, Bool.not_eq_true', Bool.not_eq_false', beq_iff_eq, beq_eq_false_iff_ne, ne_eq] at hq); omega) ?_ | fail)
      refine ⟨by rfl, ?_⟩
      simp (maxSteps := 400000) (disch := omega) only [push_cast, ↓reduceIte, reduceCtorEq, Nat.reduceAdd, Nat.reduceSub, Nat.reduceEqDiff, Nat.reduceLeDiff, Nat.reduceLT, Nat.reduceBEq, Nat.reduceDiv, Nat.reduceMod, Nat.reducePow, Nat.reduceMul, Int.reduceToNat, Int.reduceLT, Int.reduceLE, S.mk.injEq, List.cons.injEq, Prod.mk.injEq, AV.v.injEq, Value.int.injEq, Value.bool.injEq, Blk.cells.injEq, hst]
  generalize hR : Half.r Y u (e / 4294967296) = R1 at *
  have hRb := H1.r_lt
  rw [hR] at hRb
  have H0 : Half Y R1 (e % 4294967296) := ⟨hsu, hRb, we⟩
  have hR' : u * 4294967296 + e / 4294967296 - Q1 * Y = R1 := by rw [← hR, ← hQ]; rfl
  have x1 : IntKind.u64.wrap (IntKind.u64.wrap (IntKind.u64.wrap (u * 4294967296) + e / 4294967296) - IntKind.u64.wrap (Q1 * Y)) = R1 := wrap_rem hR' (by omega)
  obtain ⟨s1', s2', s3', s4', s5'⟩ := H0.start
  have v1' : R1.tdiv (Y / 4294967296) = R1 / (Y / 4294967296) := Int.tdiv_eq_ediv_of_nonneg hRb.1
  have s0' : 0 ≤ R1 / (Y / 4294967296) := Int.ediv_nonneg hRb.1 (by omega)
  have v2' : IntKind.u64.wrap (R1 / (Y / 4294967296)) = R1 / (Y / 4294967296) := wrapU (by omega)
  have s00' : 0 ≤ R1 / (Y / 4294967296) * (Y / 4294967296) := Int.mul_nonneg s0' (by omega)
  have v3' : IntKind.u64.wrap (R1 / (Y / 4294967296) * (Y / 4294967296)) = R1 / (Y / 4294967296) * (Y / 4294967296) := wrapU (by omega)
  have v4' : IntKind.u64.wrap (R1 - R1 / (Y / 4294967296) * (Y / 4294967296)) = R1 % (Y / 4294967296) := by
    rw [show R1 - R1 / (Y / 4294967296) * (Y / 4294967296) = R1 % (Y / 4294967296) by omega]; exact wrapU (by omega)
  simp (maxSteps := 400000) (disch := omega) only [push_cast, ↓reduceIte, reduceCtorEq, Nat.reduceAdd, Nat.reduceSub, Nat.reduceEqDiff, Nat.reduceLeDiff, Nat.reduceLT, Nat.reduceBEq, Nat.reduceDiv, Nat.reduceMod, Nat.reducePow, Nat.reduceMul, Int.reduceToNat, Int.reduceLT, Int.reduceLE]
  repeat' (first | refine WK_go ?_ | refine W_seqL ?_ | refine W_seq ?_ | refine W_block ?_ | ((first | refine W_regL ?_ | refine W_skip ?_ | refine W_exit ?_); simp (maxSteps := 400000) (disch := omega) only [push_cast, ↓reduceIte, reduceCtorEq, Nat.reduceAdd, Nat.reduceSub, Nat.reduceEqDiff, Nat.reduceLeDiff, Nat.reduceLT, Nat.reduceBEq, Nat.reduceDiv, Nat.reduceMod, Nat.reducePow, Nat.reduceMul, Int.reduceToNat, Int.reduceLT, Int.reduceLE, x1, v1', v2', v3', v4']) | refine And.intro (by omega) ?_ | refine And.intro (by intro hq; (try simp only [Bool.and_eq_true, Bool.or_eq_true, Bool.and_eq_false_iff, Bool.or_eq_false_iff, decide_eq_true_eq, decide_eq_false_iff_not, Bool.not_eq_true', Bool.not_eq_false', beq_iff_eq, beq_eq_false_iff_ne, ne_eq] at hq); omega) ?_ | fail)
  generalize hq0' : R1 / (Y / 4294967296) = q0' at *
  generalize hr0' : R1 % (Y / 4294967296) = r0' at *
  generalize hQ' : Half.q Y R1 (e % 4294967296) = Q0 at *
  have hQb' := H0.lt
  rw [hQ] at hQb
  rw [hQ'] at hQb'
  refine W_meetB [(18, uw Q0)] [] ?_ ?_
  · refine W_loopU (fun p : Int × Int => [(18, uw p.1), (16, uw p.2)]) (fun i => []) (fun p => p.1 * (Y / 4294967296) + p.2 = R1 ∧ Q0 ≤ p.1 ∧ p.1 ≤ 4294967297 ∧ 0 ≤ p.2 ∧ p.2 < 4294967296) (fun p => p.1.toNat) (q0', r0') ⟨s1', s2', s3', s4', s5'⟩ (by rfl) (by rfl) (fun p hp => ?_)
    obtain ⟨q, r⟩ := p
    obtain ⟨i1, i2, i3, i4, i5⟩ := hp
    simp only at i1 i2 i3 i4 i5
    have m0 : 0 ≤ q * (Y % 4294967296) := Int.mul_nonneg (by omega) (by omega)
    have v5 : IntKind.u64.wrap (4294967296 * r) = 4294967296 * r := wrapU (by omega)
    have v6 : IntKind.u64.wrap (4294967296 * r + e % 4294967296) = 4294967296 * r + e % 4294967296 := wrapU (by omega)
    have m1 : q < 4294967296 → q * (Y % 4294967296) ≤ 4294967295 * 4294967295 := fun hq => Int.mul_le_mul (by omega) (by omega) (by omega) (by omega)
    have v7 : q < 4294967296 → IntKind.u64.wrap (q * (Y % 4294967296)) = q * (Y % 4294967296) := fun hq => wrapU ⟨m0, by have := m1 hq; omega⟩
    simp (maxSteps := 400000) (disch := omega) only [push_cast, ↓reduceIte, reduceCtorEq, Nat.reduceAdd, Nat.reduceSub, Nat.reduceEqDiff, Nat.reduceLeDiff, Nat.reduceLT, Nat.reduceBEq, Nat.reduceDiv, Nat.reduceMod, Nat.reducePow, Nat.reduceMul, Int.reduceToNat, Int.reduceLT, Int.reduceLE]
    repeat' (first | refine WK_go ?_ | refine W_seqL ?_ | refine W_seq ?_ | refine W_block ?_ | ((first | refine W_regL ?_ | refine W_skip ?_ | refine W_exit ?_); simp (maxSteps := 400000) (disch := omega) only [push_cast, ↓reduceIte, reduceCtorEq, Nat.reduceAdd, Nat.reduceSub, Nat.reduceEqDiff, Nat.reduceLeDiff, Nat.reduceLT, Nat.reduceBEq, Nat.reduceDiv, Nat.reduceMod, Nat.reducePow, Nat.reduceMul, Int.reduceToNat, Int.reduceLT, Int.reduceLE, v5, v6]) | refine And.intro (by omega) ?_ | refine And.intro (by intro hq; (try simp only [Bool.and_eq_true, Bool.or_eq_true, Bool.and_eq_false_iff, Bool.or_eq_false_iff, decide_eq_true_eq, decide_eq_false_iff_not, Bool.not_eq_true', Bool.not_eq_false', beq_iff_eq, beq_eq_false_iff_ne, ne_eq] at hq); omega) ?_ | fail)
    refine W_cond (by rfl) (fun hb => ?_) (fun hb => ?_)
    · have hc : 4294967296 ≤ q ∨ 4294967296 * r + e % 4294967296 < q * (Y % 4294967296) := by
        rw [Bool.or_eq_true, decide_eq_true_eq, decide_eq_true_eq] at hb
        by_cases hq : 4294967296 ≤ q
        · exact .inl hq
        · rw [v7 (by omega)] at hb
          exact .inr (hb.resolve_left hq)
      obtain ⟨t1, t2⟩ := H0.step i1 (by rw [hQ']; exact i2) hc
      rw [hQ'] at t2
      have v8 : IntKind.u64.wrap (q - 1) = q - 1 := wrapU (by omega)
      have v9 : IntKind.u64.wrap (r + Y / 4294967296) = r + Y / 4294967296 := wrapU (by omega)
      repeat' (first | refine WK_go ?_ | refine W_seqL ?_ | refine W_seq ?_ | refine W_block ?_ | ((first | refine W_regL ?_ | refine W_skip ?_ | refine W_exit ?_); simp (maxSteps := 400000) (disch := omega) only [push_cast, ↓reduceIte, reduceCtorEq, Nat.reduceAdd, Nat.reduceSub, Nat.reduceEqDiff, Nat.reduceLeDiff, Nat.reduceLT, Nat.reduceBEq, Nat.reduceDiv, Nat.reduceMod, Nat.reducePow, Nat.reduceMul, Int.reduceToNat, Int.reduceLT, Int.reduceLE, v8, v9]) | refine And.intro (by omega) ?_ | refine And.intro (by intro hq; (try simp only [Bool.and_eq_true, Bool.or_eq_true, Bool.and_eq_false_iff, Bool.or_eq_false_iff, decide_eq_true_eq, decide_eq_false_iff_not, Bool.not_eq_true', Bool.not_eq_false', beq_iff_eq, beq_eq_false_iff_ne, ne_eq] at hq); omega) ?_ | fail)
      refine W_condD (by rfl) (fun hr => ?_) (fun hr => ?_)
      · have hbr := H0.break t1 (by rw [hQ']; exact t2) (by omega) hr
        rw [hQ'] at hbr
        repeat' (first | refine WK_go ?_ | refine W_seqL ?_ | refine W_seq ?_ | refine W_block ?_ | ((first | refine W_regL ?_ | refine W_skip ?_ | refine W_exit ?_); simp (maxSteps := 400000) (disch := omega) only [push_cast, ↓reduceIte, reduceCtorEq, Nat.reduceAdd, Nat.reduceSub, Nat.reduceEqDiff, Nat.reduceLeDiff, Nat.reduceLT, Nat.reduceBEq, Nat.reduceDiv, Nat.reduceMod, Nat.reducePow, Nat.reduceMul, Int.reduceToNat, Int.reduceLT, Int.reduceLE]) | refine And.intro (by omega) ?_ | refine And.intro (by intro hq; (try simp only [Bool.and_eq_true, Bool.or_eq_true, Bool.and_eq_false_iff, Bool.or_eq_false_iff, decide_eq_true_eq, decide_eq_false_iff_not, Bool.not_eq_true', Bool.not_eq_false', beq_iff_eq, beq_eq_false_iff_ne, ne_eq] at hq); omega) ?_ | fail)
        refine ⟨by rfl, ?_⟩
        simp (maxSteps := 400000) (disch := omega) only [push_cast, ↓reduceIte, reduceCtorEq, Nat.reduceAdd, Nat.reduceSub, Nat.reduceEqDiff, Nat.reduceLeDiff, Nat.reduceLT, Nat.reduceBEq, Nat.reduceDiv, Nat.reduceMod, Nat.reducePow, Nat.reduceMul, Int.reduceToNat, Int.reduceLT, Int.reduceLE, S.mk.injEq, List.cons.injEq, Prod.mk.injEq, AV.v.injEq, Value.int.injEq, Value.bool.injEq, Blk.cells.injEq, hbr]
      · repeat' (first | refine WK_go ?_ | refine W_seqL ?_ | refine W_seq ?_ | refine W_block ?_ | ((first | refine W_regL ?_ | refine W_skip ?_ | refine W_exit ?_); simp (maxSteps := 400000) (disch := omega) only [push_cast, ↓reduceIte, reduceCtorEq, Nat.reduceAdd, Nat.reduceSub, Nat.reduceEqDiff, Nat.reduceLeDiff, Nat.reduceLT, Nat.reduceBEq, Nat.reduceDiv, Nat.reduceMod, Nat.reducePow, Nat.reduceMul, Int.reduceToNat, Int.reduceLT, Int.reduceLE]) | refine And.intro (by omega) ?_ | refine And.intro (by intro hq; (try simp only [Bool.and_eq_true, Bool.or_eq_true, Bool.and_eq_false_iff, Bool.or_eq_false_iff, decide_eq_true_eq, decide_eq_false_iff_not, Bool.not_eq_true', Bool.not_eq_false', beq_iff_eq, beq_eq_false_iff_ne, ne_eq] at hq); omega) ?_ | fail)
        refine ⟨(q - 1, r + Y / 4294967296), ⟨t1, t2, by simp only []; omega, by simp only []; omega, by simp only []; omega⟩, by simp only []; omega, by rfl, ?_⟩
        simp (maxSteps := 400000) (disch := omega) only [push_cast, ↓reduceIte, reduceCtorEq, Nat.reduceAdd, Nat.reduceSub, Nat.reduceEqDiff, Nat.reduceLeDiff, Nat.reduceLT, Nat.reduceBEq, Nat.reduceDiv, Nat.reduceMod, Nat.reducePow, Nat.reduceMul, Int.reduceToNat, Int.reduceLT, Int.reduceLE, S.mk.injEq, List.cons.injEq, Prod.mk.injEq, AV.v.injEq, Value.int.injEq, Value.bool.injEq, Blk.cells.injEq]
    · rw [Bool.or_eq_false_iff, decide_eq_false_iff_not, decide_eq_false_iff_not] at hb
      have hst := H0.stop i1 (by rw [hQ']; exact i2) (by rw [v7 (by omega)] at hb; omega)
      rw [hQ'] at hst
      repeat' (first | refine WK_go ?_ | refine W_seqL ?_ | refine W_seq ?_ | refine W_block ?_ | ((first | refine W_regL ?_ | refine W_skip ?_ | refine W_exit ?_); simp (maxSteps := 400000) (disch := omega) only [push_cast, ↓reduceIte, reduceCtorEq, Nat.reduceAdd, Nat.reduceSub, Nat.reduceEqDiff, Nat.reduceLeDiff, Nat.reduceLT, Nat.reduceBEq, Nat.reduceDiv, Nat.reduceMod, Nat.reducePow, Nat.reduceMul, Int.reduceToNat, Int.reduceLT, Int.reduceLE]) | refine And.intro (by omega) ?_ | refine And.intro (by intro hq; (try simp only [Bool.and_eq_true, Bool.or_eq_true, Bool.and_eq_false_iff, Bool.or_eq_false_iff, decide_eq_true_eq, decide_eq_false_iff_not, Bool.not_eq_true', Bool.not_eq_false', beq_iff_eq, beq_eq_false_iff_ne, ne_eq] at hq); omega) ?_ | fail)
      refine ⟨by rfl, ?_⟩
      simp (maxSteps := 400000) (disch := omega) only [push_cast, ↓reduceIte, reduceCtorEq, Nat.reduceAdd, Nat.reduceSub, Nat.reduceEqDiff, Nat.reduceLeDiff, Nat.reduceLT, Nat.reduceBEq, Nat.reduceDiv, Nat.reduceMod, Nat.reducePow, Nat.reduceMul, Int.reduceToNat, Int.reduceLT, Int.reduceLE, S.mk.injEq, List.cons.injEq, Prod.mk.injEq, AV.v.injEq, Value.int.injEq, Value.bool.injEq, Blk.cells.injEq, hst]
  have hQR := hld (e / 4294967296) (e % 4294967296) (by omega) H1 (by rw [hR]; exact H0)
  rw [hR, hQ, hQ'] at hQR
  have hR0 : R1 * 4294967296 + e % 4294967296 - Q0 * Y = Half.r Y R1 (e % 4294967296) := by rw [← hQ']; rfl
  have hRb0 := H0.r_lt
  have x2 := wrap_rem hR0 (by omega)
  have x3 : IntKind.u64.wrap (Q1 * 4294967296) = Q1 * 4294967296 := wrapU (by omega)
  have x4 : IntKind.u64.wrap (Q1 * 4294967296 + Q0) = Q1 * 4294967296 + Q0 := wrapU (by omega)
  have x5 : (Half.r Y R1 (e % 4294967296)).fdiv (2 ^ (64 - n)) = Half.r Y R1 (e % 4294967296) / 2 ^ (64 - n) := Int.fdiv_eq_ediv_of_nonneg _ (Int.le_of_lt hk)
  simp (maxSteps := 400000) (disch := omega) only [push_cast, ↓reduceIte, reduceCtorEq, Nat.reduceAdd, Nat.reduceSub, Nat.reduceEqDiff, Nat.reduceLeDiff, Nat.reduceLT, Nat.reduceBEq, Nat.reduceDiv, Nat.reduceMod, Nat.reducePow, Nat.reduceMul, Int.reduceToNat, Int.reduceLT, Int.reduceLE]
  repeat' (first | refine WK_go ?_ | refine W_seqL ?_ | refine W_seq ?_ | refine W_block ?_ | ((first | refine W_regL ?_ | refine W_skip ?_ | refine W_exit ?_); simp (maxSteps := 400000) (disch := omega) only [push_cast, ↓reduceIte, reduceCtorEq, Nat.reduceAdd, Nat.reduceSub, Nat.reduceEqDiff, Nat.reduceLeDiff, Nat.reduceLT, Nat.reduceBEq, Nat.reduceDiv, Nat.reduceMod, Nat.reducePow, Nat.reduceMul, Int.reduceToNat, Int.reduceLT, Int.reduceLE, x2, x3, x4, w2, x5]) | refine And.intro (by omega) ?_ | refine And.intro (by intro hq; (try simp only [Bool.and_eq_true, Bool.or_eq_true, Bool.and_eq_false_iff, Bool.or_eq_false_iff, decide_eq_true_eq, decide_eq_false_iff_not, Bool.not_eq_true', Bool.not_eq_false', beq_iff_eq, beq_eq_false_iff_ne, ne_eq] at hq); omega) ?_ | fail)
  rw [hQR.1, hQR.2]
  exact W_ret ⟨[_, _], ⟨rfl, rfl, rfl⟩, rfl⟩
end Go.Proofs.Ytbdnnicodailcaa

/- Division, rounded up. -/
namespace Go.Proofs.Ytbdnnicodailcaa
set_option linter.unusedVariables false
def cdiv (n d : Int) : Int := -(-n / d)
theorem lt_mul {a b w : Int} (hw : 0 < w) (h : a * w < b * w) : a < b := Int.lt_of_mul_lt_mul_right h (Int.le_of_lt hw)
theorem cdiv_le {n d : Int} (hd : 0 < d) : n ≤ cdiv n d * d ∧ cdiv n d * d < n + d := by
  unfold cdiv
  have a1 := Int.ediv_mul_add_emod (-n) d
  have a2 := Int.emod_nonneg (-n) (Int.ne_of_gt hd)
  have a3 := Int.emod_lt_of_pos (-n) hd
  rw [Int.neg_mul]
  omega
/-- it is the least that is enough -/
theorem cdiv_iff {n d q : Int} (hd : 0 < d) : cdiv n d ≤ q ↔ n ≤ q * d := by
  obtain ⟨h1, h2⟩ := cdiv_le (n := n) hd
  constructor
  · intro h
    have := Int.mul_le_mul_of_nonneg_right h (Int.le_of_lt hd)
    omega
  · intro h
    have : cdiv n d * d < (q + 1) * d := by rw [Int.add_mul]; omega
    have := lt_mul hd this
    omega
theorem cdiv_nn {n d : Int} (hd : 0 < d) (h : 0 ≤ n) : 0 ≤ cdiv n d := by
  obtain ⟨h1, h2⟩ := cdiv_le (n := n) hd
  have : (-1) * d < cdiv n d * d := by omega
  have := lt_mul hd this
  omega
theorem cdiv_top {n d M : Int} (hd : 0 < d) (h : 0 ≤ n) (hM : n ≤ M) (hM0 : 0 ≤ M) : cdiv n d ≤ M := (cdiv_iff hd).2 (by
  have : M * 1 ≤ M * d := Int.mul_le_mul_of_nonneg_left (by omega) hM0
  omega)
theorem up_eq {a n : Int} (ha : 0 ≤ a) (hn : 0 < n) : (a + n - 1).tdiv n = cdiv a n := by
  rw [Int.tdiv_eq_ediv_of_nonneg (by omega)]
  obtain ⟨h1, h2⟩ := cdiv_le (n := a) hn
  have b1 := Int.ediv_mul_add_emod (a + n - 1) n
  have b2 := Int.emod_nonneg (a + n - 1) (Int.ne_of_gt hn)
  have b3 := Int.emod_lt_of_pos (a + n - 1) hn
  generalize cdiv a n = c at *
  generalize (a + n - 1) / n = q at *
  generalize (a + n - 1) % n = r at *
  have d1 := lt_mul (a := c) (b := q + 1) hn (by rw [Int.add_mul]; omega)
  have d2 := lt_mul (a := q) (b := c + 1) hn (by rw [Int.add_mul]; omega)
  omega
/-- by quotient and rest -/
theorem cdiv_qr {a n : Int} (ha : 0 ≤ a) (hn : 0 < n) : (if 0 < a % n then a / n + 1 else a / n) = cdiv a n := by
  obtain ⟨h1, h2⟩ := cdiv_le (n := a) hn
  have b1 := Int.ediv_mul_add_emod a n
  have b2 := Int.emod_nonneg a (Int.ne_of_gt hn)
  have b3 := Int.emod_lt_of_pos a hn
  generalize cdiv a n = c at *
  generalize a / n = q at *
  generalize a % n = r at *
  split
  · have d1 := lt_mul (a := c) (b := q + 2) hn (by rw [Int.add_mul]; omega)
    have d2 := lt_mul (a := q) (b := c) hn (by omega)
    omega
  · have d1 := lt_mul (a := c) (b := q + 1) hn (by rw [Int.add_mul]; omega)
    have d2 := Int.mul_le_mul_of_nonneg_right (show q ≤ q by omega) (Int.le_of_lt hn)
    have d3 := lt_mul (a := q - 1) (b := c) hn (by rw [Int.sub_mul]; omega)
    omega
end Go.Proofs.Ytbdnnicodailcaa

/- Bridges: lines of influence, effects, the worst ones: plain. -/
namespace Go.Proofs.Ytbdnnicodailcaa
set_option linter.unusedVariables false
structure Frc where
  x : Int
  p : Int
def dF : Frc := ⟨0, 0⟩
abbrev sf (t : List Frc) (i : Nat) : Frc := t.getD i dF
/-- the line of a moment -/
def momF (l x a : Int) : Int := if a < 0 ∨ l < a then 0 else if a ≤ x then a * (l - x) else x * (l - a)
/-- the line of an end -/
def endF (l : Int) (r : Bool) (a : Int) : Int := if a < 0 ∨ l < a then 0 else if r = true then a else l - a
/-- what the first n axles do -/
def effN (f : Int → Int) (t : List Frc) (s : Int) : Nat → Int
  | 0 => 0
  | n + 1 => effN f t s n + (sf t n).p * f (s - (sf t n).x)
def eff (f : Int → Int) (t : List Frc) (s : Int) : Int := effN f t s t.length
/-- the next place -/
def wstep (e : Int → Int) (o : Option Int) (s : Int) : Option Int :=
  match o with
  | none => some s
  | some a => if e a < e s ∨ (e s = e a ∧ s < a) then some s else some a
/-- behind i axles, and j kinks -/
def wJ (e : Int → Int) (t : List Frc) (ks : List Int) (o : Option Int) (i : Nat) : Nat → Option Int
  | 0 => o
  | j + 1 => wstep e (wJ e t ks o i j) (ks.getD j 0 + (sf t i).x)
def wI (e : Int → Int) (t : List Frc) (ks : List Int) : Nat → Option Int
  | 0 => none
  | i + 1 => wJ e t ks (wI e t ks i) i ks.length
/-- the place of the worst effect -/
def wst (e : Int → Int) (t : List Frc) (ks : List Int) : Option Int := wI e t ks t.length
/-- what is said of the best place -/
def Best (e : Int → Int) (B : Int → Prop) (a : Int) : Prop := B a ∧ ∀ s, B s → e s < e a ∨ (e s = e a ∧ a ≤ s)
def BestO (e : Int → Int) (B : Int → Prop) : Option Int → Prop
  | none => ∀ s, ¬ B s
  | some a => Best e B a
theorem BestO.congr {e : Int → Int} {B C : Int → Prop} {o : Option Int} (h : BestO e B o) (hc : ∀ s, B s ↔ C s) : BestO e C o := by
  cases o with
  | none => exact fun s hs => h s ((hc s).2 hs)
  | some a => exact ⟨(hc a).1 h.1, fun s hs => h.2 s ((hc s).2 hs)⟩
/-- between neighbouring kinks a line lies below its chord, and nothing is outside -/
structure Line (f : Int → Int) (ks : List Int) : Prop where
  nn : ∀ a, 0 ≤ f a
  lo : ∀ a, (∀ k ∈ ks, a < k) → f a = 0
  hi : ∀ a, (∀ k ∈ ks, k < a) → f a = 0
  mid : ∀ a b s, a ≤ s → s ≤ b → (∀ k ∈ ks, k ≤ a ∨ b ≤ k) → f s * (b - a) ≤ f a * (b - s) + f b * (s - a)
theorem Line.shift {f : Int → Int} {ks : List Int} (h : Line f ks) (d : Int) : Line (fun a => f (a - d)) (ks.map (fun k => d + k)) where
  nn := fun a => h.nn _
  lo := fun a ha => h.lo _ (fun k hk => by have := ha _ (List.mem_map.2 ⟨k, hk, rfl⟩); omega)
  hi := fun a ha => h.hi _ (fun k hk => by have := ha _ (List.mem_map.2 ⟨k, hk, rfl⟩); omega)
  mid := fun a b s h1 h2 h3 => by
    have := h.mid (a - d) (b - d) (s - d) (by omega) (by omega) (fun k hk => by have := h3 _ (List.mem_map.2 ⟨k, hk, rfl⟩); omega)
    have e1 : b - d - (a - d) = b - a := by omega
    have e2 : b - d - (s - d) = b - s := by omega
    have e3 : s - d - (a - d) = s - a := by omega
    rw [e1, e2, e3] at this
    exact this
end Go.Proofs.Ytbdnnicodailcaa

/- Pavements: plain. -/
namespace Go.Proofs.Ytbdnnicodailcaa
set_option linter.unusedVariables false
structure Pav where
  load : Int
  life : Int
  power : Int
/-- the wear of an axle, behind k steps -/
def wN (r : Int) : Nat → Int
  | 0 => r
  | k + 1 => if wN r k ≤ 1073741824 then cdiv (wN r k * r) 1000 else wN r k
def wR (p : Pav) (f : Frc) : Int := cdiv (f.p * 1000) p.load
def wA (p : Pav) (f : Frc) : Int := wN (wR p f) (p.power - 1).toNat
/-- the wears of the first n axles -/
def wS (p : Pav) (t : List Frc) : Nat → Int
  | 0 => 0
  | n + 1 => wS p t n + wA p (sf t n)
def wB (p : Pav) (t : List Frc) (i : Nat) : Bool := decide (wA p (sf t i) ≤ 1073741824) && decide (wS p t (i + 1) ≤ 1073741824)
def wOK (p : Pav) (t : List Frc) : Bool := (List.range t.length).all (wB p t)
theorem wOK_iff {p : Pav} {t : List Frc} : wOK p t = true ↔ ∀ i, i < t.length → wA p (sf t i) ≤ 1073741824 ∧ wS p t (i + 1) ≤ 1073741824 := by
  unfold wOK wB
  simp only [List.all_eq_true, List.mem_range, Bool.and_eq_true, decide_eq_true_eq]
theorem wN_nn {r : Int} (h : 0 ≤ r) : ∀ k, 0 ≤ wN r k
  | 0 => h
  | k + 1 => by
    simp only [wN]
    have := wN_nn h k
    split
    · exact cdiv_nn (by omega) (Int.mul_nonneg this h)
    · exact this
theorem wN_le {r : Int} (h : 0 ≤ r ∧ r ≤ 1073741824) : ∀ k, wN r k ≤ 1152921504606846976
  | 0 => by simp only [wN]; omega
  | k + 1 => by
    simp only [wN]
    have h1 := wN_nn h.1 k
    split
    · rename_i q
      have h2 : wN r k * r ≤ 1073741824 * 1073741824 := Int.mul_le_mul q h.2 h.1 (by omega)
      exact cdiv_top (by omega) (Int.mul_nonneg h1 h.1) (by omega) (by omega)
    · exact wN_le h k
theorem wS_nn {p : Pav} {t : List Frc} (h : ∀ i, i < t.length → 0 ≤ wR p (sf t i)) : ∀ n, n ≤ t.length → 0 ≤ wS p t n
  | 0, _ => Int.le_refl _
  | n + 1, hn => by
    have h1 := wS_nn h n (by omega)
    have h2 : 0 ≤ wA p (sf t n) := wN_nn (h n hn) _
    simp only [wS]; omega
end Go.Proofs.Ytbdnnicodailcaa

/- Parts: rounded down, rounded up. -/
namespace Go.Proofs.Ytbdnnicodailcaa
open Go Sy
set_option maxRecDepth 100000
set_option maxHeartbeats 4000000
set_option linter.unusedVariables false
set_option linter.unusedSimpArgs false
theorem mulP {a b c d : Int} (h0 : 0 ≤ b) (h1 : a ≤ c) (h2 : b ≤ d) (h3 : 0 ≤ c) : a * b ≤ c * d := Int.mul_le_mul h1 h2 h0 h3
theorem c89 (x y : Int) (hx : 0 ≤ x ∧ x < 18446744073709551616) (hy : 0 ≤ y ∧ y < 18446744073709551616) : Sy.Fn Try.prog 89 [uw x, uw y] (.tup [uw (x * y / 18446744073709551616), uw (x * y % 18446744073709551616)]) := by
  obtain ⟨n, rfl⟩ : ∃ n : Nat, x = n := ⟨x.toNat, by omega⟩
  obtain ⟨m, rfl⟩ : ∃ m : Nat, y = m := ⟨y.toNat, by omega⟩
  have h := fn89 n m (by omega) (by omega)
  have e : (n : Int) * m = ((n * m : Nat) : Int) := (Int.natCast_mul n m).symm
  rw [e]
  exact h
theorem fn59 (n d : Int) (hn : 0 ≤ n ∧ n ≤ 4611686018427387904) (hd : 0 < d ∧ d ≤ 4611686018427387903) : Sy.Fn Try.prog 59 [iv n, iv d] (iv (cdiv n d)) := by
  refine Fn_of_W mixed Xt59 rfl ?_
  have e := up_eq hn.1 hd.1
  have b := cdiv_nn (n := n) hd.1 hn.1
  have c := cdiv_top hd.1 hn.1 hn.2 (by omega)
  repeat' (first | refine WK_go ?_ | refine W_seqL ?_ | refine W_seq ?_ | refine W_block ?_ | ((first | refine W_regL ?_ | refine W_skip ?_ | refine W_exit ?_); simp (maxSteps := 400000) (disch := omega) only [push_cast, ↓reduceIte, reduceCtorEq, Nat.reduceAdd, Nat.reduceSub, Nat.reduceEqDiff, Nat.reduceLeDiff, Nat.reduceLT, Nat.reduceBEq, Nat.reduceDiv, Nat.reduceMod, Nat.reducePow, Nat.reduceMul, Int.reduceToNat, Int.reduceLT, Int.reduceLE, e]) | refine And.intro (by omega) ?_ | refine And.intro (by intro hq; (try simp only [Bool.and_eq_true, Bool.or_eq_true, Bool.and_eq_false_iff, Bool.or_eq_false_iff, decide_eq_true_eq, decide_eq_false_iff_not, Bool.not_eq_true', Bool.not_eq_false', beq_iff_eq, beq_eq_false_iff_ne, ne_eq] at hq); omega) ?_ | fail)
  exact W_ret ⟨[_], ⟨rfl, rfl⟩, rfl⟩
def inR (x lo hi : Int) : Bool := decide (lo ≤ x) && decide (x ≤ hi)
theorem inR_iff {x lo hi : Int} : inR x lo hi = true ↔ lo ≤ x ∧ x ≤ hi := by simp [inR]
theorem fn48 (x lo hi : Int) : Sy.Fn Try.prog 48 [iv x, iv lo, iv hi] (bv (inR x lo hi)) := by
  refine Fn_of_W mixed Xt48 rfl ?_
  repeat' (first | refine WK_go ?_ | refine W_seqL ?_ | refine W_seq ?_ | refine W_block ?_ | ((first | refine W_regL ?_ | refine W_skip ?_ | refine W_exit ?_); simp (maxSteps := 400000) (disch := omega) only [push_cast, ↓reduceIte, reduceCtorEq, Nat.reduceAdd, Nat.reduceSub, Nat.reduceEqDiff, Nat.reduceLeDiff, Nat.reduceLT, Nat.reduceBEq, Nat.reduceDiv, Nat.reduceMod, Nat.reducePow, Nat.reduceMul, Int.reduceToNat, Int.reduceLT, Int.reduceLE]) | refine And.intro (by omega) ?_ | refine And.intro (by intro hq; (try simp only [Bool.and_eq_true, Bool.or_eq_true, Bool.and_eq_false_iff, Bool.or_eq_false_iff, decide_eq_true_eq, decide_eq_false_iff_not, Bool.not_eq_true', Bool.not_eq_false', beq_iff_eq, beq_eq_false_iff_ne, ne_eq] at hq); omega) ?_ | fail)
  exact W_ret ⟨[_], ⟨rfl, rfl⟩, rfl⟩
theorem fn61 (x lo hi : Int) : Sy.Fn Try.prog 61 [iv x, iv lo, iv hi] (bv (inR x lo hi)) := by
  refine Fn_of_W mixed Xt61 rfl ?_
  repeat' (first | refine WK_go ?_ | refine W_seqL ?_ | refine W_seq ?_ | refine W_block ?_ | ((first | refine W_regL ?_ | refine W_skip ?_ | refine W_exit ?_); simp (maxSteps := 400000) (disch := omega) only [push_cast, ↓reduceIte, reduceCtorEq, Nat.reduceAdd, Nat.reduceSub, Nat.reduceEqDiff, Nat.reduceLeDiff, Nat.reduceLT, Nat.reduceBEq, Nat.reduceDiv, Nat.reduceMod, Nat.reducePow, Nat.reduceMul, Int.reduceToNat, Int.reduceLT, Int.reduceLE]) | refine And.intro (by omega) ?_ | refine And.intro (by intro hq; (try simp only [Bool.and_eq_true, Bool.or_eq_true, Bool.and_eq_false_iff, Bool.or_eq_false_iff, decide_eq_true_eq, decide_eq_false_iff_not, Bool.not_eq_true', Bool.not_eq_false', beq_iff_eq, beq_eq_false_iff_ne, ne_eq] at hq); omega) ?_ | fail)
  exact W_ret ⟨[_], ⟨rfl, rfl⟩, rfl⟩
/-- a part, rounded up -/
theorem fn56 (a b d : Int) (ha : 0 ≤ a ∧ a ≤ 9223372036854775807) (hb : 0 ≤ b ∧ b ≤ 9223372036854775807) (hd : 0 < d ∧ d ≤ 9223372036854775807) (hq : a * b < 9223372036854775807 * d) :
    Sy.Fn Try.prog 56 [iv a, iv b, iv d] (iv (cdiv (a * b) d)) := by
  refine Fn_of_W mixed Xt56 rfl ?_
  have h0 : 0 ≤ a * b := Int.mul_nonneg ha.1 hb.1
  have c89 := c89 a b (by omega) (by omega)
  have hhi : a * b / 18446744073709551616 < d := by
    rw [Int.ediv_lt_iff_lt_mul (by omega)]; omega
  have hhi0 : 0 ≤ a * b / 18446744073709551616 := Int.ediv_nonneg h0 (by omega)
  have hlo := Int.emod_nonneg (a * b) (show (18446744073709551616 : Int) ≠ 0 by omega)
  have hlo1 := Int.emod_lt_of_pos (a * b) (show (0 : Int) < 18446744073709551616 by omega)
  have c90 := fn90 (a * b / 18446744073709551616) (a * b % 18446744073709551616) d ⟨hhi0, hhi⟩ ⟨hlo, hlo1⟩ (by omega)
  have e : a * b / 18446744073709551616 * 18446744073709551616 + a * b % 18446744073709551616 = a * b := Int.ediv_mul_add_emod _ _
  have w1 : IntKind.u64.wrap a = a := wrapU ⟨by omega, by omega⟩
  have w2 : IntKind.u64.wrap b = b := wrapU ⟨by omega, by omega⟩
  have w3 : IntKind.u64.wrap d = d := wrapU ⟨by omega, by omega⟩
  rw [e] at c90
  have hqr := cdiv_qr (a := a * b) (n := d) h0 hd.1
  have q0 : 0 ≤ a * b / d := Int.ediv_nonneg h0 (by omega)
  have q1 : a * b / d < 9223372036854775807 := by rw [Int.ediv_lt_iff_lt_mul hd.1]; exact hq
  have r0 := Int.emod_nonneg (a * b) (Int.ne_of_gt hd.1)
  have r1 := Int.emod_lt_of_pos (a * b) hd.1
  repeat' (first | refine WK_go ?_ | refine W_seqL ?_ | refine W_seq ?_ | refine W_block ?_ | ((first | refine W_regL ?_ | refine W_skip ?_ | refine W_exit ?_ | refine CallC.now (c89) ?_ | refine CallC.now (c90) ?_); simp (maxSteps := 400000) (disch := omega) only [push_cast, ↓reduceIte, reduceCtorEq, Nat.reduceAdd, Nat.reduceSub, Nat.reduceEqDiff, Nat.reduceLeDiff, Nat.reduceLT, Nat.reduceBEq, Nat.reduceDiv, Nat.reduceMod, Nat.reducePow, Nat.reduceMul, Int.reduceToNat, Int.reduceLT, Int.reduceLE, w1, w2, w3]) | refine And.intro (by omega) ?_ | refine And.intro (by intro hq; (try simp only [Bool.and_eq_true, Bool.or_eq_true, Bool.and_eq_false_iff, Bool.or_eq_false_iff, decide_eq_true_eq, decide_eq_false_iff_not, Bool.not_eq_true', Bool.not_eq_false', beq_iff_eq, beq_eq_false_iff_ne, ne_eq] at hq); omega) ?_ | fail)
  have w4 : IntKind.u64.wrap (a * b / d + 1) = a * b / d + 1 := wrapU ⟨by omega, by omega⟩
  refine W_meet [(9, uw (cdiv (a * b) d))] [] ?_ ?_
  · refine W_condD (by rfl) (fun h => ?_) (fun h => ?_)
    · rw [if_pos h] at hqr
      repeat' (first | refine WK_go ?_ | refine W_seqL ?_ | refine W_seq ?_ | refine W_block ?_ | ((first | refine W_regL ?_ | refine W_skip ?_ | refine W_exit ?_); simp (maxSteps := 400000) (disch := omega) only [push_cast, ↓reduceIte, reduceCtorEq, Nat.reduceAdd, Nat.reduceSub, Nat.reduceEqDiff, Nat.reduceLeDiff, Nat.reduceLT, Nat.reduceBEq, Nat.reduceDiv, Nat.reduceMod, Nat.reducePow, Nat.reduceMul, Int.reduceToNat, Int.reduceLT, Int.reduceLE, w4]) | refine And.intro (by omega) ?_ | refine And.intro (by intro hq; (try simp only [Bool.and_eq_true, Bool.or_eq_true, Bool.and_eq_false_iff, Bool.or_eq_false_iff, decide_eq_true_eq, decide_eq_false_iff_not, Bool.not_eq_true', Bool.not_eq_false', beq_iff_eq, beq_eq_false_iff_ne, ne_eq] at hq); omega) ?_ | fail)
      rw [hqr]; exact ⟨rfl, rfl⟩
    · rw [if_neg h] at hqr
      repeat' (first | refine WK_go ?_ | refine W_seqL ?_ | refine W_seq ?_ | refine W_block ?_ | ((first | refine W_regL ?_ | refine W_skip ?_ | refine W_exit ?_); simp (maxSteps := 400000) (disch := omega) only [push_cast, ↓reduceIte, reduceCtorEq, Nat.reduceAdd, Nat.reduceSub, Nat.reduceEqDiff, Nat.reduceLeDiff, Nat.reduceLT, Nat.reduceBEq, Nat.reduceDiv, Nat.reduceMod, Nat.reducePow, Nat.reduceMul, Int.reduceToNat, Int.reduceLT, Int.reduceLE]) | refine And.intro (by omega) ?_ | refine And.intro (by intro hq; (try simp only [Bool.and_eq_true, Bool.or_eq_true, Bool.and_eq_false_iff, Bool.or_eq_false_iff, decide_eq_true_eq, decide_eq_false_iff_not, Bool.not_eq_true', Bool.not_eq_false', beq_iff_eq, beq_eq_false_iff_ne, ne_eq] at hq); omega) ?_ | fail)
      rw [hqr]; exact ⟨rfl, rfl⟩
  have w5 : IntKind.i64.wrap (cdiv (a * b) d) = cdiv (a * b) d := wrap64 ⟨by split at hqr <;> omega, by split at hqr <;> omega⟩
  simp (maxSteps := 400000) (disch := omega) only [push_cast, ↓reduceIte, reduceCtorEq, Nat.reduceAdd, Nat.reduceSub, Nat.reduceEqDiff, Nat.reduceLeDiff, Nat.reduceLT, Nat.reduceBEq, Nat.reduceDiv, Nat.reduceMod, Nat.reducePow, Nat.reduceMul, Int.reduceToNat, Int.reduceLT, Int.reduceLE]
  repeat' (first | refine WK_go ?_ | refine W_seqL ?_ | refine W_seq ?_ | refine W_block ?_ | ((first | refine W_regL ?_ | refine W_skip ?_ | refine W_exit ?_); simp (maxSteps := 400000) (disch := omega) only [push_cast, ↓reduceIte, reduceCtorEq, Nat.reduceAdd, Nat.reduceSub, Nat.reduceEqDiff, Nat.reduceLeDiff, Nat.reduceLT, Nat.reduceBEq, Nat.reduceDiv, Nat.reduceMod, Nat.reducePow, Nat.reduceMul, Int.reduceToNat, Int.reduceLT, Int.reduceLE, w5]) | refine And.intro (by omega) ?_ | refine And.intro (by intro hq; (try simp only [Bool.and_eq_true, Bool.or_eq_true, Bool.and_eq_false_iff, Bool.or_eq_false_iff, decide_eq_true_eq, decide_eq_false_iff_not, Bool.not_eq_true', Bool.not_eq_false', beq_iff_eq, beq_eq_false_iff_ne, ne_eq] at hq); omega) ?_ | fail)
  exact W_ret ⟨[_], ⟨rfl, rfl⟩, rfl⟩
end Go.Proofs.Ytbdnnicodailcaa

