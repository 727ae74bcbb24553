/- Part 3 of the proof of: The worst moments of all spans, what is not borne, and how much of a train is borne, are what the definitions say, or refused. -/
import Derived.Test.YtbdnnicodailcaaP2
import Derived.Test.YtbdnnicodailcaaChecked
import Derived.Lib.Mul64
import Derived.Laws.Bits64b
/- Print of my own generator (wip/sy/gen2.lean). -/
namespace Go.Proofs.Ytbdnnicodailcaa
open Go Sy
set_option maxRecDepth 100000
/- carried: [11, 13] -/
/- carried: [19, 20] -/
/- carried: [21, 22, 23] -/
/- carried: [27] -/
def Xn9_1 : C := regL [1, 2, 3] none [⟨some 3, .box true 24 (.tmp 0), none⟩, ⟨some 6, .mv (.const (.bool false)), none⟩]
def Xn9_4 : C := regL [1, 2, 3, 26] none [⟨some 19, .ld 24 6 true (.tmp 3), none⟩, ⟨some 20, .mv (.tmp 1), none⟩, ⟨some 21, .call 12 [.tmp 19, .tmp 20], none⟩, ⟨some 22, .mv (.tmp 21), none⟩, ⟨some 23, .ld 24 6 true (.tmp 3), some (22, false)⟩, ⟨some 24, .mv (.tmp 1), some (22, false)⟩, ⟨some 25, .call 27 [.tmp 23, .tmp 24], some (22, false)⟩, ⟨some 26, .pick 22 (.const (.bool true)) (.tmp 25), none⟩]
def Xn9_7 : C := regL [6] none [⟨some 27, .call 13 [], none⟩, ⟨some 6, .mv (.tmp 27), none⟩]
def Xn9_6 : C := .seq Xn9_7 .ret
def Xn9_5 : C := .cond (.tmp 26) Xn9_6 .skip
def Xn9_3 : C := .seq Xn9_4 Xn9_5
def Xn9_11 : C := regL [1, 2, 3, 7, 8] none [⟨some 29, .ld 24 6 true (.tmp 3), none⟩, ⟨some 30, .mv (.tmp 1), none⟩, ⟨some 31, .call 37 [.tmp 29, .tmp 30], none⟩, ⟨some 28, .mv (.tmp 31), none⟩, ⟨some 32, .ext 0 (.tmp 28), none⟩, ⟨some 33, .ext 1 (.tmp 28), none⟩, ⟨some 7, .mv (.tmp 32), none⟩, ⟨some 8, .mv (.tmp 33), none⟩]
def Xn9_13 : C := regL [1, 2, 3, 7, 8, 9, 10] none [⟨some 35, .ld 24 6 true (.tmp 3), none⟩, ⟨some 36, .mv (.tmp 1), none⟩, ⟨some 37, .call 38 [.tmp 35, .tmp 36], none⟩, ⟨some 34, .mv (.tmp 37), none⟩, ⟨some 38, .ext 0 (.tmp 34), none⟩, ⟨some 39, .ext 1 (.tmp 34), none⟩, ⟨some 9, .mv (.tmp 38), none⟩, ⟨some 10, .mv (.tmp 39), none⟩]
def Xn9_15 : C := regL [1, 2, 3, 7, 8, 9, 10, 11, 12] none [⟨some 41, .ld 24 6 true (.tmp 3), none⟩, ⟨some 42, .mv (.tmp 1), none⟩, ⟨some 43, .mv (.tmp 2), none⟩, ⟨some 44, .call 28 [.tmp 41, .tmp 42, .tmp 43], none⟩, ⟨some 40, .mv (.tmp 44), none⟩, ⟨some 45, .ext 0 (.tmp 40), none⟩, ⟨some 46, .ext 1 (.tmp 40), none⟩, ⟨some 11, .alc 29 (.agg #[.int .i64 0, .int .i64 0, .int .i64 0, .int .i64 0]), none⟩, ⟨none, .st 29 4 (.tmp 11) (.tmp 45), none⟩, ⟨some 12, .mv (.tmp 46), none⟩]
def Xn9_17 : C := regL [1, 2, 3, 7, 8, 9, 10, 11, 12, 13, 14] none [⟨some 48, .ld 24 6 true (.tmp 3), none⟩, ⟨some 49, .mv (.tmp 1), none⟩, ⟨some 50, .mv (.tmp 2), none⟩, ⟨some 51, .call 39 [.tmp 48, .tmp 49, .tmp 50], none⟩, ⟨some 47, .mv (.tmp 51), none⟩, ⟨some 52, .ext 0 (.tmp 47), none⟩, ⟨some 53, .ext 1 (.tmp 47), none⟩, ⟨some 13, .alc 29 (.agg #[.int .i64 0, .int .i64 0, .int .i64 0, .int .i64 0]), none⟩, ⟨none, .st 29 4 (.tmp 13) (.tmp 52), none⟩, ⟨some 14, .mv (.tmp 53), none⟩]
def Xn9_19 : C := regL [1, 2, 3, 7, 8, 9, 10, 11, 12, 13, 14, 15, 16] none [⟨some 55, .ld 24 6 true (.tmp 3), none⟩, ⟨some 56, .mv (.tmp 1), none⟩, ⟨some 57, .mv (.tmp 2), none⟩, ⟨some 58, .call 35 [.tmp 55, .tmp 56, .tmp 57], none⟩, ⟨some 54, .mv (.tmp 58), none⟩, ⟨some 59, .ext 0 (.tmp 54), none⟩, ⟨some 60, .ext 1 (.tmp 54), none⟩, ⟨some 15, .mv (.tmp 59), none⟩, ⟨some 16, .mv (.tmp 60), none⟩]
def Xn9_21 : C := regL [7, 8, 9, 10, 11, 12, 13, 14, 15, 16, 17, 18] none [⟨some 62, .ld 24 6 true (.tmp 3), none⟩, ⟨some 63, .mv (.tmp 1), none⟩, ⟨some 64, .mv (.tmp 2), none⟩, ⟨some 65, .call 40 [.tmp 62, .tmp 63, .tmp 64], none⟩, ⟨some 61, .mv (.tmp 65), none⟩, ⟨some 66, .ext 0 (.tmp 61), none⟩, ⟨some 67, .ext 1 (.tmp 61), none⟩, ⟨some 17, .mv (.tmp 66), none⟩, ⟨some 18, .mv (.tmp 67), none⟩]
def Xn9_23 : C := regL [6] none [⟨some 68, .mv (.tmp 7), none⟩, ⟨some 69, .mv (.tmp 9), none⟩, ⟨some 70, .call 41 [.tmp 68, .tmp 69], none⟩, ⟨some 71, .mv (.tmp 70), none⟩, ⟨some 72, .ld 29 4 true (.tmp 11), some (71, true)⟩, ⟨some 73, .ld 29 4 true (.tmp 13), some (71, true)⟩, ⟨some 74, .eqb 85 false (.tmp 72) (.tmp 73), some (71, true)⟩, ⟨some 75, .pick 71 (.tmp 74) (.const (.bool false)), none⟩, ⟨some 76, .mv (.tmp 75), none⟩, ⟨some 77, .mv (.tmp 15), some (76, true)⟩, ⟨some 78, .mv (.tmp 17), some (76, true)⟩, ⟨some 79, .bin 2 .eql (.tmp 77) (.tmp 78), some (76, true)⟩, ⟨some 80, .pick 76 (.tmp 79) (.const (.bool false)), none⟩, ⟨some 81, .mv (.tmp 80), none⟩, ⟨some 82, .mv (.tmp 8), some (81, true)⟩, ⟨some 83, .mv (.tmp 10), some (81, true)⟩, ⟨some 84, .bin 30 .eql (.tmp 82) (.tmp 83), some (81, true)⟩, ⟨some 85, .pick 81 (.tmp 84) (.const (.bool false)), none⟩, ⟨some 86, .mv (.tmp 85), none⟩, ⟨some 87, .mv (.tmp 12), some (86, true)⟩, ⟨some 88, .mv (.tmp 14), some (86, true)⟩, ⟨some 89, .bin 30 .eql (.tmp 87) (.tmp 88), some (86, true)⟩, ⟨some 90, .pick 86 (.tmp 89) (.const (.bool false)), none⟩, ⟨some 91, .mv (.tmp 90), none⟩, ⟨some 92, .mv (.tmp 16), some (91, true)⟩, ⟨some 93, .mv (.tmp 18), some (91, true)⟩, ⟨some 94, .bin 30 .eql (.tmp 92) (.tmp 93), some (91, true)⟩, ⟨some 95, .pick 91 (.tmp 94) (.const (.bool false)), none⟩, ⟨some 96, .mv (.tmp 95), none⟩, ⟨some 97, .call 13 [], some (96, true)⟩, ⟨some 98, .pick 96 (.tmp 97) (.const (.bool false)), none⟩, ⟨some 6, .mv (.tmp 98), none⟩]
def Xn9_22 : C := .seq Xn9_23 .ret
def Xn9_20 : C := .seq Xn9_21 Xn9_22
def Xn9_18 : C := .seq Xn9_19 Xn9_20
def Xn9_16 : C := .seq Xn9_17 Xn9_18
def Xn9_14 : C := .seq Xn9_15 Xn9_16
def Xn9_12 : C := .seq Xn9_13 Xn9_14
def Xn9_10 : C := .seq Xn9_11 Xn9_12
def Xn9_2 : C := seqL [1, 2, 3] Xn9_3 Xn9_10
def Xn9_0 : C := .seq Xn9_1 Xn9_2
theorem Xt9 : Text Try.prog 9 Xn9_0 99 3 [.t 6] := ⟨⟨Try.f9, [3], Try.func9, by kernel_rfl, by kernel_rfl, by kernel_rfl, by kernel_rfl⟩⟩
/- carried: [5] -/
def Xn12_1 : C := regL [1, 2] none [⟨some 2, .box true 24 (.tmp 0), none⟩, ⟨some 4, .mv (.const (.bool false)), none⟩]
def Xn12_3 : C := regL [4] none [⟨some 5, .fa 0 (.tmp 2), none⟩, ⟨some 6, .ld 22 1 false (.tmp 5), none⟩, ⟨some 7, .len (.tmp 6), none⟩, ⟨some 8, .bin 3 .gtr (.tmp 7) (.const (.int .i64 10)), none⟩, ⟨some 9, .mv (.tmp 8), none⟩, ⟨some 10, .fa 1 (.tmp 2), some (9, false)⟩, ⟨some 11, .ld 22 1 false (.tmp 10), some (9, false)⟩, ⟨some 12, .len (.tmp 11), some (9, false)⟩, ⟨some 13, .bin 3 .gtr (.tmp 12) (.const (.int .i64 10)), some (9, false)⟩, ⟨some 14, .pick 9 (.const (.bool true)) (.tmp 13), none⟩, ⟨some 15, .mv (.tmp 14), none⟩, ⟨some 16, .fa 2 (.tmp 2), some (15, false)⟩, ⟨some 17, .ld 22 1 false (.tmp 16), some (15, false)⟩, ⟨some 18, .len (.tmp 17), some (15, false)⟩, ⟨some 19, .bin 3 .gtr (.tmp 18) (.const (.int .i64 10)), some (15, false)⟩, ⟨some 20, .pick 15 (.const (.bool true)) (.tmp 19), none⟩, ⟨some 21, .mv (.tmp 20), none⟩, ⟨some 22, .mv (.tmp 1), some (21, false)⟩, ⟨some 23, .len (.tmp 22), some (21, false)⟩, ⟨some 24, .bin 3 .gtr (.tmp 23) (.const (.int .i64 70)), some (21, false)⟩, ⟨some 25, .pick 21 (.const (.bool true)) (.tmp 24), none⟩, ⟨some 4, .mv (.tmp 25), none⟩]
def Xn12_2 : C := .seq Xn12_3 .ret
def Xn12_0 : C := .seq Xn12_1 Xn12_2
theorem Xt12 : Text Try.prog 12 Xn12_0 26 2 [.t 4] := ⟨⟨Try.f12, [2], Try.func12, by kernel_rfl, by kernel_rfl, by kernel_rfl, by kernel_rfl⟩⟩
def Xn13_1 : C := regL [] none [⟨some 0, .mv (.const (.bool false)), none⟩]
def Xn13_3 : C := regL [1, 2] none [⟨some 8, .call 42 [], none⟩, ⟨some 9, .call 43 [], none⟩, ⟨some 10, .call 14 [.tmp 8, .tmp 9, .const (.int .i64 0), .const (.int .i64 10000)], none⟩, ⟨some 7, .mv (.tmp 10), none⟩, ⟨some 11, .ext 0 (.tmp 7), none⟩, ⟨some 12, .ext 1 (.tmp 7), none⟩, ⟨some 1, .alc 29 (.agg #[.int .i64 0, .int .i64 0, .int .i64 0, .int .i64 0]), none⟩, ⟨none, .st 29 4 (.tmp 1) (.tmp 11), none⟩, ⟨some 2, .mv (.tmp 12), none⟩]
def Xn13_5 : C := regL [1, 2, 3, 4] none [⟨some 14, .call 42 [], none⟩, ⟨some 15, .call 43 [], none⟩, ⟨some 16, .call 15 [.tmp 14, .tmp 15, .const (.int .i64 0), .const (.bool false)], none⟩, ⟨some 13, .mv (.tmp 16), none⟩, ⟨some 17, .ext 0 (.tmp 13), none⟩, ⟨some 18, .ext 1 (.tmp 13), none⟩, ⟨some 3, .alc 29 (.agg #[.int .i64 0, .int .i64 0, .int .i64 0, .int .i64 0]), none⟩, ⟨none, .st 29 4 (.tmp 3) (.tmp 17), none⟩, ⟨some 4, .mv (.tmp 18), none⟩]
def Xn13_7 : C := regL [1, 2, 3, 4, 5, 6] none [⟨some 20, .bld (.agg #[.int .i64 0, .int .i64 0, .int .i64 0]) [(0, 1, .const (.int .i64 10000)), (1, 1, .const (.int .i64 1000)), (2, 1, .const (.int .i64 4))], none⟩, ⟨some 21, .call 43 [], none⟩, ⟨some 22, .call 19 [.tmp 20, .tmp 21, .const (.int .i64 1)], none⟩, ⟨some 19, .mv (.tmp 22), none⟩, ⟨some 23, .ext 0 (.tmp 19), none⟩, ⟨some 24, .ext 1 (.tmp 19), none⟩, ⟨some 5, .mv (.tmp 23), none⟩, ⟨some 6, .mv (.tmp 24), none⟩]
def Xn13_9 : C := regL [0] none [⟨some 25, .mv (.tmp 2), none⟩, ⟨some 26, .mv (.tmp 4), none⟩, ⟨some 27, .bin 30 .add (.tmp 25) (.tmp 26), none⟩, ⟨some 28, .mv (.tmp 6), none⟩, ⟨some 29, .bin 30 .add (.tmp 27) (.tmp 28), none⟩, ⟨some 30, .bin 30 .eql (.tmp 29) (.const (.int .i64 0)), none⟩, ⟨some 31, .mv (.tmp 30), none⟩, ⟨some 32, .ld 29 4 true (.tmp 1), some (31, true)⟩, ⟨some 33, .bld (.agg #[.int .i64 0, .int .i64 0, .int .i64 0, .int .i64 0]) [(0, 1, .const (.int .i64 2160000000000)), (2, 1, .const (.int .i64 10000)), (3, 1, .const (.int .i64 10000))], some (31, true)⟩, ⟨some 34, .eqb 85 false (.tmp 32) (.tmp 33), some (31, true)⟩, ⟨some 35, .pick 31 (.tmp 34) (.const (.bool false)), none⟩, ⟨some 36, .mv (.tmp 35), none⟩, ⟨some 37, .ld 29 4 true (.tmp 3), some (36, true)⟩, ⟨some 38, .bld (.agg #[.int .i64 0, .int .i64 0, .int .i64 0, .int .i64 0]) [(0, 1, .const (.int .i64 456000000)), (3, 1, .const (.int .i64 2000))], some (36, true)⟩, ⟨some 39, .eqb 85 false (.tmp 37) (.tmp 38), some (36, true)⟩, ⟨some 40, .pick 36 (.tmp 39) (.const (.bool false)), none⟩, ⟨some 41, .mv (.tmp 40), none⟩, ⟨some 42, .mv (.tmp 5), some (41, true)⟩, ⟨some 43, .bin 2 .eql (.tmp 42) (.const (.int .i64 4148)), some (41, true)⟩, ⟨some 44, .pick 41 (.tmp 43) (.const (.bool false)), none⟩, ⟨some 0, .mv (.tmp 44), none⟩]
def Xn13_8 : C := .seq Xn13_9 .ret
def Xn13_6 : C := .seq Xn13_7 Xn13_8
def Xn13_4 : C := .seq Xn13_5 Xn13_6
def Xn13_2 : C := .seq Xn13_3 Xn13_4
def Xn13_0 : C := .seq Xn13_1 Xn13_2
theorem Xt13 : Text Try.prog 13 Xn13_0 45 0 [.t 0] := ⟨⟨Try.f13, [], Try.func13, by kernel_rfl, by kernel_rfl, by kernel_rfl, by kernel_rfl⟩⟩
def Xn14_1 : C := regL [1, 2, 3, 4, 8] none [⟨some 4, .box true 24 (.tmp 0), none⟩, ⟨some 8, .alc 29 (.agg #[.int .i64 0, .int .i64 0, .int .i64 0, .int .i64 0]), none⟩, ⟨some 9, .mv (.const (.int .i64 0)), none⟩]
def Xn14_4 : C := regL [1, 2, 3, 4, 8, 10] none [⟨some 11, .ld 24 6 true (.tmp 4), none⟩, ⟨some 12, .mv (.tmp 1), none⟩, ⟨some 13, .mv (.tmp 2), none⟩, ⟨some 14, .call 47 [.tmp 11, .tmp 12, .tmp 13], none⟩, ⟨some 10, .mv (.tmp 14), none⟩]
def Xn14_6 : C := regL [1, 2, 3, 4, 8, 10, 16] none [⟨some 15, .mv (.tmp 10), none⟩, ⟨some 16, .bin 30 .neq (.tmp 15) (.const (.int .i64 0)), none⟩]
def Xn14_9 : C := regL [8, 9] none [⟨some 17, .bld (.agg #[.int .i64 0, .int .i64 0, .int .i64 0, .int .i64 0]) [], none⟩, ⟨some 18, .mv (.tmp 10), none⟩, ⟨none, .st 29 4 (.tmp 8) (.tmp 17), none⟩, ⟨some 9, .mv (.tmp 18), none⟩]
def Xn14_8 : C := .seq Xn14_9 .ret
def Xn14_7 : C := .cond (.tmp 16) Xn14_8 .skip
def Xn14_5 : C := .seq Xn14_6 Xn14_7
def Xn14_3 : C := .seq Xn14_4 Xn14_5
def Xn14_14 : C := regL [1, 2, 3, 4, 8, 26] none [⟨some 19, .mv (.tmp 3), none⟩, ⟨some 20, .fa 0 (.tmp 4), none⟩, ⟨some 21, .ld 22 1 false (.tmp 20), none⟩, ⟨some 22, .mv (.tmp 2), none⟩, ⟨some 23, .ia 1 (.tmp 21) (.tmp 22), none⟩, ⟨some 24, .ld 2 1 false (.tmp 23), none⟩, ⟨some 25, .call 48 [.tmp 19, .const (.int .i64 0), .tmp 24], none⟩, ⟨some 26, .un .not (.tmp 25), none⟩]
def Xn14_17 : C := regL [8, 9] none [⟨some 27, .bld (.agg #[.int .i64 0, .int .i64 0, .int .i64 0, .int .i64 0]) [], none⟩, ⟨none, .st 29 4 (.tmp 8) (.tmp 27), none⟩, ⟨some 9, .mv (.const (.int .i64 3)), none⟩]
def Xn14_16 : C := .seq Xn14_17 .ret
def Xn14_15 : C := .cond (.tmp 26) Xn14_16 .skip
def Xn14_13 : C := .seq Xn14_14 Xn14_15
def Xn14_21 : C := regL [8, 9] none [⟨some 28, .ld 24 6 true (.tmp 4), none⟩, ⟨some 29, .mv (.tmp 2), none⟩, ⟨some 30, .mv (.tmp 3), none⟩, ⟨some 31, .call 49 [.tmp 28, .tmp 29, .tmp 30], none⟩, ⟨some 32, .mv (.tmp 1), none⟩, ⟨some 33, .mv (.tmp 2), none⟩, ⟨some 34, .mv (.tmp 3), none⟩, ⟨some 35, .call 50 [.tmp 31, .tmp 32, .tmp 33, .tmp 34], none⟩, ⟨none, .st 29 4 (.tmp 8) (.tmp 35), none⟩, ⟨some 9, .mv (.const (.int .i64 0)), none⟩]
def Xn14_20 : C := .seq Xn14_21 .ret
def Xn14_12 : C := seqL [1, 2, 3, 4, 8] Xn14_13 Xn14_20
def Xn14_2 : C := seqL [1, 2, 3, 4, 8] Xn14_3 Xn14_12
def Xn14_0 : C := .seq Xn14_1 Xn14_2
theorem Xt14 : Text Try.prog 14 Xn14_0 36 4 [.c 8 4 true, .t 9] := ⟨⟨Try.f14, [4], Try.func14, by kernel_rfl, by kernel_rfl, by kernel_rfl, by kernel_rfl⟩⟩
def Xn15_1 : C := regL [1, 2, 3, 4, 8] none [⟨some 4, .box true 24 (.tmp 0), none⟩, ⟨some 8, .alc 29 (.agg #[.int .i64 0, .int .i64 0, .int .i64 0, .int .i64 0]), none⟩, ⟨some 9, .mv (.const (.int .i64 0)), none⟩]
def Xn15_4 : C := regL [1, 2, 3, 4, 8, 10] none [⟨some 12, .ld 24 6 true (.tmp 4), none⟩, ⟨some 13, .mv (.tmp 1), none⟩, ⟨some 14, .mv (.tmp 2), none⟩, ⟨some 15, .call 47 [.tmp 12, .tmp 13, .tmp 14], none⟩, ⟨some 10, .mv (.tmp 15), none⟩]
def Xn15_6 : C := regL [1, 2, 3, 4, 8, 10, 17] none [⟨some 16, .mv (.tmp 10), none⟩, ⟨some 17, .bin 30 .neq (.tmp 16) (.const (.int .i64 0)), none⟩]
def Xn15_9 : C := regL [8, 9] none [⟨some 18, .bld (.agg #[.int .i64 0, .int .i64 0, .int .i64 0, .int .i64 0]) [], none⟩, ⟨some 19, .mv (.tmp 10), none⟩, ⟨none, .st 29 4 (.tmp 8) (.tmp 18), none⟩, ⟨some 9, .mv (.tmp 19), none⟩]
def Xn15_8 : C := .seq Xn15_9 .ret
def Xn15_7 : C := .cond (.tmp 17) Xn15_8 .skip
def Xn15_5 : C := .seq Xn15_6 Xn15_7
def Xn15_3 : C := .seq Xn15_4 Xn15_5
def Xn15_13 : C := regL [1, 2, 3, 4, 8, 11] none [⟨some 11, .mv (.const (.int .i64 0)), none⟩]
def Xn15_16 : C := regL [1, 2, 3, 4, 8, 11, 20] none [⟨some 20, .mv (.tmp 3), none⟩]
def Xn15_18 : C := regL [1, 2, 3, 4, 8, 11] none [⟨some 21, .fa 0 (.tmp 4), none⟩, ⟨some 22, .ld 22 1 false (.tmp 21), none⟩, ⟨some 23, .mv (.tmp 2), none⟩, ⟨some 24, .ia 1 (.tmp 22) (.tmp 23), none⟩, ⟨some 25, .ld 2 1 false (.tmp 24), none⟩, ⟨some 11, .mv (.tmp 25), none⟩]
def Xn15_17 : C := .cond (.tmp 20) Xn15_18 .skip
def Xn15_15 : C := .seq Xn15_16 Xn15_17
def Xn15_21 : C := regL [8, 9] none [⟨some 26, .ld 24 6 true (.tmp 4), none⟩, ⟨some 27, .mv (.tmp 2), none⟩, ⟨some 28, .mv (.tmp 3), none⟩, ⟨some 29, .call 51 [.tmp 26, .tmp 27, .tmp 28], none⟩, ⟨some 30, .mv (.tmp 1), none⟩, ⟨some 31, .mv (.tmp 2), none⟩, ⟨some 32, .mv (.tmp 11), none⟩, ⟨some 33, .call 50 [.tmp 29, .tmp 30, .tmp 31, .tmp 32], none⟩, ⟨none, .st 29 4 (.tmp 8) (.tmp 33), none⟩, ⟨some 9, .mv (.const (.int .i64 0)), none⟩]
def Xn15_20 : C := .seq Xn15_21 .ret
def Xn15_14 : C := seqL [1, 2, 3, 4, 8, 11] Xn15_15 Xn15_20
def Xn15_12 : C := .seq Xn15_13 Xn15_14
def Xn15_2 : C := seqL [1, 2, 3, 4, 8] Xn15_3 Xn15_12
def Xn15_0 : C := .seq Xn15_1 Xn15_2
theorem Xt15 : Text Try.prog 15 Xn15_0 34 4 [.c 8 4 true, .t 9] := ⟨⟨Try.f15, [4], Try.func15, by kernel_rfl, by kernel_rfl, by kernel_rfl, by kernel_rfl⟩⟩
def Xn19_1 : C := regL [1, 2, 3] none [⟨some 3, .box true 43 (.tmp 0), none⟩, ⟨some 6, .mv (.const (.int .i64 0)), none⟩, ⟨some 7, .mv (.const (.int .i64 0)), none⟩]
def Xn19_3 : C := regL [2, 3, 8, 9] none [⟨some 11, .ld 43 3 true (.tmp 3), none⟩, ⟨some 12, .mv (.tmp 1), none⟩, ⟨some 13, .call 55 [.tmp 11, .tmp 12], none⟩, ⟨some 10, .mv (.tmp 13), none⟩, ⟨some 14, .ext 0 (.tmp 10), none⟩, ⟨some 15, .ext 1 (.tmp 10), none⟩, ⟨some 8, .mv (.tmp 14), none⟩, ⟨some 9, .mv (.tmp 15), none⟩]
def Xn19_6 : C := regL [2, 3, 8, 9, 21] none [⟨some 16, .mv (.tmp 9), none⟩, ⟨some 17, .bin 30 .neq (.tmp 16) (.const (.int .i64 0)), none⟩, ⟨some 18, .mv (.tmp 17), none⟩, ⟨some 19, .mv (.tmp 9), some (18, true)⟩, ⟨some 20, .bin 30 .neq (.tmp 19) (.const (.int .i64 4)), some (18, true)⟩, ⟨some 21, .pick 18 (.tmp 20) (.const (.bool false)), none⟩]
def Xn19_9 : C := regL [6, 7] none [⟨some 22, .mv (.tmp 9), none⟩, ⟨some 6, .mv (.const (.int .i64 0)), none⟩, ⟨some 7, .mv (.tmp 22), none⟩]
def Xn19_8 : C := .seq Xn19_9 .ret
def Xn19_7 : C := .cond (.tmp 21) Xn19_8 .skip
def Xn19_5 : C := .seq Xn19_6 Xn19_7
def Xn19_14 : C := regL [2, 3, 8, 9, 25] none [⟨some 23, .mv (.tmp 2), none⟩, ⟨some 24, .call 48 [.tmp 23, .const (.int .i64 0), .const (.int .i64 1048576)], none⟩, ⟨some 25, .un .not (.tmp 24), none⟩]
def Xn19_17 : C := regL [6, 7] none [⟨some 6, .mv (.const (.int .i64 0)), none⟩, ⟨some 7, .mv (.const (.int .i64 3)), none⟩]
def Xn19_16 : C := .seq Xn19_17 .ret
def Xn19_15 : C := .cond (.tmp 25) Xn19_16 .skip
def Xn19_13 : C := .seq Xn19_14 Xn19_15
def Xn19_22 : C := regL [2, 3, 8, 9, 27] none [⟨some 26, .mv (.tmp 9), none⟩, ⟨some 27, .bin 30 .neq (.tmp 26) (.const (.int .i64 0)), none⟩]
def Xn19_25 : C := regL [6, 7] none [⟨some 28, .mv (.tmp 9), none⟩, ⟨some 6, .mv (.const (.int .i64 0)), none⟩, ⟨some 7, .mv (.tmp 28), none⟩]
def Xn19_24 : C := .seq Xn19_25 .ret
def Xn19_23 : C := .cond (.tmp 27) Xn19_24 .skip
def Xn19_21 : C := .seq Xn19_22 Xn19_23
def Xn19_29 : C := regL [6, 7] none [⟨some 29, .mv (.tmp 8), none⟩, ⟨some 30, .mv (.tmp 2), none⟩, ⟨some 31, .bin 2 .mul (.const (.int .i64 1000)) (.tmp 30), none⟩, ⟨some 32, .fa 1 (.tmp 3), none⟩, ⟨some 33, .ld 2 1 false (.tmp 32), none⟩, ⟨some 34, .call 56 [.tmp 29, .tmp 31, .tmp 33], none⟩, ⟨some 6, .mv (.tmp 34), none⟩, ⟨some 7, .mv (.const (.int .i64 0)), none⟩]
def Xn19_28 : C := .seq Xn19_29 .ret
def Xn19_20 : C := seqL [2, 3, 8] Xn19_21 Xn19_28
def Xn19_12 : C := seqL [2, 3, 8, 9] Xn19_13 Xn19_20
def Xn19_4 : C := seqL [2, 3, 8, 9] Xn19_5 Xn19_12
def Xn19_2 : C := .seq Xn19_3 Xn19_4
def Xn19_0 : C := .seq Xn19_1 Xn19_2
theorem Xt19 : Text Try.prog 19 Xn19_0 35 3 [.t 6, .t 7] := ⟨⟨Try.f19, [3], Try.func19, by kernel_rfl, by kernel_rfl, by kernel_rfl, by kernel_rfl⟩⟩
/- carried: [11, 12] -/
/- carried: [10, 11, 12, 33] -/
/- carried: [11, 12] -/
/- carried: [9, 10] -/
/- carried: [10, 11] -/
def Xn25_1 : C := regL [1] none [⟨some 1, .box true 43 (.tmp 0), none⟩, ⟨some 2, .mv (.const (.int .i64 0)), none⟩]
def Xn25_4 : C := regL [22] none [⟨some 3, .fa 0 (.tmp 1), none⟩, ⟨some 4, .ld 2 1 false (.tmp 3), none⟩, ⟨some 5, .call 48 [.tmp 4, .const (.int .i64 1), .const (.int .i64 1048576)], none⟩, ⟨some 6, .un .not (.tmp 5), none⟩, ⟨some 7, .mv (.tmp 6), none⟩, ⟨some 8, .fa 1 (.tmp 1), some (7, false)⟩, ⟨some 9, .ld 2 1 false (.tmp 8), some (7, false)⟩, ⟨some 10, .call 48 [.tmp 9, .const (.int .i64 1), .const (.int .i64 1048576)], some (7, false)⟩, ⟨some 11, .un .not (.tmp 10), some (7, false)⟩, ⟨some 12, .pick 7 (.const (.bool true)) (.tmp 11), none⟩, ⟨some 13, .mv (.tmp 12), none⟩, ⟨some 14, .fa 2 (.tmp 1), some (13, false)⟩, ⟨some 15, .ld 3 1 false (.tmp 14), some (13, false)⟩, ⟨some 16, .bin 3 .lss (.tmp 15) (.const (.int .i64 1)), some (13, false)⟩, ⟨some 17, .pick 13 (.const (.bool true)) (.tmp 16), none⟩, ⟨some 18, .mv (.tmp 17), none⟩, ⟨some 19, .fa 2 (.tmp 1), some (18, false)⟩, ⟨some 20, .ld 3 1 false (.tmp 19), some (18, false)⟩, ⟨some 21, .bin 3 .gtr (.tmp 20) (.const (.int .i64 6)), some (18, false)⟩, ⟨some 22, .pick 18 (.const (.bool true)) (.tmp 21), none⟩]
def Xn25_7 : C := regL [2] none [⟨some 2, .mv (.const (.int .i64 2)), none⟩]
def Xn25_6 : C := .seq Xn25_7 .ret
def Xn25_5 : C := .cond (.tmp 22) Xn25_6 .skip
def Xn25_3 : C := .seq Xn25_4 Xn25_5
def Xn25_11 : C := regL [2] none [⟨some 2, .mv (.const (.int .i64 0)), none⟩]
def Xn25_10 : C := .seq Xn25_11 .ret
def Xn25_2 : C := seqL [] Xn25_3 Xn25_10
def Xn25_0 : C := .seq Xn25_1 Xn25_2
theorem Xt25 : Text Try.prog 25 Xn25_0 23 1 [.t 2] := ⟨⟨Try.f25, [1], Try.func25, by kernel_rfl, by kernel_rfl, by kernel_rfl, by kernel_rfl⟩⟩
def Xn27_1 : C := regL [1, 2] none [⟨some 2, .box true 24 (.tmp 0), none⟩, ⟨some 4, .mv (.const (.bool false)), none⟩]
def Xn27_3 : C := regL [4] none [⟨some 5, .fa 0 (.tmp 2), none⟩, ⟨some 6, .ld 22 1 false (.tmp 5), none⟩, ⟨some 7, .len (.tmp 6), none⟩, ⟨some 8, .bin 3 .gtr (.tmp 7) (.const (.int .i64 3)), none⟩, ⟨some 9, .mv (.tmp 8), none⟩, ⟨some 10, .fa 0 (.tmp 2), some (9, true)⟩, ⟨some 11, .ld 22 1 false (.tmp 10), some (9, true)⟩, ⟨some 12, .len (.tmp 11), some (9, true)⟩, ⟨some 13, .bin 3 .leq (.tmp 12) (.const (.int .i64 6)), some (9, true)⟩, ⟨some 14, .pick 9 (.tmp 13) (.const (.bool false)), none⟩, ⟨some 15, .mv (.tmp 14), none⟩, ⟨some 16, .mv (.tmp 1), some (15, false)⟩, ⟨some 17, .len (.tmp 16), some (15, false)⟩, ⟨some 18, .bin 3 .gtr (.tmp 17) (.const (.int .i64 16)), some (15, false)⟩, ⟨some 19, .mv (.tmp 18), some (15, false)⟩, ⟨some 20, .mv (.tmp 1), some (19, true)⟩, ⟨some 21, .len (.tmp 20), some (19, true)⟩, ⟨some 22, .bin 3 .leq (.tmp 21) (.const (.int .i64 64)), some (19, true)⟩, ⟨some 23, .pick 19 (.tmp 22) (.const (.bool false)), some (15, false)⟩, ⟨some 24, .pick 15 (.const (.bool true)) (.tmp 23), none⟩, ⟨some 4, .mv (.tmp 24), none⟩]
def Xn27_2 : C := .seq Xn27_3 .ret
def Xn27_0 : C := .seq Xn27_1 Xn27_2
theorem Xt27 : Text Try.prog 27 Xn27_0 25 2 [.t 4] := ⟨⟨Try.f27, [2], Try.func27, by kernel_rfl, by kernel_rfl, by kernel_rfl, by kernel_rfl⟩⟩
def Xn28_1 : C := regL [1, 2, 3, 6] none [⟨some 3, .box true 24 (.tmp 0), none⟩, ⟨some 6, .alc 29 (.agg #[.int .i64 0, .int .i64 0, .int .i64 0, .int .i64 0]), none⟩, ⟨some 7, .mv (.const (.int .i64 0)), none⟩]
def Xn28_4 : C := regL [1, 2, 3, 6, 8] none [⟨some 11, .ld 24 6 true (.tmp 3), none⟩, ⟨some 12, .mv (.tmp 1), none⟩, ⟨some 13, .call 65 [.tmp 11, .tmp 12], none⟩, ⟨some 8, .mv (.tmp 13), none⟩]
def Xn28_6 : C := regL [1, 2, 3, 6, 8, 15] none [⟨some 14, .mv (.tmp 8), none⟩, ⟨some 15, .bin 30 .neq (.tmp 14) (.const (.int .i64 0)), none⟩]
def Xn28_9 : C := regL [6, 7] none [⟨some 16, .bld (.agg #[.int .i64 0, .int .i64 0, .int .i64 0, .int .i64 0]) [], none⟩, ⟨some 17, .mv (.tmp 8), none⟩, ⟨none, .st 29 4 (.tmp 6) (.tmp 16), none⟩, ⟨some 7, .mv (.tmp 17), none⟩]
def Xn28_8 : C := .seq Xn28_9 .ret
def Xn28_7 : C := .cond (.tmp 15) Xn28_8 .skip
def Xn28_5 : C := .seq Xn28_6 Xn28_7
def Xn28_3 : C := .seq Xn28_4 Xn28_5
def Xn28_14 : C := regL [6, 9, 10] none [⟨some 19, .ld 24 6 true (.tmp 3), none⟩, ⟨some 20, .mv (.tmp 1), none⟩, ⟨some 21, .mv (.tmp 2), none⟩, ⟨some 22, .call 66 [.tmp 19, .tmp 20, .tmp 21], none⟩, ⟨some 18, .mv (.tmp 22), none⟩, ⟨some 23, .ext 0 (.tmp 18), none⟩, ⟨some 24, .ext 1 (.tmp 18), none⟩, ⟨some 9, .alc 29 (.agg #[.int .i64 0, .int .i64 0, .int .i64 0, .int .i64 0]), none⟩, ⟨none, .st 29 4 (.tmp 9) (.tmp 23), none⟩, ⟨some 10, .mv (.tmp 24), none⟩]
def Xn28_16 : C := regL [6, 9, 25] none [⟨some 25, .mv (.tmp 10), none⟩]
def Xn28_19 : C := regL [6, 7] none [⟨some 26, .ld 29 4 true (.tmp 9), none⟩, ⟨none, .st 29 4 (.tmp 6) (.tmp 26), none⟩, ⟨some 7, .mv (.const (.int .i64 14)), none⟩]
def Xn28_18 : C := .seq Xn28_19 .ret
def Xn28_17 : C := .cond (.tmp 25) Xn28_18 .skip
def Xn28_15 : C := .seq Xn28_16 Xn28_17
def Xn28_13 : C := .seq Xn28_14 Xn28_15
def Xn28_23 : C := regL [6, 7] none [⟨some 27, .bld (.agg #[.int .i64 0, .int .i64 0, .int .i64 0, .int .i64 0]) [], none⟩, ⟨none, .st 29 4 (.tmp 6) (.tmp 27), none⟩, ⟨some 7, .mv (.const (.int .i64 0)), none⟩]
def Xn28_22 : C := .seq Xn28_23 .ret
def Xn28_12 : C := seqL [6] Xn28_13 Xn28_22
def Xn28_2 : C := seqL [1, 2, 3, 6] Xn28_3 Xn28_12
def Xn28_0 : C := .seq Xn28_1 Xn28_2
theorem Xt28 : Text Try.prog 28 Xn28_0 28 3 [.c 6 4 true, .t 7] := ⟨⟨Try.f28, [3], Try.func28, by kernel_rfl, by kernel_rfl, by kernel_rfl, by kernel_rfl⟩⟩
def Xn29_1 : C := regL [1] none [⟨some 1, .box true 24 (.tmp 0), none⟩, ⟨some 2, .mv (.const (.int .i64 0)), none⟩]
def Xn29_3 : C := regL [1, 3] none [⟨some 6, .fa 0 (.tmp 1), none⟩, ⟨some 7, .ld 22 1 false (.tmp 6), none⟩, ⟨some 8, .len (.tmp 7), none⟩, ⟨some 3, .mv (.tmp 8), none⟩]
def Xn29_7 : C := regL [1, 3, 9] none [⟨some 10, .mv (.tmp 3), none⟩, ⟨some 11, .bin 3 .lss (.tmp 10) (.const (.int .i64 1)), none⟩, ⟨some 12, .mv (.tmp 11), none⟩, ⟨some 13, .mv (.tmp 3), some (12, false)⟩, ⟨some 14, .bin 3 .gtr (.tmp 13) (.const (.int .i64 6)), some (12, false)⟩, ⟨some 15, .pick 12 (.const (.bool true)) (.tmp 14), none⟩, ⟨some 9, .mv (.tmp 15), none⟩]
def Xn29_10 : C := regL [2] none [⟨some 2, .mv (.const (.int .i64 6)), none⟩]
def Xn29_9 : C := .seq Xn29_10 .ret
def Xn29_13 : C := regL [1, 16] none [⟨some 17, .fa 1 (.tmp 1), none⟩, ⟨some 18, .ld 22 1 false (.tmp 17), none⟩, ⟨some 19, .len (.tmp 18), none⟩, ⟨some 20, .mv (.tmp 3), none⟩, ⟨some 21, .bin 3 .neq (.tmp 19) (.tmp 20), none⟩, ⟨some 22, .mv (.tmp 21), none⟩, ⟨some 23, .fa 2 (.tmp 1), some (22, false)⟩, ⟨some 24, .ld 22 1 false (.tmp 23), some (22, false)⟩, ⟨some 25, .len (.tmp 24), some (22, false)⟩, ⟨some 26, .mv (.tmp 3), some (22, false)⟩, ⟨some 27, .bin 3 .neq (.tmp 25) (.tmp 26), some (22, false)⟩, ⟨some 28, .pick 22 (.const (.bool true)) (.tmp 27), none⟩, ⟨some 16, .mv (.tmp 28), none⟩]
def Xn29_16 : C := regL [2] none [⟨some 2, .mv (.const (.int .i64 17)), none⟩]
def Xn29_15 : C := .seq Xn29_16 .ret
def Xn29_19 : C := regL [1, 29] none [⟨some 30, .fa 3 (.tmp 1), none⟩, ⟨some 31, .ld 2 1 false (.tmp 30), none⟩, ⟨some 32, .call 48 [.tmp 31, .const (.int .i64 0), .const (.int .i64 1000)], none⟩, ⟨some 33, .un .not (.tmp 32), none⟩, ⟨some 34, .mv (.tmp 33), none⟩, ⟨some 35, .fa 4 (.tmp 1), some (34, false)⟩, ⟨some 36, .ld 3 1 false (.tmp 35), some (34, false)⟩, ⟨some 37, .bin 3 .lss (.tmp 36) (.const (.int .i64 1)), some (34, false)⟩, ⟨some 38, .pick 34 (.const (.bool true)) (.tmp 37), none⟩, ⟨some 39, .mv (.tmp 38), none⟩, ⟨some 40, .fa 4 (.tmp 1), some (39, false)⟩, ⟨some 41, .ld 3 1 false (.tmp 40), some (39, false)⟩, ⟨some 42, .bin 3 .gtr (.tmp 41) (.const (.int .i64 4)), some (39, false)⟩, ⟨some 43, .pick 39 (.const (.bool true)) (.tmp 42), none⟩, ⟨some 44, .mv (.tmp 43), none⟩, ⟨some 45, .fa 5 (.tmp 1), some (44, false)⟩, ⟨some 46, .ld 2 1 false (.tmp 45), some (44, false)⟩, ⟨some 47, .call 48 [.tmp 46, .const (.int .i64 0), .const (.int .i64 4096)], some (44, false)⟩, ⟨some 48, .un .not (.tmp 47), some (44, false)⟩, ⟨some 49, .pick 44 (.const (.bool true)) (.tmp 48), none⟩, ⟨some 29, .mv (.tmp 49), none⟩]
def Xn29_22 : C := regL [2] none [⟨some 2, .mv (.const (.int .i64 2)), none⟩]
def Xn29_21 : C := .seq Xn29_22 .ret
def Xn29_20 : C := .cond (.tmp 29) Xn29_21 .skip
def Xn29_18 : C := .seq Xn29_19 Xn29_20
def Xn29_14 : C := .cond (.tmp 16) Xn29_15 Xn29_18
def Xn29_12 : C := .seq Xn29_13 Xn29_14
def Xn29_8 : C := .cond (.tmp 9) Xn29_9 Xn29_12
def Xn29_6 : C := .seq Xn29_7 Xn29_8
def Xn29_5 : C := .block 0 Xn29_6
def Xn29_27 : C := regL [1, 51, 52, 53] none [⟨some 50, .fa 0 (.tmp 1), none⟩, ⟨some 51, .ld 22 1 false (.tmp 50), none⟩, ⟨some 52, .len (.tmp 51), none⟩, ⟨some 53, .mv (.const (.int .i64 0)), none⟩]
def Xn29_31 : C := regL [1, 51, 52, 53, 54] none [⟨some 54, .bin 3 .lss (.tmp 53) (.tmp 52), none⟩]
def Xn29_33 : C := .cond (.tmp 54) .skip (.exit 1)
def Xn29_39 : C := regL [1, 4, 5, 51, 52, 53] none [⟨some 55, .mv (.tmp 53), none⟩, ⟨some 56, .ia 1 (.tmp 51) (.tmp 53), none⟩, ⟨some 57, .ld 2 1 false (.tmp 56), none⟩, ⟨some 4, .mv (.tmp 55), none⟩, ⟨some 5, .mv (.tmp 57), none⟩]
def Xn29_41 : C := regL [1, 51, 52, 53, 78] none [⟨some 58, .mv (.tmp 5), none⟩, ⟨some 59, .call 48 [.tmp 58, .const (.int .i64 100), .const (.int .i64 131072)], none⟩, ⟨some 60, .un .not (.tmp 59), none⟩, ⟨some 61, .mv (.tmp 60), none⟩, ⟨some 62, .fa 1 (.tmp 1), some (61, false)⟩, ⟨some 63, .ld 22 1 false (.tmp 62), some (61, false)⟩, ⟨some 64, .mv (.tmp 4), some (61, false)⟩, ⟨some 65, .ia 1 (.tmp 63) (.tmp 64), some (61, false)⟩, ⟨some 66, .ld 2 1 false (.tmp 65), some (61, false)⟩, ⟨some 67, .call 48 [.tmp 66, .const (.int .i64 1), .const (.int .i64 1073741824)], some (61, false)⟩, ⟨some 68, .un .not (.tmp 67), some (61, false)⟩, ⟨some 69, .pick 61 (.const (.bool true)) (.tmp 68), none⟩, ⟨some 70, .mv (.tmp 69), none⟩, ⟨some 71, .fa 2 (.tmp 1), some (70, false)⟩, ⟨some 72, .ld 22 1 false (.tmp 71), some (70, false)⟩, ⟨some 73, .mv (.tmp 4), some (70, false)⟩, ⟨some 74, .ia 1 (.tmp 72) (.tmp 73), some (70, false)⟩, ⟨some 75, .ld 2 1 false (.tmp 74), some (70, false)⟩, ⟨some 76, .call 48 [.tmp 75, .const (.int .i64 1), .const (.int .i64 1073741824)], some (70, false)⟩, ⟨some 77, .un .not (.tmp 76), some (70, false)⟩, ⟨some 78, .pick 70 (.const (.bool true)) (.tmp 77), none⟩]
def Xn29_44 : C := regL [2] none [⟨some 2, .mv (.const (.int .i64 2)), none⟩]
def Xn29_43 : C := .seq Xn29_44 .ret
def Xn29_42 : C := .cond (.tmp 78) Xn29_43 .skip
def Xn29_40 : C := .seq Xn29_41 Xn29_42
def Xn29_38 : C := .seq Xn29_39 Xn29_40
def Xn29_37 : C := .block 2 Xn29_38
def Xn29_47 : C := regL [1, 51, 52, 53] none [⟨some 79, .bin 3 .add (.tmp 53) (.const (.int .i64 1)), none⟩, ⟨some 53, .mv (.tmp 79), none⟩]
def Xn29_36 : C := seqL [1, 51, 52, 53] Xn29_37 Xn29_47
def Xn29_32 : C := seqL [1, 51, 52, 53] Xn29_33 Xn29_36
def Xn29_30 : C := .seq Xn29_31 Xn29_32
/- carried: [53] -/
def Xn29_29 : C := loopL [1, 51, 52, 53] Xn29_30
def Xn29_28 : C := .block 1 Xn29_29
def Xn29_26 : C := .seq Xn29_27 Xn29_28
def Xn29_49 : C := regL [2] none [⟨some 2, .mv (.const (.int .i64 0)), none⟩]
def Xn29_48 : C := .seq Xn29_49 .ret
def Xn29_25 : C := seqL [] Xn29_26 Xn29_48
def Xn29_4 : C := seqL [1] Xn29_5 Xn29_25
def Xn29_2 : C := .seq Xn29_3 Xn29_4
def Xn29_0 : C := .seq Xn29_1 Xn29_2
theorem Xt29 : Text Try.prog 29 Xn29_0 80 1 [.t 2] := ⟨⟨Try.f29, [1], Try.func29, by kernel_rfl, by kernel_rfl, by kernel_rfl, by kernel_rfl⟩⟩
def Xn30_1 : C := regL [0] none [⟨some 2, .mv (.const (.int .i64 0)), none⟩]
def Xn30_4 : C := regL [0, 13] none [⟨some 6, .mv (.tmp 0), none⟩, ⟨some 7, .len (.tmp 6), none⟩, ⟨some 8, .bin 3 .lss (.tmp 7) (.const (.int .i64 1)), none⟩, ⟨some 9, .mv (.tmp 8), none⟩, ⟨some 10, .mv (.tmp 0), some (9, false)⟩, ⟨some 11, .len (.tmp 10), some (9, false)⟩, ⟨some 12, .bin 3 .gtr (.tmp 11) (.const (.int .i64 64)), some (9, false)⟩, ⟨some 13, .pick 9 (.const (.bool true)) (.tmp 12), none⟩]
def Xn30_7 : C := regL [2] none [⟨some 2, .mv (.const (.int .i64 6)), none⟩]
def Xn30_6 : C := .seq Xn30_7 .ret
def Xn30_5 : C := .cond (.tmp 13) Xn30_6 .skip
def Xn30_3 : C := .seq Xn30_4 Xn30_5
def Xn30_11 : C := regL [0, 3] none [⟨some 3, .mv (.const (.int .i64 0)), none⟩]
def Xn30_14 : C := regL [3, 14, 15, 16] none [⟨some 14, .mv (.tmp 0), none⟩, ⟨some 15, .len (.tmp 14), none⟩, ⟨some 16, .mv (.const (.int .i64 0)), none⟩]
def Xn30_18 : C := regL [3, 14, 15, 16, 17] none [⟨some 17, .bin 3 .lss (.tmp 16) (.tmp 15), none⟩]
def Xn30_20 : C := .cond (.tmp 17) .skip (.exit 0)
def Xn30_26 : C := regL [3, 4, 5, 14, 15, 16] none [⟨some 18, .mv (.tmp 16), none⟩, ⟨some 19, .ia 2 (.tmp 14) (.tmp 16), none⟩, ⟨some 20, .ld 35 2 true (.tmp 19), none⟩, ⟨some 5, .alc 35 (.agg #[.int .i64 0, .int .i64 0]), none⟩, ⟨some 4, .mv (.tmp 18), none⟩, ⟨none, .st 35 2 (.tmp 5) (.tmp 20), none⟩]
def Xn30_29 : C := regL [5, 14, 15, 16, 44] none [⟨some 21, .fa 0 (.tmp 5), none⟩, ⟨some 22, .ld 2 1 false (.tmp 21), none⟩, ⟨some 23, .mv (.tmp 3), none⟩, ⟨some 24, .bin 2 .lss (.tmp 22) (.tmp 23), none⟩, ⟨some 25, .mv (.tmp 24), none⟩, ⟨some 26, .fa 0 (.tmp 5), some (25, false)⟩, ⟨some 27, .ld 2 1 false (.tmp 26), some (25, false)⟩, ⟨some 28, .bin 2 .gtr (.tmp 27) (.const (.int .i64 262144)), some (25, false)⟩, ⟨some 29, .pick 25 (.const (.bool true)) (.tmp 28), none⟩, ⟨some 30, .mv (.tmp 29), none⟩, ⟨some 31, .mv (.tmp 4), some (30, false)⟩, ⟨some 32, .bin 3 .eql (.tmp 31) (.const (.int .i64 0)), some (30, false)⟩, ⟨some 33, .mv (.tmp 32), some (30, false)⟩, ⟨some 34, .fa 0 (.tmp 5), some (33, true)⟩, ⟨some 35, .ld 2 1 false (.tmp 34), some (33, true)⟩, ⟨some 36, .bin 2 .neq (.tmp 35) (.const (.int .i64 0)), some (33, true)⟩, ⟨some 37, .pick 33 (.tmp 36) (.const (.bool false)), some (30, false)⟩, ⟨some 38, .pick 30 (.const (.bool true)) (.tmp 37), none⟩, ⟨some 39, .mv (.tmp 38), none⟩, ⟨some 40, .fa 1 (.tmp 5), some (39, false)⟩, ⟨some 41, .ld 2 1 false (.tmp 40), some (39, false)⟩, ⟨some 42, .call 48 [.tmp 41, .const (.int .i64 0), .const (.int .i64 1048576)], some (39, false)⟩, ⟨some 43, .un .not (.tmp 42), some (39, false)⟩, ⟨some 44, .pick 39 (.const (.bool true)) (.tmp 43), none⟩]
def Xn30_32 : C := regL [2] none [⟨some 2, .mv (.const (.int .i64 2)), none⟩]
def Xn30_31 : C := .seq Xn30_32 .ret
def Xn30_30 : C := .cond (.tmp 44) Xn30_31 .skip
def Xn30_28 : C := .seq Xn30_29 Xn30_30
def Xn30_35 : C := regL [3, 14, 15, 16] none [⟨some 45, .fa 0 (.tmp 5), none⟩, ⟨some 46, .ld 2 1 false (.tmp 45), none⟩, ⟨some 3, .mv (.tmp 46), none⟩]
def Xn30_27 : C := seqL [5, 14, 15, 16] Xn30_28 Xn30_35
def Xn30_25 : C := .seq Xn30_26 Xn30_27
def Xn30_24 : C := .block 1 Xn30_25
def Xn30_36 : C := regL [3, 14, 15, 16] none [⟨some 47, .bin 3 .add (.tmp 16) (.const (.int .i64 1)), none⟩, ⟨some 16, .mv (.tmp 47), none⟩]
def Xn30_23 : C := seqL [3, 14, 15, 16] Xn30_24 Xn30_36
def Xn30_19 : C := seqL [3, 14, 15, 16] Xn30_20 Xn30_23
def Xn30_17 : C := .seq Xn30_18 Xn30_19
/- carried: [3, 16] -/
def Xn30_16 : C := loopL [3, 14, 15, 16] Xn30_17
def Xn30_15 : C := .block 0 Xn30_16
def Xn30_13 : C := .seq Xn30_14 Xn30_15
def Xn30_38 : C := regL [2] none [⟨some 2, .mv (.const (.int .i64 0)), none⟩]
def Xn30_37 : C := .seq Xn30_38 .ret
def Xn30_12 : C := seqL [] Xn30_13 Xn30_37
def Xn30_10 : C := .seq Xn30_11 Xn30_12
def Xn30_2 : C := seqL [0] Xn30_3 Xn30_10
def Xn30_0 : C := .seq Xn30_1 Xn30_2
theorem Xt30 : Text Try.prog 30 Xn30_0 48 1 [.t 2] := ⟨⟨Try.f30, [], Try.func30, by kernel_rfl, by kernel_rfl, by kernel_rfl, by kernel_rfl⟩⟩
def Xn31_1 : C := regL [1] none [⟨some 1, .box true 24 (.tmp 0), none⟩, ⟨some 2, .mv (.const (.int .i64 0)), none⟩]
def Xn31_4 : C := regL [1, 13] none [⟨some 4, .fa 0 (.tmp 1), none⟩, ⟨some 5, .ld 22 1 false (.tmp 4), none⟩, ⟨some 6, .len (.tmp 5), none⟩, ⟨some 7, .bin 3 .lss (.tmp 6) (.const (.int .i64 1)), none⟩, ⟨some 8, .mv (.tmp 7), none⟩, ⟨some 9, .fa 0 (.tmp 1), some (8, false)⟩, ⟨some 10, .ld 22 1 false (.tmp 9), some (8, false)⟩, ⟨some 11, .len (.tmp 10), some (8, false)⟩, ⟨some 12, .bin 3 .gtr (.tmp 11) (.const (.int .i64 6)), some (8, false)⟩, ⟨some 13, .pick 8 (.const (.bool true)) (.tmp 12), none⟩]
def Xn31_7 : C := regL [2] none [⟨some 2, .mv (.const (.int .i64 6)), none⟩]
def Xn31_6 : C := .seq Xn31_7 .ret
def Xn31_5 : C := .cond (.tmp 13) Xn31_6 .skip
def Xn31_3 : C := .seq Xn31_4 Xn31_5
def Xn31_12 : C := regL [1, 29] none [⟨some 14, .fa 1 (.tmp 1), none⟩, ⟨some 15, .ld 22 1 false (.tmp 14), none⟩, ⟨some 16, .len (.tmp 15), none⟩, ⟨some 17, .fa 0 (.tmp 1), none⟩, ⟨some 18, .ld 22 1 false (.tmp 17), none⟩, ⟨some 19, .len (.tmp 18), none⟩, ⟨some 20, .bin 3 .neq (.tmp 16) (.tmp 19), none⟩, ⟨some 21, .mv (.tmp 20), none⟩, ⟨some 22, .fa 2 (.tmp 1), some (21, false)⟩, ⟨some 23, .ld 22 1 false (.tmp 22), some (21, false)⟩, ⟨some 24, .len (.tmp 23), some (21, false)⟩, ⟨some 25, .fa 0 (.tmp 1), some (21, false)⟩, ⟨some 26, .ld 22 1 false (.tmp 25), some (21, false)⟩, ⟨some 27, .len (.tmp 26), some (21, false)⟩, ⟨some 28, .bin 3 .neq (.tmp 24) (.tmp 27), some (21, false)⟩, ⟨some 29, .pick 21 (.const (.bool true)) (.tmp 28), none⟩]
def Xn31_15 : C := regL [2] none [⟨some 2, .mv (.const (.int .i64 17)), none⟩]
def Xn31_14 : C := .seq Xn31_15 .ret
def Xn31_13 : C := .cond (.tmp 29) Xn31_14 .skip
def Xn31_11 : C := .seq Xn31_12 Xn31_13
def Xn31_20 : C := regL [1, 3] none [⟨some 3, .mv (.const (.int .i64 0)), none⟩]
def Xn31_25 : C := regL [1, 3, 34] none [⟨some 30, .mv (.tmp 3), none⟩, ⟨some 31, .fa 0 (.tmp 1), none⟩, ⟨some 32, .ld 22 1 false (.tmp 31), none⟩, ⟨some 33, .len (.tmp 32), none⟩, ⟨some 34, .bin 3 .lss (.tmp 30) (.tmp 33), none⟩]
def Xn31_26 : C := .cond (.tmp 34) .skip (.exit 0)
def Xn31_24 : C := .seq Xn31_25 Xn31_26
def Xn31_32 : C := regL [1, 3, 61] none [⟨some 37, .fa 0 (.tmp 1), none⟩, ⟨some 38, .ld 22 1 false (.tmp 37), none⟩, ⟨some 39, .mv (.tmp 3), none⟩, ⟨some 40, .ia 1 (.tmp 38) (.tmp 39), none⟩, ⟨some 41, .ld 2 1 false (.tmp 40), none⟩, ⟨some 42, .call 61 [.tmp 41, .const (.int .i64 100), .const (.int .i64 131072)], none⟩, ⟨some 43, .un .not (.tmp 42), none⟩, ⟨some 44, .mv (.tmp 43), none⟩, ⟨some 45, .fa 1 (.tmp 1), some (44, false)⟩, ⟨some 46, .ld 22 1 false (.tmp 45), some (44, false)⟩, ⟨some 47, .mv (.tmp 3), some (44, false)⟩, ⟨some 48, .ia 1 (.tmp 46) (.tmp 47), some (44, false)⟩, ⟨some 49, .ld 2 1 false (.tmp 48), some (44, false)⟩, ⟨some 50, .call 61 [.tmp 49, .const (.int .i64 1), .const (.int .i64 1073741824)], some (44, false)⟩, ⟨some 51, .un .not (.tmp 50), some (44, false)⟩, ⟨some 52, .pick 44 (.const (.bool true)) (.tmp 51), none⟩, ⟨some 53, .mv (.tmp 52), none⟩, ⟨some 54, .fa 2 (.tmp 1), some (53, false)⟩, ⟨some 55, .ld 22 1 false (.tmp 54), some (53, false)⟩, ⟨some 56, .mv (.tmp 3), some (53, false)⟩, ⟨some 57, .ia 1 (.tmp 55) (.tmp 56), some (53, false)⟩, ⟨some 58, .ld 2 1 false (.tmp 57), some (53, false)⟩, ⟨some 59, .call 61 [.tmp 58, .const (.int .i64 1), .const (.int .i64 1073741824)], some (53, false)⟩, ⟨some 60, .un .not (.tmp 59), some (53, false)⟩, ⟨some 61, .pick 53 (.const (.bool true)) (.tmp 60), none⟩]
def Xn31_35 : C := regL [2] none [⟨some 2, .mv (.const (.int .i64 2)), none⟩]
def Xn31_34 : C := .seq Xn31_35 .ret
def Xn31_33 : C := .cond (.tmp 61) Xn31_34 .skip
def Xn31_31 : C := .seq Xn31_32 Xn31_33
def Xn31_30 : C := .block 1 Xn31_31
def Xn31_38 : C := regL [1, 3] none [⟨some 35, .mv (.tmp 3), none⟩, ⟨some 36, .bin 3 .add (.tmp 35) (.const (.int .i64 1)), none⟩, ⟨some 3, .mv (.tmp 36), none⟩]
def Xn31_29 : C := seqL [1, 3] Xn31_30 Xn31_38
def Xn31_23 : C := seqL [1, 3] Xn31_24 Xn31_29
/- carried: [3] -/
def Xn31_22 : C := loopL [1, 3] Xn31_23
def Xn31_21 : C := .block 0 Xn31_22
def Xn31_19 : C := .seq Xn31_20 Xn31_21
def Xn31_41 : C := regL [81] none [⟨some 62, .fa 3 (.tmp 1), none⟩, ⟨some 63, .ld 2 1 false (.tmp 62), none⟩, ⟨some 64, .call 61 [.tmp 63, .const (.int .i64 0), .const (.int .i64 1000)], none⟩, ⟨some 65, .un .not (.tmp 64), none⟩, ⟨some 66, .mv (.tmp 65), none⟩, ⟨some 67, .fa 4 (.tmp 1), some (66, false)⟩, ⟨some 68, .ld 3 1 false (.tmp 67), some (66, false)⟩, ⟨some 69, .bin 3 .lss (.tmp 68) (.const (.int .i64 1)), some (66, false)⟩, ⟨some 70, .pick 66 (.const (.bool true)) (.tmp 69), none⟩, ⟨some 71, .mv (.tmp 70), none⟩, ⟨some 72, .fa 4 (.tmp 1), some (71, false)⟩, ⟨some 73, .ld 3 1 false (.tmp 72), some (71, false)⟩, ⟨some 74, .bin 3 .gtr (.tmp 73) (.const (.int .i64 4)), some (71, false)⟩, ⟨some 75, .pick 71 (.const (.bool true)) (.tmp 74), none⟩, ⟨some 76, .mv (.tmp 75), none⟩, ⟨some 77, .fa 5 (.tmp 1), some (76, false)⟩, ⟨some 78, .ld 2 1 false (.tmp 77), some (76, false)⟩, ⟨some 79, .call 61 [.tmp 78, .const (.int .i64 0), .const (.int .i64 4096)], some (76, false)⟩, ⟨some 80, .un .not (.tmp 79), some (76, false)⟩, ⟨some 81, .pick 76 (.const (.bool true)) (.tmp 80), none⟩]
def Xn31_44 : C := regL [2] none [⟨some 2, .mv (.const (.int .i64 2)), none⟩]
def Xn31_43 : C := .seq Xn31_44 .ret
def Xn31_42 : C := .cond (.tmp 81) Xn31_43 .skip
def Xn31_40 : C := .seq Xn31_41 Xn31_42
def Xn31_48 : C := regL [2] none [⟨some 2, .mv (.const (.int .i64 0)), none⟩]
def Xn31_47 : C := .seq Xn31_48 .ret
def Xn31_39 : C := seqL [] Xn31_40 Xn31_47
def Xn31_18 : C := seqL [1] Xn31_19 Xn31_39
def Xn31_10 : C := seqL [1] Xn31_11 Xn31_18
def Xn31_2 : C := seqL [1] Xn31_3 Xn31_10
def Xn31_0 : C := .seq Xn31_1 Xn31_2
theorem Xt31 : Text Try.prog 31 Xn31_0 82 1 [.t 2] := ⟨⟨Try.f31, [1], Try.func31, by kernel_rfl, by kernel_rfl, by kernel_rfl, by kernel_rfl⟩⟩
def Xn32_1 : C := regL [0] none [⟨some 2, .mv (.const (.slice none 0 0)), none⟩]
def Xn32_3 : C := regL [0, 3] none [⟨some 3, .mv (.const (.slice none 0 0)), none⟩]
def Xn32_6 : C := regL [0, 3, 4] none [⟨some 4, .mv (.const (.int .i64 1)), none⟩]
def Xn32_11 : C := regL [0, 3, 4, 6] none [⟨some 5, .mv (.tmp 4), none⟩, ⟨some 6, .bin 2 .leq (.tmp 5) (.const (.int .i64 15)), none⟩]
def Xn32_12 : C := .cond (.tmp 6) .skip (.exit 0)
def Xn32_10 : C := .seq Xn32_11 Xn32_12
def Xn32_17 : C := regL [0, 3, 4] none [⟨some 9, .mv (.tmp 3), none⟩, ⟨some 10, .mv (.tmp 0), none⟩, ⟨some 11, .mv (.tmp 4), none⟩, ⟨some 12, .bin 2 .mul (.tmp 10) (.tmp 11), none⟩, ⟨some 13, .bin 2 .quo (.tmp 12) (.const (.int .i64 16)), none⟩, ⟨some 14, .bls 2 1 1 (.int .i64 0) [(0, 1, .tmp 13)], none⟩, ⟨some 15, .app 2 1 8 (.tmp 9) (.tmp 14), none⟩, ⟨some 3, .mv (.tmp 15), none⟩]
def Xn32_16 : C := .block 1 Xn32_17
def Xn32_18 : C := regL [0, 3, 4] none [⟨some 7, .mv (.tmp 4), none⟩, ⟨some 8, .bin 2 .add (.tmp 7) (.const (.int .i64 1)), none⟩, ⟨some 4, .mv (.tmp 8), none⟩]
def Xn32_15 : C := seqL [0, 3, 4] Xn32_16 Xn32_18
def Xn32_9 : C := seqL [0, 3, 4] Xn32_10 Xn32_15
/- carried: [3, 4] -/
def Xn32_8 : C := loopL [0, 3, 4] Xn32_9
def Xn32_7 : C := .block 0 Xn32_8
def Xn32_5 : C := .seq Xn32_6 Xn32_7
def Xn32_20 : C := regL [2] none [⟨some 16, .mv (.tmp 3), none⟩, ⟨some 2, .mv (.tmp 16), none⟩]
def Xn32_19 : C := .seq Xn32_20 .ret
def Xn32_4 : C := seqL [3] Xn32_5 Xn32_19
def Xn32_2 : C := .seq Xn32_3 Xn32_4
def Xn32_0 : C := .seq Xn32_1 Xn32_2
theorem Xt32 : Text Try.prog 32 Xn32_0 17 1 [.t 2] := ⟨⟨Try.f32, [], Try.func32, by kernel_rfl, by kernel_rfl, by kernel_rfl, by kernel_rfl⟩⟩
def Xn33_1 : C := regL [1, 2, 3, 4, 5] none [⟨some 5, .box true 24 (.tmp 0), none⟩, ⟨some 10, .mv (.const (.bool false)), none⟩]
def Xn33_3 : C := regL [1, 2, 3, 4, 5, 11] none [⟨some 13, .fa 0 (.tmp 5), none⟩, ⟨some 14, .ld 22 1 false (.tmp 13), none⟩, ⟨some 15, .mv (.tmp 1), none⟩, ⟨some 16, .ia 1 (.tmp 14) (.tmp 15), none⟩, ⟨some 17, .ld 2 1 false (.tmp 16), none⟩, ⟨some 11, .mv (.tmp 17), none⟩]
def Xn33_5 : C := regL [1, 2, 4, 5, 11, 12] none [⟨some 18, .fa 3 (.tmp 5), none⟩, ⟨some 19, .ld 2 1 false (.tmp 18), none⟩, ⟨some 20, .bin 2 .add (.const (.int .i64 1000)) (.tmp 19), none⟩, ⟨some 21, .mv (.tmp 3), none⟩, ⟨some 22, .mv (.tmp 11), none⟩, ⟨some 23, .bin 2 .mul (.const (.int .i64 1000)) (.tmp 22), none⟩, ⟨some 24, .call 67 [.tmp 20, .tmp 21, .tmp 23], none⟩, ⟨some 12, .mv (.tmp 24), none⟩]
def Xn33_8 : C := regL [1, 2, 5, 11, 12, 25] none [⟨some 25, .mv (.tmp 4), none⟩]
def Xn33_10 : C := regL [1, 5, 12] none [⟨some 26, .mv (.tmp 12), none⟩, ⟨some 27, .fa 4 (.tmp 5), none⟩, ⟨some 28, .ld 3 1 false (.tmp 27), none⟩, ⟨some 29, .bin 3 .sub (.tmp 28) (.const (.int .i64 1)), none⟩, ⟨some 30, .fa 5 (.tmp 5), none⟩, ⟨some 31, .ld 2 1 false (.tmp 30), none⟩, ⟨some 32, .bin 2 .mul (.tmp 29) (.tmp 31), none⟩, ⟨some 33, .mv (.tmp 2), none⟩, ⟨some 34, .bin 2 .mul (.tmp 32) (.tmp 33), none⟩, ⟨some 35, .mv (.tmp 11), none⟩, ⟨some 36, .mv (.tmp 2), none⟩, ⟨some 37, .bin 2 .sub (.tmp 35) (.tmp 36), none⟩, ⟨some 38, .bin 2 .mul (.tmp 34) (.tmp 37), none⟩, ⟨some 39, .call 62 [.tmp 38, .const (.int .i64 2000)], none⟩, ⟨some 40, .bin 2 .add (.tmp 26) (.tmp 39), none⟩, ⟨some 12, .mv (.tmp 40), none⟩]
def Xn33_9 : C := .cond (.tmp 25) Xn33_10 .skip
def Xn33_7 : C := .seq Xn33_8 Xn33_9
def Xn33_13 : C := regL [10] none [⟨some 41, .mv (.tmp 12), none⟩, ⟨some 42, .fa 1 (.tmp 5), none⟩, ⟨some 43, .ld 22 1 false (.tmp 42), none⟩, ⟨some 44, .mv (.tmp 1), none⟩, ⟨some 45, .ia 1 (.tmp 43) (.tmp 44), none⟩, ⟨some 46, .ld 2 1 false (.tmp 45), none⟩, ⟨some 47, .bin 2 .mul (.const (.int .i64 1000)) (.tmp 46), none⟩, ⟨some 48, .bin 2 .leq (.tmp 41) (.tmp 47), none⟩, ⟨some 10, .mv (.tmp 48), none⟩]
def Xn33_12 : C := .seq Xn33_13 .ret
def Xn33_6 : C := seqL [1, 5, 12] Xn33_7 Xn33_12
def Xn33_4 : C := .seq Xn33_5 Xn33_6
def Xn33_2 : C := .seq Xn33_3 Xn33_4
def Xn33_0 : C := .seq Xn33_1 Xn33_2
theorem Xt33 : Text Try.prog 33 Xn33_0 49 5 [.t 10] := ⟨⟨Try.f33, [5], Try.func33, by kernel_rfl, by kernel_rfl, by kernel_rfl, by kernel_rfl⟩⟩
def Xn34_1 : C := regL [1, 2, 3, 4] none [⟨some 4, .box true 24 (.tmp 0), none⟩, ⟨some 8, .mv (.const (.bool false)), none⟩]
def Xn34_3 : C := regL [1, 2, 3, 4, 9] none [⟨some 11, .fa 0 (.tmp 4), none⟩, ⟨some 12, .ld 22 1 false (.tmp 11), none⟩, ⟨some 13, .mv (.tmp 1), none⟩, ⟨some 14, .ia 1 (.tmp 12) (.tmp 13), none⟩, ⟨some 15, .ld 2 1 false (.tmp 14), none⟩, ⟨some 9, .mv (.tmp 15), none⟩]
def Xn34_5 : C := regL [1, 3, 4, 9, 10] none [⟨some 16, .fa 3 (.tmp 4), none⟩, ⟨some 17, .ld 2 1 false (.tmp 16), none⟩, ⟨some 18, .bin 2 .add (.const (.int .i64 1000)) (.tmp 17), none⟩, ⟨some 19, .mv (.tmp 2), none⟩, ⟨some 20, .mv (.tmp 9), none⟩, ⟨some 21, .bin 2 .mul (.const (.int .i64 1000)) (.tmp 20), none⟩, ⟨some 22, .call 67 [.tmp 18, .tmp 19, .tmp 21], none⟩, ⟨some 10, .mv (.tmp 22), none⟩]
def Xn34_8 : C := regL [1, 4, 9, 10, 23] none [⟨some 23, .mv (.tmp 3), none⟩]
def Xn34_10 : C := regL [1, 4, 10] none [⟨some 24, .mv (.tmp 10), none⟩, ⟨some 25, .fa 4 (.tmp 4), none⟩, ⟨some 26, .ld 3 1 false (.tmp 25), none⟩, ⟨some 27, .bin 3 .sub (.tmp 26) (.const (.int .i64 1)), none⟩, ⟨some 28, .fa 5 (.tmp 4), none⟩, ⟨some 29, .ld 2 1 false (.tmp 28), none⟩, ⟨some 30, .bin 2 .mul (.tmp 27) (.tmp 29), none⟩, ⟨some 31, .mv (.tmp 9), none⟩, ⟨some 32, .bin 2 .mul (.tmp 30) (.tmp 31), none⟩, ⟨some 33, .call 62 [.tmp 32, .const (.int .i64 2000)], none⟩, ⟨some 34, .bin 2 .add (.tmp 24) (.tmp 33), none⟩, ⟨some 10, .mv (.tmp 34), none⟩]
def Xn34_9 : C := .cond (.tmp 23) Xn34_10 .skip
def Xn34_7 : C := .seq Xn34_8 Xn34_9
def Xn34_13 : C := regL [8] none [⟨some 35, .mv (.tmp 10), none⟩, ⟨some 36, .fa 2 (.tmp 4), none⟩, ⟨some 37, .ld 22 1 false (.tmp 36), none⟩, ⟨some 38, .mv (.tmp 1), none⟩, ⟨some 39, .ia 1 (.tmp 37) (.tmp 38), none⟩, ⟨some 40, .ld 2 1 false (.tmp 39), none⟩, ⟨some 41, .bin 2 .leq (.tmp 35) (.tmp 40), none⟩, ⟨some 8, .mv (.tmp 41), none⟩]
def Xn34_12 : C := .seq Xn34_13 .ret
def Xn34_6 : C := seqL [1, 4, 10] Xn34_7 Xn34_12
def Xn34_4 : C := .seq Xn34_5 Xn34_6
def Xn34_2 : C := .seq Xn34_3 Xn34_4
def Xn34_0 : C := .seq Xn34_1 Xn34_2
theorem Xt34 : Text Try.prog 34 Xn34_0 42 4 [.t 8] := ⟨⟨Try.f34, [4], Try.func34, by kernel_rfl, by kernel_rfl, by kernel_rfl, by kernel_rfl⟩⟩
def Xn35_1 : C := regL [3, 4, 5] none [⟨some 3, .box true 24 (.tmp 0), none⟩, ⟨some 4, .box true 25 (.tmp 1), none⟩, ⟨some 5, .box true 4 (.tmp 2), none⟩, ⟨some 6, .mv (.const (.int .i64 0)), none⟩, ⟨some 7, .mv (.const (.int .i64 0)), none⟩]
def Xn35_4 : C := regL [3, 4, 5, 8] none [⟨some 10, .ld 24 6 true (.tmp 3), none⟩, ⟨some 11, .ld 25 1 false (.tmp 4), none⟩, ⟨some 12, .call 65 [.tmp 10, .tmp 11], none⟩, ⟨some 8, .mv (.tmp 12), none⟩]
def Xn35_6 : C := regL [3, 4, 5, 8, 14] none [⟨some 13, .mv (.tmp 8), none⟩, ⟨some 14, .bin 30 .neq (.tmp 13) (.const (.int .i64 0)), none⟩]
def Xn35_9 : C := regL [6, 7] none [⟨some 15, .mv (.tmp 8), none⟩, ⟨some 6, .mv (.const (.int .i64 0)), none⟩, ⟨some 7, .mv (.tmp 15), none⟩]
def Xn35_8 : C := .seq Xn35_9 .ret
def Xn35_7 : C := .cond (.tmp 14) Xn35_8 .skip
def Xn35_5 : C := .seq Xn35_6 Xn35_7
def Xn35_3 : C := .seq Xn35_4 Xn35_5
def Xn35_14 : C := regL [3, 4, 5, 19] none [⟨some 16, .ld 25 1 false (.tmp 4), none⟩, ⟨some 17, .call 68 [.tmp 16, .const (.int .i64 4000)], none⟩, ⟨some 18, .call 30 [.tmp 17], none⟩, ⟨some 19, .bin 30 .neq (.tmp 18) (.const (.int .i64 0)), none⟩]
def Xn35_17 : C := regL [6, 7] none [⟨some 6, .mv (.const (.int .i64 0)), none⟩, ⟨some 7, .mv (.const (.int .i64 4)), none⟩]
def Xn35_16 : C := .seq Xn35_17 .ret
def Xn35_15 : C := .cond (.tmp 19) Xn35_16 .skip
def Xn35_13 : C := .seq Xn35_14 Xn35_15
def Xn35_21 : C := regL [9] none [⟨some 20, .mkf 69 [] [.tmp 3, .tmp 4, .tmp 5], none⟩, ⟨some 21, .call 57 [.const (.int .i64 4001), .tmp 20], none⟩, ⟨some 9, .mv (.tmp 21), none⟩]
def Xn35_24 : C := regL [9, 23] none [⟨some 22, .mv (.tmp 9), none⟩, ⟨some 23, .bin 3 .eql (.tmp 22) (.const (.int .i64 0)), none⟩]
def Xn35_27 : C := regL [6, 7] none [⟨some 6, .mv (.const (.int .i64 0)), none⟩, ⟨some 7, .mv (.const (.int .i64 14)), none⟩]
def Xn35_26 : C := .seq Xn35_27 .ret
def Xn35_25 : C := .cond (.tmp 23) Xn35_26 .skip
def Xn35_23 : C := .seq Xn35_24 Xn35_25
def Xn35_31 : C := regL [6, 7] none [⟨some 24, .mv (.tmp 9), none⟩, ⟨some 25, .bin 3 .sub (.tmp 24) (.const (.int .i64 1)), none⟩, ⟨some 6, .mv (.tmp 25), none⟩, ⟨some 7, .mv (.const (.int .i64 0)), none⟩]
def Xn35_30 : C := .seq Xn35_31 .ret
def Xn35_22 : C := seqL [9] Xn35_23 Xn35_30
def Xn35_20 : C := .seq Xn35_21 Xn35_22
def Xn35_12 : C := seqL [3, 4, 5] Xn35_13 Xn35_20
def Xn35_2 : C := seqL [3, 4, 5] Xn35_3 Xn35_12
def Xn35_0 : C := .seq Xn35_1 Xn35_2
theorem Xt35 : Text Try.prog 35 Xn35_0 26 3 [.t 6, .t 7] := ⟨⟨Try.f35, [3, 4, 5], Try.func35, by kernel_rfl, by kernel_rfl, by kernel_rfl, by kernel_rfl⟩⟩
def Xn36_1 : C := regL [0, 1] none [⟨some 4, .mv (.const (.slice none 0 0)), none⟩]
def Xn36_3 : C := regL [0, 1, 5] none [⟨some 5, .mv (.const (.slice none 0 0)), none⟩]
def Xn36_6 : C := regL [0, 1, 5, 6] none [⟨some 6, .mv (.const (.int .i64 0)), none⟩]
def Xn36_11 : C := regL [0, 1, 5, 6, 10] none [⟨some 7, .mv (.tmp 6), none⟩, ⟨some 8, .mv (.tmp 0), none⟩, ⟨some 9, .len (.tmp 8), none⟩, ⟨some 10, .bin 3 .lss (.tmp 7) (.tmp 9), none⟩]
def Xn36_12 : C := .cond (.tmp 10) .skip (.exit 0)
def Xn36_10 : C := .seq Xn36_11 Xn36_12
def Xn36_17 : C := regL [0, 1, 5, 6] (some [0, 0, 0, 6, 14, 30, 0, 0, 192, 448, 960, 0, 4032, 8128, 16382, 32766, 65535, 131071]) [⟨some 13, .mv (.tmp 5), none⟩, ⟨some 14, .mv (.tmp 0), none⟩, ⟨some 15, .mv (.tmp 6), none⟩, ⟨some 16, .ia 2 (.tmp 14) (.tmp 15), none⟩, ⟨some 17, .fa 0 (.tmp 16), none⟩, ⟨some 18, .ld 2 1 false (.tmp 17), none⟩, ⟨some 19, .mv (.tmp 0), none⟩, ⟨some 20, .mv (.tmp 6), none⟩, ⟨some 21, .ia 2 (.tmp 19) (.tmp 20), none⟩, ⟨some 22, .fa 1 (.tmp 21), none⟩, ⟨some 23, .ld 2 1 false (.tmp 22), none⟩, ⟨some 24, .mv (.tmp 1), none⟩, ⟨some 25, .bin 2 .mul (.tmp 23) (.tmp 24), none⟩, ⟨some 26, .call 62 [.tmp 25, .const (.int .i64 1000)], none⟩, ⟨some 27, .bld (.agg #[.int .i64 0, .int .i64 0]) [(0, 1, .tmp 18), (1, 1, .tmp 26)], none⟩, ⟨some 28, .bls 35 2 1 (.agg #[.int .i64 0, .int .i64 0]) [(0, 2, .tmp 27)], none⟩, ⟨some 29, .app 35 2 16 (.tmp 13) (.tmp 28), none⟩, ⟨some 5, .mv (.tmp 29), none⟩]
def Xn36_16 : C := .block 1 Xn36_17
def Xn36_18 : C := regL [0, 1, 5, 6] none [⟨some 11, .mv (.tmp 6), none⟩, ⟨some 12, .bin 3 .add (.tmp 11) (.const (.int .i64 1)), none⟩, ⟨some 6, .mv (.tmp 12), none⟩]
def Xn36_15 : C := seqL [0, 1, 5, 6] Xn36_16 Xn36_18
def Xn36_9 : C := seqL [0, 1, 5, 6] Xn36_10 Xn36_15
/- carried: [5, 6] -/
def Xn36_8 : C := loopL [0, 1, 5, 6] Xn36_9
def Xn36_7 : C := .block 0 Xn36_8
def Xn36_5 : C := .seq Xn36_6 Xn36_7
def Xn36_20 : C := regL [4] none [⟨some 30, .mv (.tmp 5), none⟩, ⟨some 4, .mv (.tmp 30), none⟩]
def Xn36_19 : C := .seq Xn36_20 .ret
def Xn36_4 : C := seqL [5] Xn36_5 Xn36_19
def Xn36_2 : C := .seq Xn36_3 Xn36_4
def Xn36_0 : C := .seq Xn36_1 Xn36_2
theorem Xt36 : Text Try.prog 36 Xn36_0 31 2 [.t 4] := ⟨⟨Try.f36, [], Try.func36, by kernel_rfl, by kernel_rfl, by kernel_rfl, by kernel_rfl⟩⟩
def Xn37_1 : C := regL [1, 2] none [⟨some 2, .box true 24 (.tmp 0), none⟩, ⟨some 4, .mv (.const (.slice none 0 0)), none⟩, ⟨some 5, .mv (.const (.int .i64 0)), none⟩]
def Xn37_4 : C := regL [1, 2, 6] none [⟨some 9, .ld 24 6 true (.tmp 2), none⟩, ⟨some 10, .mv (.tmp 1), none⟩, ⟨some 11, .call 65 [.tmp 9, .tmp 10], none⟩, ⟨some 6, .mv (.tmp 11), none⟩]
def Xn37_6 : C := regL [1, 2, 6, 13] none [⟨some 12, .mv (.tmp 6), none⟩, ⟨some 13, .bin 30 .neq (.tmp 12) (.const (.int .i64 0)), none⟩]
def Xn37_9 : C := regL [4, 5] none [⟨some 14, .mv (.tmp 6), none⟩, ⟨some 4, .mv (.const (.slice none 0 0)), none⟩, ⟨some 5, .mv (.tmp 14), none⟩]
def Xn37_8 : C := .seq Xn37_9 .ret
def Xn37_7 : C := .cond (.tmp 13) Xn37_8 .skip
def Xn37_5 : C := .seq Xn37_6 Xn37_7
def Xn37_3 : C := .seq Xn37_4 Xn37_5
def Xn37_13 : C := regL [1, 2, 7] none [⟨some 7, .mv (.const (.slice none 0 0)), none⟩]
def Xn37_16 : C := regL [1, 2, 7, 17, 18] none [⟨some 15, .fa 0 (.tmp 2), none⟩, ⟨some 16, .ld 22 1 false (.tmp 15), none⟩, ⟨some 17, .len (.tmp 16), none⟩, ⟨some 18, .mv (.const (.int .i64 0)), none⟩]
def Xn37_20 : C := regL [1, 2, 7, 17, 18, 19] none [⟨some 19, .bin 3 .lss (.tmp 18) (.tmp 17), none⟩]
def Xn37_22 : C := .cond (.tmp 19) .skip (.exit 0)
def Xn37_28 : C := regL [1, 2, 7, 8, 17, 18] none [⟨some 20, .mv (.tmp 18), none⟩, ⟨some 8, .mv (.tmp 20), none⟩]
def Xn37_29 : C := regL [1, 2, 7, 17, 18] none [⟨some 21, .mv (.tmp 7), none⟩, ⟨some 22, .ld 24 6 true (.tmp 2), none⟩, ⟨some 23, .mv (.tmp 1), none⟩, ⟨some 24, .mv (.tmp 8), none⟩, ⟨some 25, .call 71 [.tmp 22, .tmp 23, .tmp 24], none⟩, ⟨some 26, .call 70 [.tmp 25, .func 72], none⟩, ⟨some 27, .bls 29 4 1 (.agg #[.int .i64 0, .int .i64 0, .int .i64 0, .int .i64 0]) [(0, 4, .tmp 26)], none⟩, ⟨some 28, .app 29 4 32 (.tmp 21) (.tmp 27), none⟩, ⟨some 7, .mv (.tmp 28), none⟩]
def Xn37_27 : C := .seq Xn37_28 Xn37_29
def Xn37_26 : C := .block 1 Xn37_27
def Xn37_30 : C := regL [1, 2, 7, 17, 18] none [⟨some 29, .bin 3 .add (.tmp 18) (.const (.int .i64 1)), none⟩, ⟨some 18, .mv (.tmp 29), none⟩]
def Xn37_25 : C := seqL [1, 2, 7, 17, 18] Xn37_26 Xn37_30
def Xn37_21 : C := seqL [1, 2, 7, 17, 18] Xn37_22 Xn37_25
def Xn37_19 : C := .seq Xn37_20 Xn37_21
/- carried: [7, 18] -/
def Xn37_18 : C := loopL [1, 2, 7, 17, 18] Xn37_19
def Xn37_17 : C := .block 0 Xn37_18
def Xn37_15 : C := .seq Xn37_16 Xn37_17
def Xn37_32 : C := regL [4, 5] none [⟨some 30, .mv (.tmp 7), none⟩, ⟨some 4, .mv (.tmp 30), none⟩, ⟨some 5, .mv (.const (.int .i64 0)), none⟩]
def Xn37_31 : C := .seq Xn37_32 .ret
def Xn37_14 : C := seqL [7] Xn37_15 Xn37_31
def Xn37_12 : C := .seq Xn37_13 Xn37_14
def Xn37_2 : C := seqL [1, 2] Xn37_3 Xn37_12
def Xn37_0 : C := .seq Xn37_1 Xn37_2
theorem Xt37 : Text Try.prog 37 Xn37_0 31 2 [.t 4, .t 5] := ⟨⟨Try.f37, [2], Try.func37, by kernel_rfl, by kernel_rfl, by kernel_rfl, by kernel_rfl⟩⟩
def Xn38_1 : C := regL [1, 2] none [⟨some 2, .box true 24 (.tmp 0), none⟩, ⟨some 4, .mv (.const (.slice none 0 0)), none⟩, ⟨some 5, .mv (.const (.int .i64 0)), none⟩]
def Xn38_4 : C := regL [1, 2, 15] none [⟨some 12, .ld 24 6 true (.tmp 2), none⟩, ⟨some 13, .mv (.tmp 1), none⟩, ⟨some 14, .call 73 [.tmp 12, .tmp 13], none⟩, ⟨some 15, .bin 30 .neq (.tmp 14) (.const (.int .i64 0)), none⟩]
def Xn38_7 : C := regL [4, 5] none [⟨some 16, .ld 24 6 true (.tmp 2), none⟩, ⟨some 17, .mv (.tmp 1), none⟩, ⟨some 18, .call 73 [.tmp 16, .tmp 17], none⟩, ⟨some 4, .mv (.const (.slice none 0 0)), none⟩, ⟨some 5, .mv (.tmp 18), none⟩]
def Xn38_6 : C := .seq Xn38_7 .ret
def Xn38_5 : C := .cond (.tmp 15) Xn38_6 .skip
def Xn38_3 : C := .seq Xn38_4 Xn38_5
def Xn38_11 : C := regL [1, 2, 6] none [⟨some 6, .mv (.const (.slice none 0 0)), none⟩]
def Xn38_14 : C := regL [1, 2, 6, 7] none [⟨some 7, .mv (.const (.int .i64 0)), none⟩]
def Xn38_19 : C := regL [1, 2, 6, 7, 23] none [⟨some 19, .mv (.tmp 7), none⟩, ⟨some 20, .fa 0 (.tmp 2), none⟩, ⟨some 21, .ld 22 1 false (.tmp 20), none⟩, ⟨some 22, .len (.tmp 21), none⟩, ⟨some 23, .bin 3 .lss (.tmp 19) (.tmp 22), none⟩]
def Xn38_20 : C := .cond (.tmp 23) .skip (.exit 0)
def Xn38_18 : C := .seq Xn38_19 Xn38_20
def Xn38_26 : C := regL [1, 2, 6, 7, 8] none [⟨some 26, .fa 0 (.tmp 2), none⟩, ⟨some 27, .ld 22 1 false (.tmp 26), none⟩, ⟨some 28, .mv (.tmp 7), none⟩, ⟨some 29, .ia 1 (.tmp 27) (.tmp 28), none⟩, ⟨some 30, .ld 2 1 false (.tmp 29), none⟩, ⟨some 31, .call 32 [.tmp 30], none⟩, ⟨some 8, .mv (.tmp 31), none⟩]
def Xn38_28 : C := regL [1, 2, 6, 7, 8, 9] (some [0, 0, 0, 0, 8, 24, 63, 0, 255]) [⟨some 32, .ld 24 6 true (.tmp 2), none⟩, ⟨some 33, .mv (.tmp 1), none⟩, ⟨some 34, .mv (.tmp 7), none⟩, ⟨some 35, .mv (.tmp 8), none⟩, ⟨some 36, .ia 1 (.tmp 35) (.const (.int .i64 0)), none⟩, ⟨some 37, .ld 2 1 false (.tmp 36), none⟩, ⟨some 38, .call 74 [.tmp 32, .tmp 33, .tmp 34, .tmp 37], none⟩, ⟨some 9, .alc 29 (.agg #[.int .i64 0, .int .i64 0, .int .i64 0, .int .i64 0]), none⟩, ⟨none, .st 29 4 (.tmp 9) (.tmp 38), none⟩]
def Xn38_31 : C := regL [1, 2, 6, 7, 8, 9, 10] none [⟨some 10, .mv (.const (.int .i64 1)), none⟩]
def Xn38_36 : C := regL [1, 2, 6, 7, 8, 9, 10, 42] none [⟨some 39, .mv (.tmp 10), none⟩, ⟨some 40, .mv (.tmp 8), none⟩, ⟨some 41, .len (.tmp 40), none⟩, ⟨some 42, .bin 3 .lss (.tmp 39) (.tmp 41), none⟩]
def Xn38_37 : C := .cond (.tmp 42) .skip (.exit 2)
def Xn38_35 : C := .seq Xn38_36 Xn38_37
def Xn38_43 : C := regL [1, 2, 6, 7, 8, 9, 10, 11] (some [0, 0, 0, 0, 0, 24, 56, 127, 0, 511]) [⟨some 45, .ld 24 6 true (.tmp 2), none⟩, ⟨some 46, .mv (.tmp 1), none⟩, ⟨some 47, .mv (.tmp 7), none⟩, ⟨some 48, .mv (.tmp 8), none⟩, ⟨some 49, .mv (.tmp 10), none⟩, ⟨some 50, .ia 1 (.tmp 48) (.tmp 49), none⟩, ⟨some 51, .ld 2 1 false (.tmp 50), none⟩, ⟨some 52, .call 74 [.tmp 45, .tmp 46, .tmp 47, .tmp 51], none⟩, ⟨some 11, .alc 29 (.agg #[.int .i64 0, .int .i64 0, .int .i64 0, .int .i64 0]), none⟩, ⟨none, .st 29 4 (.tmp 11) (.tmp 52), none⟩]
def Xn38_45 : C := regL [1, 2, 6, 7, 8, 9, 10, 11, 57] none [⟨some 53, .fa 0 (.tmp 11), none⟩, ⟨some 54, .ld 2 1 false (.tmp 53), none⟩, ⟨some 55, .fa 0 (.tmp 9), none⟩, ⟨some 56, .ld 2 1 false (.tmp 55), none⟩, ⟨some 57, .bin 2 .gtr (.tmp 54) (.tmp 56), none⟩]
def Xn38_47 : C := regL [1, 2, 6, 7, 8, 9, 10] none [⟨some 58, .ld 29 4 true (.tmp 11), none⟩, ⟨none, .st 29 4 (.tmp 9) (.tmp 58), none⟩]
def Xn38_46 : C := .cond (.tmp 57) Xn38_47 .skip
def Xn38_44 : C := .seq Xn38_45 Xn38_46
def Xn38_42 : C := .seq Xn38_43 Xn38_44
def Xn38_41 : C := .block 3 Xn38_42
def Xn38_49 : C := regL [1, 2, 6, 7, 8, 9, 10] none [⟨some 43, .mv (.tmp 10), none⟩, ⟨some 44, .bin 3 .add (.tmp 43) (.const (.int .i64 1)), none⟩, ⟨some 10, .mv (.tmp 44), none⟩]
def Xn38_40 : C := seqL [1, 2, 6, 7, 8, 9, 10] Xn38_41 Xn38_49
def Xn38_34 : C := seqL [1, 2, 6, 7, 8, 9, 10] Xn38_35 Xn38_40
/- carried: [10] -/
def Xn38_33 : C := loopL [1, 2, 6, 7, 8, 9, 10] Xn38_34
def Xn38_32 : C := .block 2 Xn38_33
def Xn38_30 : C := .seq Xn38_31 Xn38_32
def Xn38_50 : C := regL [1, 2, 6, 7] none [⟨some 59, .mv (.tmp 6), none⟩, ⟨some 60, .ld 29 4 true (.tmp 9), none⟩, ⟨some 61, .bls 29 4 1 (.agg #[.int .i64 0, .int .i64 0, .int .i64 0, .int .i64 0]) [(0, 4, .tmp 60)], none⟩, ⟨some 62, .app 29 4 32 (.tmp 59) (.tmp 61), none⟩, ⟨some 6, .mv (.tmp 62), none⟩]
def Xn38_29 : C := seqL [1, 2, 6, 7, 9] Xn38_30 Xn38_50
def Xn38_27 : C := .seq Xn38_28 Xn38_29
def Xn38_25 : C := .seq Xn38_26 Xn38_27
def Xn38_24 : C := .block 1 Xn38_25
def Xn38_51 : C := regL [1, 2, 6, 7] none [⟨some 24, .mv (.tmp 7), none⟩, ⟨some 25, .bin 3 .add (.tmp 24) (.const (.int .i64 1)), none⟩, ⟨some 7, .mv (.tmp 25), none⟩]
def Xn38_23 : C := seqL [1, 2, 6, 7] Xn38_24 Xn38_51
def Xn38_17 : C := seqL [1, 2, 6, 7] Xn38_18 Xn38_23
/- carried: [6, 7] -/
def Xn38_16 : C := loopL [1, 2, 6, 7] Xn38_17
def Xn38_15 : C := .block 0 Xn38_16
def Xn38_13 : C := .seq Xn38_14 Xn38_15
def Xn38_53 : C := regL [4, 5] none [⟨some 63, .mv (.tmp 6), none⟩, ⟨some 4, .mv (.tmp 63), none⟩, ⟨some 5, .mv (.const (.int .i64 0)), none⟩]
def Xn38_52 : C := .seq Xn38_53 .ret
def Xn38_12 : C := seqL [6] Xn38_13 Xn38_52
def Xn38_10 : C := .seq Xn38_11 Xn38_12
def Xn38_2 : C := seqL [1, 2] Xn38_3 Xn38_10
def Xn38_0 : C := .seq Xn38_1 Xn38_2
theorem Xt38 : Text Try.prog 38 Xn38_0 64 2 [.t 4, .t 5] := ⟨⟨Try.f38, [2], Try.func38, by kernel_rfl, by kernel_rfl, by kernel_rfl, by kernel_rfl⟩⟩
def Xn39_1 : C := regL [1, 2, 3, 6] none [⟨some 3, .box true 24 (.tmp 0), none⟩, ⟨some 6, .alc 29 (.agg #[.int .i64 0, .int .i64 0, .int .i64 0, .int .i64 0]), none⟩, ⟨some 7, .mv (.const (.int .i64 0)), none⟩]
def Xn39_4 : C := regL [1, 2, 3, 6, 13] none [⟨some 10, .ld 24 6 true (.tmp 3), none⟩, ⟨some 11, .mv (.tmp 1), none⟩, ⟨some 12, .call 73 [.tmp 10, .tmp 11], none⟩, ⟨some 13, .bin 30 .neq (.tmp 12) (.const (.int .i64 0)), none⟩]
def Xn39_7 : C := regL [6, 7] none [⟨some 14, .bld (.agg #[.int .i64 0, .int .i64 0, .int .i64 0, .int .i64 0]) [], none⟩, ⟨some 15, .ld 24 6 true (.tmp 3), none⟩, ⟨some 16, .mv (.tmp 1), none⟩, ⟨some 17, .call 73 [.tmp 15, .tmp 16], none⟩, ⟨none, .st 29 4 (.tmp 6) (.tmp 14), none⟩, ⟨some 7, .mv (.tmp 17), none⟩]
def Xn39_6 : C := .seq Xn39_7 .ret
def Xn39_5 : C := .cond (.tmp 13) Xn39_6 .skip
def Xn39_3 : C := .seq Xn39_4 Xn39_5
def Xn39_11 : C := regL [6, 8, 9] none [⟨some 19, .ld 24 6 true (.tmp 3), none⟩, ⟨some 20, .mv (.tmp 1), none⟩, ⟨some 21, .mv (.tmp 2), none⟩, ⟨some 22, .call 75 [.tmp 19, .tmp 20, .tmp 21], none⟩, ⟨some 18, .mv (.tmp 22), none⟩, ⟨some 23, .ext 0 (.tmp 18), none⟩, ⟨some 24, .ext 1 (.tmp 18), none⟩, ⟨some 8, .alc 29 (.agg #[.int .i64 0, .int .i64 0, .int .i64 0, .int .i64 0]), none⟩, ⟨none, .st 29 4 (.tmp 8) (.tmp 23), none⟩, ⟨some 9, .mv (.tmp 24), none⟩]
def Xn39_14 : C := regL [6, 8, 25] none [⟨some 25, .mv (.tmp 9), none⟩]
def Xn39_17 : C := regL [6, 7] none [⟨some 26, .ld 29 4 true (.tmp 8), none⟩, ⟨none, .st 29 4 (.tmp 6) (.tmp 26), none⟩, ⟨some 7, .mv (.const (.int .i64 14)), none⟩]
def Xn39_16 : C := .seq Xn39_17 .ret
def Xn39_15 : C := .cond (.tmp 25) Xn39_16 .skip
def Xn39_13 : C := .seq Xn39_14 Xn39_15
def Xn39_21 : C := regL [6, 7] none [⟨some 27, .bld (.agg #[.int .i64 0, .int .i64 0, .int .i64 0, .int .i64 0]) [], none⟩, ⟨none, .st 29 4 (.tmp 6) (.tmp 27), none⟩, ⟨some 7, .mv (.const (.int .i64 0)), none⟩]
def Xn39_20 : C := .seq Xn39_21 .ret
def Xn39_12 : C := seqL [6] Xn39_13 Xn39_20
def Xn39_10 : C := .seq Xn39_11 Xn39_12
def Xn39_2 : C := seqL [1, 2, 3, 6] Xn39_3 Xn39_10
def Xn39_0 : C := .seq Xn39_1 Xn39_2
theorem Xt39 : Text Try.prog 39 Xn39_0 28 3 [.c 6 4 true, .t 7] := ⟨⟨Try.f39, [3], Try.func39, by kernel_rfl, by kernel_rfl, by kernel_rfl, by kernel_rfl⟩⟩
def Xn40_1 : C := regL [1, 2, 3] none [⟨some 3, .box true 24 (.tmp 0), none⟩, ⟨some 6, .mv (.const (.int .i64 0)), none⟩, ⟨some 7, .mv (.const (.int .i64 0)), none⟩]
def Xn40_4 : C := regL [1, 2, 3, 18] none [⟨some 15, .ld 24 6 true (.tmp 3), none⟩, ⟨some 16, .mv (.tmp 1), none⟩, ⟨some 17, .call 73 [.tmp 15, .tmp 16], none⟩, ⟨some 18, .bin 30 .neq (.tmp 17) (.const (.int .i64 0)), none⟩]
def Xn40_7 : C := regL [6, 7] none [⟨some 19, .ld 24 6 true (.tmp 3), none⟩, ⟨some 20, .mv (.tmp 1), none⟩, ⟨some 21, .call 73 [.tmp 19, .tmp 20], none⟩, ⟨some 6, .mv (.const (.int .i64 0)), none⟩, ⟨some 7, .mv (.tmp 21), none⟩]
def Xn40_6 : C := .seq Xn40_7 .ret
def Xn40_5 : C := .cond (.tmp 18) Xn40_6 .skip
def Xn40_3 : C := .seq Xn40_4 Xn40_5
def Xn40_12 : C := regL [1, 2, 3, 25] none [⟨some 22, .mv (.tmp 1), none⟩, ⟨some 23, .call 36 [.tmp 22, .const (.int .i64 4000)], none⟩, ⟨some 24, .call 60 [.tmp 23], none⟩, ⟨some 25, .bin 30 .neq (.tmp 24) (.const (.int .i64 0)), none⟩]
def Xn40_15 : C := regL [6, 7] none [⟨some 6, .mv (.const (.int .i64 0)), none⟩, ⟨some 7, .mv (.const (.int .i64 4)), none⟩]
def Xn40_14 : C := .seq Xn40_15 .ret
def Xn40_13 : C := .cond (.tmp 25) Xn40_14 .skip
def Xn40_11 : C := .seq Xn40_12 Xn40_13
def Xn40_19 : C := regL [1, 2, 3, 9] (some [0, 0, 2, 0, 15, 31, 63, 63, 0, 383, 1023]) [⟨some 27, .ld 24 6 true (.tmp 3), none⟩, ⟨some 28, .mv (.tmp 1), none⟩, ⟨some 29, .call 36 [.tmp 28, .const (.int .i64 0)], none⟩, ⟨some 30, .mv (.tmp 2), none⟩, ⟨some 31, .call 75 [.tmp 27, .tmp 29, .tmp 30], none⟩, ⟨some 26, .mv (.tmp 31), none⟩, ⟨some 32, .ext 0 (.tmp 26), none⟩, ⟨some 33, .ext 1 (.tmp 26), none⟩, ⟨some 8, .alc 29 (.agg #[.int .i64 0, .int .i64 0, .int .i64 0, .int .i64 0]), none⟩, ⟨none, .st 29 4 (.tmp 8) (.tmp 32), none⟩, ⟨some 9, .mv (.tmp 33), none⟩]
def Xn40_22 : C := regL [1, 2, 3, 34] none [⟨some 34, .mv (.tmp 9), none⟩]
def Xn40_25 : C := regL [6, 7] none [⟨some 6, .mv (.const (.int .i64 0)), none⟩, ⟨some 7, .mv (.const (.int .i64 14)), none⟩]
def Xn40_24 : C := .seq Xn40_25 .ret
def Xn40_23 : C := .cond (.tmp 34) Xn40_24 .skip
def Xn40_21 : C := .seq Xn40_22 Xn40_23
def Xn40_29 : C := regL [1, 2, 3, 10, 11] none [⟨some 10, .mv (.const (.int .i64 0)), none⟩, ⟨some 11, .mv (.const (.int .i64 4000)), none⟩]
def Xn40_35 : C := regL [1, 2, 3, 10, 11, 37] none [⟨some 35, .mv (.tmp 10), none⟩, ⟨some 36, .mv (.tmp 11), none⟩, ⟨some 37, .bin 2 .lss (.tmp 35) (.tmp 36), none⟩]
def Xn40_36 : C := .cond (.tmp 37) .skip (.exit 0)
def Xn40_34 : C := .seq Xn40_35 Xn40_36
def Xn40_41 : C := regL [1, 2, 3, 10, 11, 12] none [⟨some 38, .mv (.tmp 10), none⟩, ⟨some 39, .mv (.tmp 11), none⟩, ⟨some 40, .bin 2 .add (.tmp 38) (.tmp 39), none⟩, ⟨some 41, .bin 2 .add (.tmp 40) (.const (.int .i64 1)), none⟩, ⟨some 42, .bin 2 .quo (.tmp 41) (.const (.int .i64 2)), none⟩, ⟨some 12, .mv (.tmp 42), none⟩]
def Xn40_43 : C := regL [1, 2, 3, 10, 11, 12, 14] (some [0, 0, 0, 6, 0, 31, 63, 127, 127, 0, 767, 2047]) [⟨some 44, .ld 24 6 true (.tmp 3), none⟩, ⟨some 45, .mv (.tmp 1), none⟩, ⟨some 46, .mv (.tmp 12), none⟩, ⟨some 47, .call 36 [.tmp 45, .tmp 46], none⟩, ⟨some 48, .mv (.tmp 2), none⟩, ⟨some 49, .call 75 [.tmp 44, .tmp 47, .tmp 48], none⟩, ⟨some 43, .mv (.tmp 49), none⟩, ⟨some 50, .ext 0 (.tmp 43), none⟩, ⟨some 51, .ext 1 (.tmp 43), none⟩, ⟨some 13, .alc 29 (.agg #[.int .i64 0, .int .i64 0, .int .i64 0, .int .i64 0]), none⟩, ⟨none, .st 29 4 (.tmp 13) (.tmp 50), none⟩, ⟨some 14, .mv (.tmp 51), none⟩]
def Xn40_45 : C := regL [1, 2, 3, 10, 11, 12, 52] none [⟨some 52, .mv (.tmp 14), none⟩]
def Xn40_47 : C := regL [1, 2, 3, 10, 11] none [⟨some 53, .mv (.tmp 12), none⟩, ⟨some 54, .bin 2 .sub (.tmp 53) (.const (.int .i64 1)), none⟩, ⟨some 11, .mv (.tmp 54), none⟩]
def Xn40_48 : C := regL [1, 2, 3, 10, 11] none [⟨some 55, .mv (.tmp 12), none⟩, ⟨some 10, .mv (.tmp 55), none⟩]
def Xn40_46 : C := .cond (.tmp 52) Xn40_47 Xn40_48
def Xn40_44 : C := .seq Xn40_45 Xn40_46
def Xn40_42 : C := .seq Xn40_43 Xn40_44
def Xn40_40 : C := .seq Xn40_41 Xn40_42
def Xn40_39 : C := .block 1 Xn40_40
def Xn40_33 : C := seqL [1, 2, 3, 10, 11] Xn40_34 Xn40_39
/- carried: [10, 11] -/
def Xn40_32 : C := loopL [1, 2, 3, 10, 11] Xn40_33
def Xn40_31 : C := .block 0 Xn40_32
def Xn40_50 : C := regL [6, 7] none [⟨some 56, .mv (.tmp 10), none⟩, ⟨some 6, .mv (.tmp 56), none⟩, ⟨some 7, .mv (.const (.int .i64 0)), none⟩]
def Xn40_49 : C := .seq Xn40_50 .ret
def Xn40_30 : C := seqL [10] Xn40_31 Xn40_49
def Xn40_28 : C := .seq Xn40_29 Xn40_30
def Xn40_20 : C := seqL [1, 2, 3] Xn40_21 Xn40_28
def Xn40_18 : C := .seq Xn40_19 Xn40_20
def Xn40_10 : C := seqL [1, 2, 3] Xn40_11 Xn40_18
def Xn40_2 : C := seqL [1, 2, 3] Xn40_3 Xn40_10
def Xn40_0 : C := .seq Xn40_1 Xn40_2
theorem Xt40 : Text Try.prog 40 Xn40_0 57 3 [.t 6, .t 7] := ⟨⟨Try.f40, [3], Try.func40, by kernel_rfl, by kernel_rfl, by kernel_rfl, by kernel_rfl⟩⟩
def Xn41_1 : C := regL [0, 1] none [⟨some 4, .mv (.const (.bool false)), none⟩]
def Xn41_4 : C := regL [0, 1, 10] none [⟨some 6, .mv (.tmp 0), none⟩, ⟨some 7, .len (.tmp 6), none⟩, ⟨some 8, .mv (.tmp 1), none⟩, ⟨some 9, .len (.tmp 8), none⟩, ⟨some 10, .bin 3 .neq (.tmp 7) (.tmp 9), none⟩]
def Xn41_7 : C := regL [4] none [⟨some 4, .mv (.const (.bool false)), none⟩]
def Xn41_6 : C := .seq Xn41_7 .ret
def Xn41_5 : C := .cond (.tmp 10) Xn41_6 .skip
def Xn41_3 : C := .seq Xn41_4 Xn41_5
def Xn41_12 : C := regL [0, 1, 5] none [⟨some 5, .mv (.const (.int .i64 0)), none⟩]
def Xn41_17 : C := regL [0, 1, 5, 14] none [⟨some 11, .mv (.tmp 5), none⟩, ⟨some 12, .mv (.tmp 0), none⟩, ⟨some 13, .len (.tmp 12), none⟩, ⟨some 14, .bin 3 .lss (.tmp 11) (.tmp 13), none⟩]
def Xn41_18 : C := .cond (.tmp 14) .skip (.exit 0)
def Xn41_16 : C := .seq Xn41_17 Xn41_18
def Xn41_24 : C := regL [0, 1, 5, 25] (some [0, 0, 3, 7, 0, 0, 48, 112, 255]) [⟨some 17, .mv (.tmp 0), none⟩, ⟨some 18, .mv (.tmp 5), none⟩, ⟨some 19, .ia 4 (.tmp 17) (.tmp 18), none⟩, ⟨some 20, .ld 29 4 true (.tmp 19), none⟩, ⟨some 21, .mv (.tmp 1), none⟩, ⟨some 22, .mv (.tmp 5), none⟩, ⟨some 23, .ia 4 (.tmp 21) (.tmp 22), none⟩, ⟨some 24, .ld 29 4 true (.tmp 23), none⟩, ⟨some 25, .eqb 85 true (.tmp 20) (.tmp 24), none⟩]
def Xn41_27 : C := regL [4] none [⟨some 4, .mv (.const (.bool false)), none⟩]
def Xn41_26 : C := .seq Xn41_27 .ret
def Xn41_25 : C := .cond (.tmp 25) Xn41_26 .skip
def Xn41_23 : C := .seq Xn41_24 Xn41_25
def Xn41_22 : C := .block 1 Xn41_23
def Xn41_30 : C := regL [0, 1, 5] none [⟨some 15, .mv (.tmp 5), none⟩, ⟨some 16, .bin 3 .add (.tmp 15) (.const (.int .i64 1)), none⟩, ⟨some 5, .mv (.tmp 16), none⟩]
def Xn41_21 : C := seqL [0, 1, 5] Xn41_22 Xn41_30
def Xn41_15 : C := seqL [0, 1, 5] Xn41_16 Xn41_21
/- carried: [5] -/
def Xn41_14 : C := loopL [0, 1, 5] Xn41_15
def Xn41_13 : C := .block 0 Xn41_14
def Xn41_11 : C := .seq Xn41_12 Xn41_13
def Xn41_32 : C := regL [4] none [⟨some 4, .mv (.const (.bool true)), none⟩]
def Xn41_31 : C := .seq Xn41_32 .ret
def Xn41_10 : C := seqL [] Xn41_11 Xn41_31
def Xn41_2 : C := seqL [0, 1] Xn41_3 Xn41_10
def Xn41_0 : C := .seq Xn41_1 Xn41_2
theorem Xt41 : Text Try.prog 41 Xn41_0 26 2 [.t 4] := ⟨⟨Try.f41, [], Try.func41, by kernel_rfl, by kernel_rfl, by kernel_rfl, by kernel_rfl⟩⟩
def Xn42_1 : C := regL [0] none [⟨some 0, .alc 24 (.agg #[.slice none 0 0, .slice none 0 0, .slice none 0 0, .int .i64 0, .int .i64 0, .int .i64 0]), none⟩]
def Xn42_3 : C := regL [0] none [⟨some 1, .bls 2 1 2 (.int .i64 0) [(0, 1, .const (.int .i64 20000)), (1, 1, .const (.int .i64 10000))], none⟩, ⟨some 2, .bls 2 1 2 (.int .i64 0) [(0, 1, .const (.int .i64 200000)), (1, 1, .const (.int .i64 100000))], none⟩, ⟨some 3, .bls 2 1 2 (.int .i64 0) [(0, 1, .const (.int .i64 60000)), (1, 1, .const (.int .i64 50000))], none⟩, ⟨some 4, .bld (.agg #[.slice none 0 0, .slice none 0 0, .slice none 0 0, .int .i64 0, .int .i64 0, .int .i64 0]) [(0, 1, .tmp 1), (1, 1, .tmp 2), (2, 1, .tmp 3), (3, 1, .const (.int .i64 200)), (4, 1, .const (.int .i64 2)), (5, 1, .const (.int .i64 500))], none⟩, ⟨none, .st 24 6 (.tmp 0) (.tmp 4), none⟩]
def Xn42_2 : C := .seq Xn42_3 .ret
def Xn42_0 : C := .seq Xn42_1 Xn42_2
theorem Xt42 : Text Try.prog 42 Xn42_0 5 0 [.c 0 6 true] := ⟨⟨Try.f42, [], Try.func42, by kernel_rfl, by kernel_rfl, by kernel_rfl, by kernel_rfl⟩⟩
def Xn43_1 : C := regL [] none [⟨some 0, .mv (.const (.slice none 0 0)), none⟩]
def Xn43_3 : C := regL [0] none [⟨some 1, .bld (.agg #[.int .i64 0, .int .i64 0]) [(1, 1, .const (.int .i64 12000))], none⟩, ⟨some 2, .bld (.agg #[.int .i64 0, .int .i64 0]) [(0, 1, .const (.int .i64 2000)), (1, 1, .const (.int .i64 12000))], none⟩, ⟨some 3, .bls 35 2 2 (.agg #[.int .i64 0, .int .i64 0]) [(0, 2, .tmp 1), (2, 2, .tmp 2)], none⟩, ⟨some 0, .mv (.tmp 3), none⟩]
def Xn43_2 : C := .seq Xn43_3 .ret
def Xn43_0 : C := .seq Xn43_1 Xn43_2
theorem Xt43 : Text Try.prog 43 Xn43_0 4 0 [.t 0] := ⟨⟨Try.f43, [], Try.func43, by kernel_rfl, by kernel_rfl, by kernel_rfl, by kernel_rfl⟩⟩
/- carried: [7, 43] -/
/- carried: [7, 8, 29] -/
/- carried: [76] -/
/- carried: [6] -/
/- carried: [13] -/
/- carried: [7, 11] -/
/- carried: [7, 8, 9] -/
/- carried: [15] -/
/- carried: [5] -/
def Xn47_1 : C := regL [1, 2, 3] none [⟨some 3, .box true 24 (.tmp 0), none⟩, ⟨some 6, .mv (.const (.int .i64 0)), none⟩]
def Xn47_4 : C := regL [2, 3, 7] none [⟨some 8, .ld 24 6 true (.tmp 3), none⟩, ⟨some 9, .mv (.tmp 1), none⟩, ⟨some 10, .call 65 [.tmp 8, .tmp 9], none⟩, ⟨some 7, .mv (.tmp 10), none⟩]
def Xn47_6 : C := regL [2, 3, 7, 12] none [⟨some 11, .mv (.tmp 7), none⟩, ⟨some 12, .bin 30 .neq (.tmp 11) (.const (.int .i64 0)), none⟩]
def Xn47_9 : C := regL [6] none [⟨some 13, .mv (.tmp 7), none⟩, ⟨some 6, .mv (.tmp 13), none⟩]
def Xn47_8 : C := .seq Xn47_9 .ret
def Xn47_7 : C := .cond (.tmp 12) Xn47_8 .skip
def Xn47_5 : C := .seq Xn47_6 Xn47_7
def Xn47_3 : C := .seq Xn47_4 Xn47_5
def Xn47_14 : C := regL [22] none [⟨some 14, .mv (.tmp 2), none⟩, ⟨some 15, .bin 3 .lss (.tmp 14) (.const (.int .i64 0)), none⟩, ⟨some 16, .mv (.tmp 15), none⟩, ⟨some 17, .mv (.tmp 2), some (16, false)⟩, ⟨some 18, .fa 0 (.tmp 3), some (16, false)⟩, ⟨some 19, .ld 22 1 false (.tmp 18), some (16, false)⟩, ⟨some 20, .len (.tmp 19), some (16, false)⟩, ⟨some 21, .bin 3 .geq (.tmp 17) (.tmp 20), some (16, false)⟩, ⟨some 22, .pick 16 (.const (.bool true)) (.tmp 21), none⟩]
def Xn47_17 : C := regL [6] none [⟨some 6, .mv (.const (.int .i64 5)), none⟩]
def Xn47_16 : C := .seq Xn47_17 .ret
def Xn47_15 : C := .cond (.tmp 22) Xn47_16 .skip
def Xn47_13 : C := .seq Xn47_14 Xn47_15
def Xn47_21 : C := regL [6] none [⟨some 6, .mv (.const (.int .i64 0)), none⟩]
def Xn47_20 : C := .seq Xn47_21 .ret
def Xn47_12 : C := seqL [] Xn47_13 Xn47_20
def Xn47_2 : C := seqL [2, 3] Xn47_3 Xn47_12
def Xn47_0 : C := .seq Xn47_1 Xn47_2
theorem Xt47 : Text Try.prog 47 Xn47_0 23 3 [.t 6] := ⟨⟨Try.f47, [3], Try.func47, by kernel_rfl, by kernel_rfl, by kernel_rfl, by kernel_rfl⟩⟩
def Xn48_1 : C := regL [0, 1, 2] none [⟨some 6, .mv (.const (.bool false)), none⟩]
def Xn48_3 : C := regL [6] none [⟨some 7, .mv (.tmp 0), none⟩, ⟨some 8, .mv (.tmp 1), none⟩, ⟨some 9, .bin 2 .geq (.tmp 7) (.tmp 8), none⟩, ⟨some 10, .mv (.tmp 9), none⟩, ⟨some 11, .mv (.tmp 0), some (10, true)⟩, ⟨some 12, .mv (.tmp 2), some (10, true)⟩, ⟨some 13, .bin 2 .leq (.tmp 11) (.tmp 12), some (10, true)⟩, ⟨some 14, .pick 10 (.tmp 13) (.const (.bool false)), none⟩, ⟨some 6, .mv (.tmp 14), none⟩]
def Xn48_2 : C := .seq Xn48_3 .ret
def Xn48_0 : C := .seq Xn48_1 Xn48_2
theorem Xt48 : Text Try.prog 48 Xn48_0 15 3 [.t 6] := ⟨⟨Try.f48, [], Try.func48, by kernel_rfl, by kernel_rfl, by kernel_rfl, by kernel_rfl⟩⟩
def Xn49_1 : C := regL [1, 3, 5, 6] none [⟨some 3, .box true 24 (.tmp 0), none⟩, ⟨some 5, .box true 2 (.tmp 2), none⟩, ⟨some 6, .alc 79 (.agg #[.nilFunc, .slice none 0 0]), none⟩]
def Xn49_3 : C := regL [5, 6, 7, 8] (some [0, 0, 3, 0, 8, 0, 56, 120, 0, 0, 775, 2047]) [⟨some 9, .ld 24 6 true (.tmp 3), none⟩, ⟨some 10, .mv (.tmp 1), none⟩, ⟨some 11, .call 54 [.tmp 9, .tmp 10], none⟩, ⟨some 12, .fa 0 (.tmp 3), none⟩, ⟨some 13, .ld 22 1 false (.tmp 12), none⟩, ⟨some 14, .mv (.tmp 1), none⟩, ⟨some 15, .ia 1 (.tmp 13) (.tmp 14), none⟩, ⟨some 16, .ld 2 1 false (.tmp 15), none⟩, ⟨some 7, .alc 2 (.int .i64 0), none⟩, ⟨some 8, .alc 2 (.int .i64 0), none⟩, ⟨none, .st 2 1 (.tmp 7) (.tmp 11), none⟩, ⟨none, .st 2 1 (.tmp 8) (.tmp 16), none⟩]
def Xn49_5 : C := regL [6] none [⟨some 17, .mkf 81 [] [.tmp 7, .tmp 8, .tmp 5], none⟩, ⟨some 18, .ld 2 1 false (.tmp 7), none⟩, ⟨some 19, .ld 2 1 false (.tmp 7), none⟩, ⟨some 20, .ld 2 1 false (.tmp 5), none⟩, ⟨some 21, .bin 2 .add (.tmp 19) (.tmp 20), none⟩, ⟨some 22, .ld 2 1 false (.tmp 7), none⟩, ⟨some 23, .ld 2 1 false (.tmp 8), none⟩, ⟨some 24, .bin 2 .add (.tmp 22) (.tmp 23), none⟩, ⟨some 25, .bls 2 1 3 (.int .i64 0) [(0, 1, .tmp 18), (1, 1, .tmp 21), (2, 1, .tmp 24)], none⟩, ⟨some 26, .bld (.agg #[.nilFunc, .slice none 0 0]) [(0, 1, .tmp 17), (1, 1, .tmp 25)], none⟩, ⟨none, .st 79 2 (.tmp 6) (.tmp 26), none⟩]
def Xn49_4 : C := .seq Xn49_5 .ret
def Xn49_2 : C := .seq Xn49_3 Xn49_4
def Xn49_0 : C := .seq Xn49_1 Xn49_2
theorem Xt49 : Text Try.prog 49 Xn49_0 27 3 [.c 6 2 true] := ⟨⟨Try.f49, [3, 5], Try.func49, by kernel_rfl, by kernel_rfl, by kernel_rfl, by kernel_rfl⟩⟩
def Xn50_1 : C := regL [4, 5, 6, 7, 8] none [⟨some 4, .box true 79 (.tmp 0), none⟩, ⟨some 5, .box true 25 (.tmp 1), none⟩, ⟨some 6, .box true 3 (.tmp 2), none⟩, ⟨some 7, .box true 2 (.tmp 3), none⟩, ⟨some 8, .alc 29 (.agg #[.int .i64 0, .int .i64 0, .int .i64 0, .int .i64 0]), none⟩]
def Xn50_3 : C := regL [8] none [⟨some 9, .mkf 82 [] [.tmp 4, .tmp 5, .tmp 6, .tmp 7], none⟩, ⟨some 10, .call 70 [.tmp 9, .func 84], none⟩, ⟨none, .st 29 4 (.tmp 8) (.tmp 10), none⟩]
def Xn50_2 : C := .seq Xn50_3 .ret
def Xn50_0 : C := .seq Xn50_1 Xn50_2
theorem Xt50 : Text Try.prog 50 Xn50_0 11 4 [.c 8 4 true] := ⟨⟨Try.f50, [4, 5, 6, 7], Try.func50, by kernel_rfl, by kernel_rfl, by kernel_rfl, by kernel_rfl⟩⟩
def Xn51_1 : C := regL [1, 3, 5, 6] none [⟨some 3, .box true 24 (.tmp 0), none⟩, ⟨some 5, .box true 4 (.tmp 2), none⟩, ⟨some 6, .alc 79 (.agg #[.nilFunc, .slice none 0 0]), none⟩]
def Xn51_3 : C := regL [5, 6, 7, 8] (some [0, 0, 3, 0, 8, 0, 56, 120, 0, 0, 775, 2047]) [⟨some 9, .ld 24 6 true (.tmp 3), none⟩, ⟨some 10, .mv (.tmp 1), none⟩, ⟨some 11, .call 54 [.tmp 9, .tmp 10], none⟩, ⟨some 12, .fa 0 (.tmp 3), none⟩, ⟨some 13, .ld 22 1 false (.tmp 12), none⟩, ⟨some 14, .mv (.tmp 1), none⟩, ⟨some 15, .ia 1 (.tmp 13) (.tmp 14), none⟩, ⟨some 16, .ld 2 1 false (.tmp 15), none⟩, ⟨some 7, .alc 2 (.int .i64 0), none⟩, ⟨some 8, .alc 2 (.int .i64 0), none⟩, ⟨none, .st 2 1 (.tmp 7) (.tmp 11), none⟩, ⟨none, .st 2 1 (.tmp 8) (.tmp 16), none⟩]
def Xn51_5 : C := regL [6] none [⟨some 17, .mkf 86 [] [.tmp 7, .tmp 8, .tmp 5], none⟩, ⟨some 18, .ld 2 1 false (.tmp 7), none⟩, ⟨some 19, .ld 2 1 false (.tmp 7), none⟩, ⟨some 20, .ld 2 1 false (.tmp 8), none⟩, ⟨some 21, .bin 2 .add (.tmp 19) (.tmp 20), none⟩, ⟨some 22, .bls 2 1 2 (.int .i64 0) [(0, 1, .tmp 18), (1, 1, .tmp 21)], none⟩, ⟨some 23, .bld (.agg #[.nilFunc, .slice none 0 0]) [(0, 1, .tmp 17), (1, 1, .tmp 22)], none⟩, ⟨none, .st 79 2 (.tmp 6) (.tmp 23), none⟩]
def Xn51_4 : C := .seq Xn51_5 .ret
def Xn51_2 : C := .seq Xn51_3 Xn51_4
def Xn51_0 : C := .seq Xn51_1 Xn51_2
theorem Xt51 : Text Try.prog 51 Xn51_0 24 3 [.c 6 2 true] := ⟨⟨Try.f51, [3, 5], Try.func51, by kernel_rfl, by kernel_rfl, by kernel_rfl, by kernel_rfl⟩⟩
def Xn53_1 : C := regL [1, 2, 3] none [⟨some 3, .box true 79 (.tmp 0), none⟩, ⟨some 6, .mv (.const (.int .i64 0)), none⟩]
def Xn53_3 : C := regL [1, 2, 3, 7] none [⟨some 10, .mv (.tmp 1), none⟩, ⟨some 11, .len (.tmp 10), none⟩, ⟨some 12, .mks 2 1 8 (.int .i64 0) (.tmp 11) (.tmp 11), none⟩, ⟨some 7, .mv (.tmp 12), none⟩]
def Xn53_6 : C := regL [2, 3, 7, 13, 14, 15] none [⟨some 13, .mv (.tmp 1), none⟩, ⟨some 14, .len (.tmp 13), none⟩, ⟨some 15, .mv (.const (.int .i64 0)), none⟩]
def Xn53_10 : C := regL [2, 3, 7, 13, 14, 15, 16] none [⟨some 16, .bin 3 .lss (.tmp 15) (.tmp 14), none⟩]
def Xn53_12 : C := .cond (.tmp 16) .skip (.exit 0)
def Xn53_18 : C := regL [2, 3, 7, 8, 9, 13, 14, 15] none [⟨some 17, .mv (.tmp 15), none⟩, ⟨some 18, .ia 2 (.tmp 13) (.tmp 15), none⟩, ⟨some 19, .ld 35 2 true (.tmp 18), none⟩, ⟨some 9, .alc 35 (.agg #[.int .i64 0, .int .i64 0]), none⟩, ⟨some 8, .mv (.tmp 17), none⟩, ⟨none, .st 35 2 (.tmp 9) (.tmp 19), none⟩]
def Xn53_20 : C := regL [2, 3, 7, 8, 9, 13, 14, 15, 22] none [⟨some 20, .fa 1 (.tmp 9), none⟩, ⟨some 21, .ld 2 1 false (.tmp 20), none⟩, ⟨some 22, .bin 2 .gtr (.tmp 21) (.const (.int .i64 0)), none⟩]
def Xn53_22 : C := regL [2, 3, 7, 13, 14, 15] (some [0, 0, 0, 4, 0, 16, 0, 0, 128, 448, 1008, 2044, 4095, 8191]) [⟨some 23, .mv (.tmp 7), none⟩, ⟨some 24, .mv (.tmp 8), none⟩, ⟨some 25, .fa 1 (.tmp 9), none⟩, ⟨some 26, .ld 2 1 false (.tmp 25), none⟩, ⟨some 27, .fa 0 (.tmp 3), none⟩, ⟨some 28, .ld 77 1 false (.tmp 27), none⟩, ⟨some 29, .mv (.tmp 2), none⟩, ⟨some 30, .fa 0 (.tmp 9), none⟩, ⟨some 31, .ld 2 1 false (.tmp 30), none⟩, ⟨some 32, .bin 2 .sub (.tmp 29) (.tmp 31), none⟩, ⟨some 33, .callv (.tmp 28) [.tmp 32], none⟩, ⟨some 34, .bin 2 .mul (.tmp 26) (.tmp 33), none⟩, ⟨some 35, .ia 1 (.tmp 23) (.tmp 24), none⟩, ⟨none, .st 2 1 (.tmp 35) (.tmp 34), none⟩]
def Xn53_21 : C := .cond (.tmp 22) Xn53_22 .skip
def Xn53_19 : C := .seq Xn53_20 Xn53_21
def Xn53_17 : C := .seq Xn53_18 Xn53_19
def Xn53_16 : C := .block 1 Xn53_17
def Xn53_24 : C := regL [2, 3, 7, 13, 14, 15] none [⟨some 36, .bin 3 .add (.tmp 15) (.const (.int .i64 1)), none⟩, ⟨some 15, .mv (.tmp 36), none⟩]
def Xn53_15 : C := seqL [2, 3, 7, 13, 14, 15] Xn53_16 Xn53_24
def Xn53_11 : C := seqL [2, 3, 7, 13, 14, 15] Xn53_12 Xn53_15
def Xn53_9 : C := .seq Xn53_10 Xn53_11
/- carried: [15] -/
def Xn53_8 : C := loopL [2, 3, 7, 13, 14, 15] Xn53_9
def Xn53_7 : C := .block 0 Xn53_8
def Xn53_5 : C := .seq Xn53_6 Xn53_7
def Xn53_26 : C := regL [6] none [⟨some 37, .mv (.tmp 7), none⟩, ⟨some 38, .call 87 [.tmp 37], none⟩, ⟨some 6, .mv (.tmp 38), none⟩]
def Xn53_25 : C := .seq Xn53_26 .ret
def Xn53_4 : C := seqL [7] Xn53_5 Xn53_25
def Xn53_2 : C := .seq Xn53_3 Xn53_4
def Xn53_0 : C := .seq Xn53_1 Xn53_2
theorem Xt53 : Text Try.prog 53 Xn53_0 39 3 [.t 6] := ⟨⟨Try.f53, [3], Try.func53, by kernel_rfl, by kernel_rfl, by kernel_rfl, by kernel_rfl⟩⟩
def Xn54_1 : C := regL [1, 2, 4] none [⟨some 2, .box true 24 (.tmp 0), none⟩, ⟨some 4, .mv (.const (.int .i64 0)), none⟩]
def Xn54_4 : C := regL [4, 10, 11, 12] none [⟨some 7, .fa 0 (.tmp 2), none⟩, ⟨some 8, .ld 22 1 false (.tmp 7), none⟩, ⟨some 9, .mv (.tmp 1), none⟩, ⟨some 10, .slc 22 1 (.tmp 8) none (some (.tmp 9)), none⟩, ⟨some 11, .len (.tmp 10), none⟩, ⟨some 12, .mv (.const (.int .i64 0)), none⟩]
def Xn54_8 : C := regL [4, 10, 11, 12, 13] none [⟨some 13, .bin 3 .lss (.tmp 12) (.tmp 11), none⟩]
def Xn54_10 : C := .cond (.tmp 13) .skip (.exit 0)
def Xn54_16 : C := regL [4, 6, 10, 11, 12] none [⟨some 14, .ia 1 (.tmp 10) (.tmp 12), none⟩, ⟨some 15, .ld 2 1 false (.tmp 14), none⟩, ⟨some 6, .mv (.tmp 15), none⟩]
def Xn54_17 : C := regL [4, 10, 11, 12] none [⟨some 16, .mv (.tmp 4), none⟩, ⟨some 17, .mv (.tmp 6), none⟩, ⟨some 18, .bin 2 .add (.tmp 16) (.tmp 17), none⟩, ⟨some 4, .mv (.tmp 18), none⟩]
def Xn54_15 : C := .seq Xn54_16 Xn54_17
def Xn54_14 : C := .block 1 Xn54_15
def Xn54_18 : C := regL [4, 10, 11, 12] none [⟨some 19, .bin 3 .add (.tmp 12) (.const (.int .i64 1)), none⟩, ⟨some 12, .mv (.tmp 19), none⟩]
def Xn54_13 : C := seqL [4, 10, 11, 12] Xn54_14 Xn54_18
def Xn54_9 : C := seqL [4, 10, 11, 12] Xn54_10 Xn54_13
def Xn54_7 : C := .seq Xn54_8 Xn54_9
/- carried: [4, 12] -/
def Xn54_6 : C := loopL [4, 10, 11, 12] Xn54_7
def Xn54_5 : C := .block 0 Xn54_6
def Xn54_3 : C := .seq Xn54_4 Xn54_5
def Xn54_20 : C := regL [4] none [⟨some 20, .mv (.tmp 4), none⟩, ⟨some 4, .mv (.tmp 20), none⟩]
def Xn54_19 : C := .seq Xn54_20 .ret
def Xn54_2 : C := seqL [4] Xn54_3 Xn54_19
def Xn54_0 : C := .seq Xn54_1 Xn54_2
theorem Xt54 : Text Try.prog 54 Xn54_0 21 2 [.t 4] := ⟨⟨Try.f54, [2], Try.func54, by kernel_rfl, by kernel_rfl, by kernel_rfl, by kernel_rfl⟩⟩
end Go.Proofs.Ytbdnnicodailcaa

/- Print of my own generator (wip/sy/gen2.lean). -/
namespace Go.Proofs.Ytbdnnicodailcaa
open Go Sy
set_option maxRecDepth 100000
def Xn55_1 : C := regL [1, 2] none [⟨some 2, .box true 43 (.tmp 0), none⟩, ⟨some 4, .mv (.const (.int .i64 0)), none⟩, ⟨some 5, .mv (.const (.int .i64 0)), none⟩]
def Xn55_4 : C := regL [1, 2, 6] none [⟨some 13, .ld 43 3 true (.tmp 2), none⟩, ⟨some 14, .call 25 [.tmp 13], none⟩, ⟨some 15, .mv (.tmp 1), none⟩, ⟨some 16, .call 30 [.tmp 15], none⟩, ⟨some 17, .bls 30 1 2 (.int .i64 0) [(0, 1, .tmp 14), (1, 1, .tmp 16)], none⟩, ⟨some 18, .call 88 [.tmp 17], none⟩, ⟨some 6, .mv (.tmp 18), none⟩]
def Xn55_6 : C := regL [1, 2, 6, 20] none [⟨some 19, .mv (.tmp 6), none⟩, ⟨some 20, .bin 30 .neq (.tmp 19) (.const (.int .i64 0)), none⟩]
def Xn55_9 : C := regL [4, 5] none [⟨some 21, .mv (.tmp 6), none⟩, ⟨some 4, .mv (.const (.int .i64 0)), none⟩, ⟨some 5, .mv (.tmp 21), none⟩]
def Xn55_8 : C := .seq Xn55_9 .ret
def Xn55_7 : C := .cond (.tmp 20) Xn55_8 .skip
def Xn55_5 : C := .seq Xn55_6 Xn55_7
def Xn55_3 : C := .seq Xn55_4 Xn55_5
def Xn55_13 : C := regL [1, 2, 7] none [⟨some 7, .mv (.const (.int .i64 0)), none⟩]
def Xn55_16 : C := regL [2, 7, 22, 23, 24] none [⟨some 22, .mv (.tmp 1), none⟩, ⟨some 23, .len (.tmp 22), none⟩, ⟨some 24, .mv (.const (.int .i64 0)), none⟩]
def Xn55_20 : C := regL [2, 7, 22, 23, 24, 25] none [⟨some 25, .bin 3 .lss (.tmp 24) (.tmp 23), none⟩]
def Xn55_22 : C := .cond (.tmp 25) .skip (.exit 0)
def Xn55_28 : C := regL [2, 7, 9, 22, 23, 24] none [⟨some 26, .ia 2 (.tmp 22) (.tmp 24), none⟩, ⟨some 27, .ld 35 2 true (.tmp 26), none⟩, ⟨some 9, .alc 35 (.agg #[.int .i64 0, .int .i64 0]), none⟩, ⟨none, .st 35 2 (.tmp 9) (.tmp 27), none⟩]
def Xn55_30 : C := regL [2, 7, 10, 22, 23, 24] none [⟨some 28, .fa 1 (.tmp 9), none⟩, ⟨some 29, .ld 2 1 false (.tmp 28), none⟩, ⟨some 30, .bin 2 .mul (.tmp 29) (.const (.int .i64 1000)), none⟩, ⟨some 31, .fa 0 (.tmp 2), none⟩, ⟨some 32, .ld 2 1 false (.tmp 31), none⟩, ⟨some 33, .call 59 [.tmp 30, .tmp 32], none⟩, ⟨some 10, .mv (.tmp 33), none⟩]
def Xn55_32 : C := regL [2, 7, 10, 11, 22, 23, 24] none [⟨some 34, .mv (.tmp 10), none⟩, ⟨some 11, .mv (.tmp 34), none⟩]
def Xn55_35 : C := regL [2, 7, 10, 11, 12, 22, 23, 24] none [⟨some 12, .mv (.const (.int .i64 1)), none⟩]
def Xn55_40 : C := regL [2, 7, 10, 11, 12, 22, 23, 24, 42] none [⟨some 35, .mv (.tmp 12), none⟩, ⟨some 36, .fa 2 (.tmp 2), none⟩, ⟨some 37, .ld 3 1 false (.tmp 36), none⟩, ⟨some 38, .bin 3 .lss (.tmp 35) (.tmp 37), none⟩, ⟨some 39, .mv (.tmp 38), none⟩, ⟨some 40, .mv (.tmp 11), some (39, true)⟩, ⟨some 41, .bin 2 .leq (.tmp 40) (.const (.int .i64 1073741824)), some (39, true)⟩, ⟨some 42, .pick 39 (.tmp 41) (.const (.bool false)), none⟩]
def Xn55_41 : C := .cond (.tmp 42) .skip (.exit 2)
def Xn55_39 : C := .seq Xn55_40 Xn55_41
def Xn55_46 : C := regL [2, 7, 10, 11, 12, 22, 23, 24] none [⟨some 45, .mv (.tmp 11), none⟩, ⟨some 46, .mv (.tmp 10), none⟩, ⟨some 47, .bin 2 .mul (.tmp 45) (.tmp 46), none⟩, ⟨some 48, .call 59 [.tmp 47, .const (.int .i64 1000)], none⟩, ⟨some 11, .mv (.tmp 48), none⟩]
def Xn55_45 : C := .block 3 Xn55_46
def Xn55_47 : C := regL [2, 7, 10, 11, 12, 22, 23, 24] none [⟨some 43, .mv (.tmp 12), none⟩, ⟨some 44, .bin 3 .add (.tmp 43) (.const (.int .i64 1)), none⟩, ⟨some 12, .mv (.tmp 44), none⟩]
def Xn55_44 : C := seqL [2, 7, 10, 11, 12, 22, 23, 24] Xn55_45 Xn55_47
def Xn55_38 : C := seqL [2, 7, 10, 11, 12, 22, 23, 24] Xn55_39 Xn55_44
/- carried: [11, 12] -/
def Xn55_37 : C := loopL [2, 7, 10, 11, 12, 22, 23, 24] Xn55_38
def Xn55_36 : C := .block 2 Xn55_37
def Xn55_34 : C := .seq Xn55_35 Xn55_36
def Xn55_49 : C := regL [2, 7, 11, 22, 23, 24] none [⟨some 49, .mv (.tmp 7), none⟩, ⟨some 50, .mv (.tmp 11), none⟩, ⟨some 51, .bin 2 .add (.tmp 49) (.tmp 50), none⟩, ⟨some 7, .mv (.tmp 51), none⟩]
def Xn55_51 : C := regL [2, 7, 22, 23, 24, 57] none [⟨some 52, .mv (.tmp 11), none⟩, ⟨some 53, .bin 2 .gtr (.tmp 52) (.const (.int .i64 1073741824)), none⟩, ⟨some 54, .mv (.tmp 53), none⟩, ⟨some 55, .mv (.tmp 7), some (54, false)⟩, ⟨some 56, .bin 2 .gtr (.tmp 55) (.const (.int .i64 1073741824)), some (54, false)⟩, ⟨some 57, .pick 54 (.const (.bool true)) (.tmp 56), none⟩]
def Xn55_54 : C := regL [4, 5] none [⟨some 4, .mv (.const (.int .i64 0)), none⟩, ⟨some 5, .mv (.const (.int .i64 4)), none⟩]
def Xn55_53 : C := .seq Xn55_54 .ret
def Xn55_52 : C := .cond (.tmp 57) Xn55_53 .skip
def Xn55_50 : C := .seq Xn55_51 Xn55_52
def Xn55_48 : C := .seq Xn55_49 Xn55_50
def Xn55_33 : C := seqL [2, 7, 11, 22, 23, 24] Xn55_34 Xn55_48
def Xn55_31 : C := .seq Xn55_32 Xn55_33
def Xn55_29 : C := .seq Xn55_30 Xn55_31
def Xn55_27 : C := .seq Xn55_28 Xn55_29
def Xn55_26 : C := .block 1 Xn55_27
def Xn55_57 : C := regL [2, 7, 22, 23, 24] none [⟨some 58, .bin 3 .add (.tmp 24) (.const (.int .i64 1)), none⟩, ⟨some 24, .mv (.tmp 58), none⟩]
def Xn55_25 : C := seqL [2, 7, 22, 23, 24] Xn55_26 Xn55_57
def Xn55_21 : C := seqL [2, 7, 22, 23, 24] Xn55_22 Xn55_25
def Xn55_19 : C := .seq Xn55_20 Xn55_21
/- carried: [7, 24] -/
def Xn55_18 : C := loopL [2, 7, 22, 23, 24] Xn55_19
def Xn55_17 : C := .block 0 Xn55_18
def Xn55_15 : C := .seq Xn55_16 Xn55_17
def Xn55_59 : C := regL [4, 5] none [⟨some 59, .mv (.tmp 7), none⟩, ⟨some 4, .mv (.tmp 59), none⟩, ⟨some 5, .mv (.const (.int .i64 0)), none⟩]
def Xn55_58 : C := .seq Xn55_59 .ret
def Xn55_14 : C := seqL [7] Xn55_15 Xn55_58
def Xn55_12 : C := .seq Xn55_13 Xn55_14
def Xn55_2 : C := seqL [1, 2] Xn55_3 Xn55_12
def Xn55_0 : C := .seq Xn55_1 Xn55_2
theorem Xt55 : Text Try.prog 55 Xn55_0 60 2 [.t 4, .t 5] := ⟨⟨Try.f55, [2], Try.func55, by kernel_rfl, by kernel_rfl, by kernel_rfl, by kernel_rfl⟩⟩
def Xn56_1 : C := regL [0, 1, 2] none [⟨some 6, .mv (.const (.int .i64 0)), none⟩]
def Xn56_3 : C := regL [2, 7, 8] none [⟨some 12, .mv (.tmp 0), none⟩, ⟨some 13, .cvt .u64 (.tmp 12), none⟩, ⟨some 14, .mv (.tmp 1), none⟩, ⟨some 15, .cvt .u64 (.tmp 14), none⟩, ⟨some 16, .call 89 [.tmp 13, .tmp 15], none⟩, ⟨some 11, .mv (.tmp 16), none⟩, ⟨some 17, .ext 0 (.tmp 11), none⟩, ⟨some 18, .ext 1 (.tmp 11), none⟩, ⟨some 7, .mv (.tmp 17), none⟩, ⟨some 8, .mv (.tmp 18), none⟩]
def Xn56_5 : C := regL [9, 10] none [⟨some 20, .mv (.tmp 7), none⟩, ⟨some 21, .mv (.tmp 8), none⟩, ⟨some 22, .mv (.tmp 2), none⟩, ⟨some 23, .cvt .u64 (.tmp 22), none⟩, ⟨some 24, .call 90 [.tmp 20, .tmp 21, .tmp 23], none⟩, ⟨some 19, .mv (.tmp 24), none⟩, ⟨some 25, .ext 0 (.tmp 19), none⟩, ⟨some 26, .ext 1 (.tmp 19), none⟩, ⟨some 9, .mv (.tmp 25), none⟩, ⟨some 10, .mv (.tmp 26), none⟩]
def Xn56_8 : C := regL [9, 28] none [⟨some 27, .mv (.tmp 10), none⟩, ⟨some 28, .bin 117 .gtr (.tmp 27) (.const (.int .u64 0)), none⟩]
def Xn56_10 : C := regL [9] none [⟨some 29, .mv (.tmp 9), none⟩, ⟨some 30, .bin 117 .add (.tmp 29) (.const (.int .u64 1)), none⟩, ⟨some 9, .mv (.tmp 30), none⟩]
def Xn56_9 : C := .cond (.tmp 28) Xn56_10 .skip
def Xn56_7 : C := .seq Xn56_8 Xn56_9
def Xn56_13 : C := regL [6] none [⟨some 31, .mv (.tmp 9), none⟩, ⟨some 32, .cvt .i64 (.tmp 31), none⟩, ⟨some 6, .mv (.tmp 32), none⟩]
def Xn56_12 : C := .seq Xn56_13 .ret
def Xn56_6 : C := seqL [9] Xn56_7 Xn56_12
def Xn56_4 : C := .seq Xn56_5 Xn56_6
def Xn56_2 : C := .seq Xn56_3 Xn56_4
def Xn56_0 : C := .seq Xn56_1 Xn56_2
theorem Xt56 : Text Try.prog 56 Xn56_0 33 3 [.t 6] := ⟨⟨Try.f56, [], Try.func56, by kernel_rfl, by kernel_rfl, by kernel_rfl, by kernel_rfl⟩⟩
def Xn57_1 : C := regL [0, 1] none [⟨some 4, .mv (.const (.int .i64 0)), none⟩]
def Xn57_3 : C := regL [1, 5, 6] none [⟨some 8, .mv (.tmp 0), none⟩, ⟨some 5, .mv (.const (.int .i64 0)), none⟩, ⟨some 6, .mv (.tmp 8), none⟩]
def Xn57_9 : C := regL [1, 5, 6, 11] none [⟨some 9, .mv (.tmp 5), none⟩, ⟨some 10, .mv (.tmp 6), none⟩, ⟨some 11, .bin 3 .lss (.tmp 9) (.tmp 10), none⟩]
def Xn57_10 : C := .cond (.tmp 11) .skip (.exit 0)
def Xn57_8 : C := .seq Xn57_9 Xn57_10
def Xn57_15 : C := regL [1, 5, 6, 7] none [⟨some 12, .mv (.tmp 5), none⟩, ⟨some 13, .mv (.tmp 6), none⟩, ⟨some 14, .bin 3 .add (.tmp 12) (.tmp 13), none⟩, ⟨some 15, .cvt .u64 (.tmp 14), none⟩, ⟨some 16, .bin 121 .shr (.tmp 15) (.const (.int .u64 1)), none⟩, ⟨some 17, .cvt .i64 (.tmp 16), none⟩, ⟨some 7, .mv (.tmp 17), none⟩]
def Xn57_17 : C := regL [1, 5, 6, 7, 21] none [⟨some 18, .mv (.tmp 1), none⟩, ⟨some 19, .mv (.tmp 7), none⟩, ⟨some 20, .callv (.tmp 18) [.tmp 19], none⟩, ⟨some 21, .un .not (.tmp 20), none⟩]
def Xn57_19 : C := regL [1, 5, 6] none [⟨some 22, .mv (.tmp 7), none⟩, ⟨some 23, .bin 3 .add (.tmp 22) (.const (.int .i64 1)), none⟩, ⟨some 5, .mv (.tmp 23), none⟩]
def Xn57_20 : C := regL [1, 5, 6] none [⟨some 24, .mv (.tmp 7), none⟩, ⟨some 6, .mv (.tmp 24), none⟩]
def Xn57_18 : C := .cond (.tmp 21) Xn57_19 Xn57_20
def Xn57_16 : C := .seq Xn57_17 Xn57_18
def Xn57_14 : C := .seq Xn57_15 Xn57_16
def Xn57_13 : C := .block 1 Xn57_14
def Xn57_7 : C := seqL [1, 5, 6] Xn57_8 Xn57_13
/- carried: [5, 6] -/
def Xn57_6 : C := loopL [1, 5, 6] Xn57_7
def Xn57_5 : C := .block 0 Xn57_6
def Xn57_22 : C := regL [4] none [⟨some 25, .mv (.tmp 5), none⟩, ⟨some 4, .mv (.tmp 25), none⟩]
def Xn57_21 : C := .seq Xn57_22 .ret
def Xn57_4 : C := seqL [5] Xn57_5 Xn57_21
def Xn57_2 : C := .seq Xn57_3 Xn57_4
def Xn57_0 : C := .seq Xn57_1 Xn57_2
theorem Xt57 : Text Try.prog 57 Xn57_0 26 2 [.t 4] := ⟨⟨Try.f57, [], Try.func57, by kernel_rfl, by kernel_rfl, by kernel_rfl, by kernel_rfl⟩⟩
def Xn59_1 : C := regL [0, 1] none [⟨some 4, .mv (.const (.int .i64 0)), none⟩]
def Xn59_3 : C := regL [4] none [⟨some 5, .mv (.tmp 0), none⟩, ⟨some 6, .mv (.tmp 1), none⟩, ⟨some 7, .bin 2 .add (.tmp 5) (.tmp 6), none⟩, ⟨some 8, .bin 2 .sub (.tmp 7) (.const (.int .i64 1)), none⟩, ⟨some 9, .mv (.tmp 1), none⟩, ⟨some 10, .bin 2 .quo (.tmp 8) (.tmp 9), none⟩, ⟨some 4, .mv (.tmp 10), none⟩]
def Xn59_2 : C := .seq Xn59_3 .ret
def Xn59_0 : C := .seq Xn59_1 Xn59_2
theorem Xt59 : Text Try.prog 59 Xn59_0 11 2 [.t 4] := ⟨⟨Try.f59, [], Try.func59, by kernel_rfl, by kernel_rfl, by kernel_rfl, by kernel_rfl⟩⟩
def Xn60_1 : C := regL [0] none [⟨some 2, .mv (.const (.int .i64 0)), none⟩]
def Xn60_4 : C := regL [0, 11] none [⟨some 4, .mv (.tmp 0), none⟩, ⟨some 5, .len (.tmp 4), none⟩, ⟨some 6, .bin 3 .lss (.tmp 5) (.const (.int .i64 1)), none⟩, ⟨some 7, .mv (.tmp 6), none⟩, ⟨some 8, .mv (.tmp 0), some (7, false)⟩, ⟨some 9, .len (.tmp 8), some (7, false)⟩, ⟨some 10, .bin 3 .gtr (.tmp 9) (.const (.int .i64 64)), some (7, false)⟩, ⟨some 11, .pick 7 (.const (.bool true)) (.tmp 10), none⟩]
def Xn60_7 : C := regL [2] none [⟨some 2, .mv (.const (.int .i64 6)), none⟩]
def Xn60_6 : C := .seq Xn60_7 .ret
def Xn60_5 : C := .cond (.tmp 11) Xn60_6 .skip
def Xn60_3 : C := .seq Xn60_4 Xn60_5
def Xn60_12 : C := regL [0, 3] none [⟨some 3, .mv (.const (.int .i64 0)), none⟩]
def Xn60_17 : C := regL [0, 3, 15] none [⟨some 12, .mv (.tmp 3), none⟩, ⟨some 13, .mv (.tmp 0), none⟩, ⟨some 14, .len (.tmp 13), none⟩, ⟨some 15, .bin 3 .lss (.tmp 12) (.tmp 14), none⟩]
def Xn60_18 : C := .cond (.tmp 15) .skip (.exit 0)
def Xn60_16 : C := .seq Xn60_17 Xn60_18
def Xn60_24 : C := regL [0, 3, 63] (some [0, 1, 3, 7, 7, 31, 63, 127, 255, 511, 1023, 2047, 4095, 8191, 16383, 16383, 65535, 131071, 262143, 16383, 16383, 1064959, 3686399, 7880703, 16269311, 33554431, 67108863, 134217727, 268435455, 536870911, 536870911, 2147483647, 4294967295, 8589934591, 17179869183, 34359738367, 68719476735, 137438953471, 274877906943, 274877906943, 1099511627775, 2199023255551, 4398046511103, 8796093022207, 17592186044415, 35184372088831]) [⟨some 18, .mv (.tmp 3), none⟩, ⟨some 19, .bin 3 .eql (.tmp 18) (.const (.int .i64 0)), none⟩, ⟨some 20, .mv (.tmp 19), none⟩, ⟨some 21, .mv (.tmp 0), some (20, true)⟩, ⟨some 22, .mv (.tmp 3), some (20, true)⟩, ⟨some 23, .ia 2 (.tmp 21) (.tmp 22), some (20, true)⟩, ⟨some 24, .fa 0 (.tmp 23), some (20, true)⟩, ⟨some 25, .ld 2 1 false (.tmp 24), some (20, true)⟩, ⟨some 26, .bin 2 .neq (.tmp 25) (.const (.int .i64 0)), some (20, true)⟩, ⟨some 27, .pick 20 (.tmp 26) (.const (.bool false)), none⟩, ⟨some 28, .mv (.tmp 27), none⟩, ⟨some 29, .mv (.tmp 3), some (28, false)⟩, ⟨some 30, .bin 3 .gtr (.tmp 29) (.const (.int .i64 0)), some (28, false)⟩, ⟨some 31, .mv (.tmp 30), some (28, false)⟩, ⟨some 32, .mv (.tmp 0), some (31, true)⟩, ⟨some 33, .mv (.tmp 3), some (31, true)⟩, ⟨some 34, .ia 2 (.tmp 32) (.tmp 33), some (31, true)⟩, ⟨some 35, .fa 0 (.tmp 34), some (31, true)⟩, ⟨some 36, .ld 2 1 false (.tmp 35), some (31, true)⟩, ⟨some 37, .mv (.tmp 0), some (31, true)⟩, ⟨some 38, .mv (.tmp 3), some (31, true)⟩, ⟨some 39, .bin 3 .sub (.tmp 38) (.const (.int .i64 1)), some (31, true)⟩, ⟨some 40, .ia 2 (.tmp 37) (.tmp 39), some (31, true)⟩, ⟨some 41, .fa 0 (.tmp 40), some (31, true)⟩, ⟨some 42, .ld 2 1 false (.tmp 41), some (31, true)⟩, ⟨some 43, .bin 2 .lss (.tmp 36) (.tmp 42), some (31, true)⟩, ⟨some 44, .pick 31 (.tmp 43) (.const (.bool false)), some (28, false)⟩, ⟨some 45, .pick 28 (.const (.bool true)) (.tmp 44), none⟩, ⟨some 46, .mv (.tmp 45), none⟩, ⟨some 47, .mv (.tmp 0), some (46, false)⟩, ⟨some 48, .mv (.tmp 3), some (46, false)⟩, ⟨some 49, .ia 2 (.tmp 47) (.tmp 48), some (46, false)⟩, ⟨some 50, .fa 0 (.tmp 49), some (46, false)⟩, ⟨some 51, .ld 2 1 false (.tmp 50), some (46, false)⟩, ⟨some 52, .call 61 [.tmp 51, .const (.int .i64 0), .const (.int .i64 262144)], some (46, false)⟩, ⟨some 53, .un .not (.tmp 52), some (46, false)⟩, ⟨some 54, .pick 46 (.const (.bool true)) (.tmp 53), none⟩, ⟨some 55, .mv (.tmp 54), none⟩, ⟨some 56, .mv (.tmp 0), some (55, false)⟩, ⟨some 57, .mv (.tmp 3), some (55, false)⟩, ⟨some 58, .ia 2 (.tmp 56) (.tmp 57), some (55, false)⟩, ⟨some 59, .fa 1 (.tmp 58), some (55, false)⟩, ⟨some 60, .ld 2 1 false (.tmp 59), some (55, false)⟩, ⟨some 61, .call 61 [.tmp 60, .const (.int .i64 0), .const (.int .i64 1048576)], some (55, false)⟩, ⟨some 62, .un .not (.tmp 61), some (55, false)⟩, ⟨some 63, .pick 55 (.const (.bool true)) (.tmp 62), none⟩]
def Xn60_27 : C := regL [2] none [⟨some 2, .mv (.const (.int .i64 2)), none⟩]
def Xn60_26 : C := .seq Xn60_27 .ret
def Xn60_25 : C := .cond (.tmp 63) Xn60_26 .skip
def Xn60_23 : C := .seq Xn60_24 Xn60_25
def Xn60_22 : C := .block 1 Xn60_23
def Xn60_30 : C := regL [0, 3] none [⟨some 16, .mv (.tmp 3), none⟩, ⟨some 17, .bin 3 .add (.tmp 16) (.const (.int .i64 1)), none⟩, ⟨some 3, .mv (.tmp 17), none⟩]
def Xn60_21 : C := seqL [0, 3] Xn60_22 Xn60_30
def Xn60_15 : C := seqL [0, 3] Xn60_16 Xn60_21
/- carried: [3] -/
def Xn60_14 : C := loopL [0, 3] Xn60_15
def Xn60_13 : C := .block 0 Xn60_14
def Xn60_11 : C := .seq Xn60_12 Xn60_13
def Xn60_32 : C := regL [2] none [⟨some 2, .mv (.const (.int .i64 0)), none⟩]
def Xn60_31 : C := .seq Xn60_32 .ret
def Xn60_10 : C := seqL [] Xn60_11 Xn60_31
def Xn60_2 : C := seqL [0] Xn60_3 Xn60_10
def Xn60_0 : C := .seq Xn60_1 Xn60_2
theorem Xt60 : Text Try.prog 60 Xn60_0 64 1 [.t 2] := ⟨⟨Try.f60, [], Try.func60, by kernel_rfl, by kernel_rfl, by kernel_rfl, by kernel_rfl⟩⟩
def Xn61_1 : C := regL [0, 1, 2] none [⟨some 6, .mv (.const (.bool false)), none⟩]
def Xn61_3 : C := regL [6] none [⟨some 7, .mv (.tmp 0), none⟩, ⟨some 8, .mv (.tmp 1), none⟩, ⟨some 9, .bin 2 .geq (.tmp 7) (.tmp 8), none⟩, ⟨some 10, .mv (.tmp 9), none⟩, ⟨some 11, .mv (.tmp 0), some (10, true)⟩, ⟨some 12, .mv (.tmp 2), some (10, true)⟩, ⟨some 13, .bin 2 .leq (.tmp 11) (.tmp 12), some (10, true)⟩, ⟨some 14, .pick 10 (.tmp 13) (.const (.bool false)), none⟩, ⟨some 6, .mv (.tmp 14), none⟩]
def Xn61_2 : C := .seq Xn61_3 .ret
def Xn61_0 : C := .seq Xn61_1 Xn61_2
theorem Xt61 : Text Try.prog 61 Xn61_0 15 3 [.t 6] := ⟨⟨Try.f61, [], Try.func61, by kernel_rfl, by kernel_rfl, by kernel_rfl, by kernel_rfl⟩⟩
def Xn62_1 : C := regL [0, 1] none [⟨some 4, .mv (.const (.int .i64 0)), none⟩]
def Xn62_3 : C := regL [4] none [⟨some 5, .mv (.tmp 0), none⟩, ⟨some 6, .mv (.tmp 1), none⟩, ⟨some 7, .bin 2 .add (.tmp 5) (.tmp 6), none⟩, ⟨some 8, .bin 2 .sub (.tmp 7) (.const (.int .i64 1)), none⟩, ⟨some 9, .mv (.tmp 1), none⟩, ⟨some 10, .bin 2 .quo (.tmp 8) (.tmp 9), none⟩, ⟨some 4, .mv (.tmp 10), none⟩]
def Xn62_2 : C := .seq Xn62_3 .ret
def Xn62_0 : C := .seq Xn62_1 Xn62_2
theorem Xt62 : Text Try.prog 62 Xn62_0 11 2 [.t 4] := ⟨⟨Try.f62, [], Try.func62, by kernel_rfl, by kernel_rfl, by kernel_rfl, by kernel_rfl⟩⟩
/- carried: [9, 10] -/
/- carried: [6, 7] -/
def Xn65_1 : C := regL [1, 2] none [⟨some 2, .box true 24 (.tmp 0), none⟩, ⟨some 4, .mv (.const (.int .i64 0)), none⟩]
def Xn65_3 : C := regL [4] none [⟨some 5, .ld 24 6 true (.tmp 2), none⟩, ⟨some 6, .call 29 [.tmp 5], none⟩, ⟨some 7, .mv (.tmp 1), none⟩, ⟨some 8, .call 30 [.tmp 7], none⟩, ⟨some 9, .bls 30 1 2 (.int .i64 0) [(0, 1, .tmp 6), (1, 1, .tmp 8)], none⟩, ⟨some 10, .call 88 [.tmp 9], none⟩, ⟨some 4, .mv (.tmp 10), none⟩]
def Xn65_2 : C := .seq Xn65_3 .ret
def Xn65_0 : C := .seq Xn65_1 Xn65_2
theorem Xt65 : Text Try.prog 65 Xn65_0 11 2 [.t 4] := ⟨⟨Try.f65, [2], Try.func65, by kernel_rfl, by kernel_rfl, by kernel_rfl, by kernel_rfl⟩⟩
def Xn66_1 : C := regL [1, 2, 3, 6, 7] none [⟨some 3, .box true 24 (.tmp 0), none⟩, ⟨some 6, .alc 29 (.agg #[.int .i64 0, .int .i64 0, .int .i64 0, .int .i64 0]), none⟩, ⟨some 7, .alc 4 (.bool false), none⟩]
def Xn66_3 : C := regL [1, 2, 3, 6, 7, 8] none [⟨some 8, .alc 2 (.int .i64 0), none⟩, ⟨none, .st 2 1 (.tmp 8) (.const (.int .i64 0)), none⟩]
def Xn66_6 : C := regL [1, 3, 6, 7, 8, 15] none [⟨some 15, .mv (.tmp 2), none⟩]
def Xn66_8 : C := regL [1, 3, 6, 7, 8] none [⟨some 16, .fa 4 (.tmp 3), none⟩, ⟨some 17, .ld 3 1 false (.tmp 16), none⟩, ⟨some 18, .bin 3 .sub (.tmp 17) (.const (.int .i64 1)), none⟩, ⟨some 19, .fa 5 (.tmp 3), none⟩, ⟨some 20, .ld 2 1 false (.tmp 19), none⟩, ⟨some 21, .bin 2 .mul (.tmp 18) (.tmp 20), none⟩, ⟨none, .st 2 1 (.tmp 8) (.tmp 21), none⟩]
def Xn66_7 : C := .cond (.tmp 15) Xn66_8 .skip
def Xn66_5 : C := .seq Xn66_6 Xn66_7
def Xn66_12 : C := regL [1, 3, 6, 7, 8, 23, 24, 25] none [⟨some 22, .fa 0 (.tmp 3), none⟩, ⟨some 23, .ld 22 1 false (.tmp 22), none⟩, ⟨some 24, .len (.tmp 23), none⟩, ⟨some 25, .mv (.const (.int .i64 0)), none⟩]
def Xn66_16 : C := regL [1, 3, 6, 7, 8, 23, 24, 25, 26] none [⟨some 26, .bin 3 .lss (.tmp 25) (.tmp 24), none⟩]
def Xn66_18 : C := .cond (.tmp 26) .skip (.exit 0)
def Xn66_24 : C := regL [1, 3, 6, 7, 8, 9, 10, 23, 24, 25] none [⟨some 27, .mv (.tmp 25), none⟩, ⟨some 28, .ia 1 (.tmp 23) (.tmp 25), none⟩, ⟨some 29, .ld 2 1 false (.tmp 28), none⟩, ⟨some 9, .alc 3 (.int .i64 0), none⟩, ⟨some 10, .alc 2 (.int .i64 0), none⟩, ⟨none, .st 3 1 (.tmp 9) (.tmp 27), none⟩, ⟨none, .st 2 1 (.tmp 10) (.tmp 29), none⟩]
def Xn66_27 : C := regL [1, 3, 6, 7, 8, 9, 10, 23, 24, 25, 33] none [⟨some 30, .ld 24 6 true (.tmp 3), none⟩, ⟨some 31, .mv (.tmp 1), none⟩, ⟨some 32, .ld 3 1 false (.tmp 9), none⟩, ⟨some 33, .call 71 [.tmp 30, .tmp 31, .tmp 32], none⟩]
def Xn66_30 : C := regL [3, 6, 7, 8, 9, 10, 11] none [⟨some 11, .alc 29 (.agg #[.int .i64 0, .int .i64 0, .int .i64 0, .int .i64 0]), none⟩, ⟨none, .st 29 4 (.tmp 11) (.tmp 34), none⟩]
def Xn66_33 : C := regL [6, 7, 11, 60] (some [0, 1, 3, 0, 8, 0, 32, 127, 0, 0, 512, 1792, 0, 0, 8192, 28672, 65280, 131071, 262143, 0, 524288, 0, 3670016, 7864320, 16252928, 33554431]) [⟨some 35, .fa 3 (.tmp 3), none⟩, ⟨some 36, .ld 2 1 false (.tmp 35), none⟩, ⟨some 37, .bin 2 .add (.const (.int .i64 1000)) (.tmp 36), none⟩, ⟨some 38, .fa 0 (.tmp 11), none⟩, ⟨some 39, .ld 2 1 false (.tmp 38), none⟩, ⟨some 40, .ld 2 1 false (.tmp 10), none⟩, ⟨some 41, .bin 2 .mul (.const (.int .i64 1000)) (.tmp 40), none⟩, ⟨some 42, .call 56 [.tmp 37, .tmp 39, .tmp 41], none⟩, ⟨some 43, .ld 2 1 false (.tmp 8), none⟩, ⟨some 44, .fa 2 (.tmp 11), none⟩, ⟨some 45, .ld 2 1 false (.tmp 44), none⟩, ⟨some 46, .bin 2 .mul (.tmp 43) (.tmp 45), none⟩, ⟨some 47, .ld 2 1 false (.tmp 10), none⟩, ⟨some 48, .fa 2 (.tmp 11), none⟩, ⟨some 49, .ld 2 1 false (.tmp 48), none⟩, ⟨some 50, .bin 2 .sub (.tmp 47) (.tmp 49), none⟩, ⟨some 51, .bin 2 .mul (.tmp 46) (.tmp 50), none⟩, ⟨some 52, .call 59 [.tmp 51, .const (.int .i64 2000)], none⟩, ⟨some 53, .bin 2 .add (.tmp 42) (.tmp 52), none⟩, ⟨some 54, .fa 1 (.tmp 3), none⟩, ⟨some 55, .ld 22 1 false (.tmp 54), none⟩, ⟨some 56, .ld 3 1 false (.tmp 9), none⟩, ⟨some 57, .ia 1 (.tmp 55) (.tmp 56), none⟩, ⟨some 58, .ld 2 1 false (.tmp 57), none⟩, ⟨some 59, .bin 2 .mul (.const (.int .i64 1000)) (.tmp 58), none⟩, ⟨some 60, .bin 2 .gtr (.tmp 53) (.tmp 59), none⟩]
def Xn66_36 : C := regL [] none [⟨some 61, .ld 29 4 true (.tmp 11), none⟩, ⟨none, .st 29 4 (.tmp 6) (.tmp 61), none⟩, ⟨none, .st 4 1 (.tmp 7) (.const (.bool true)), none⟩]
def Xn66_35 : C := .seq Xn66_36 .ret
def Xn66_34 : C := .cond (.tmp 60) Xn66_35 .skip
def Xn66_32 : C := .seq Xn66_33 Xn66_34
def Xn66_31 : C := .block 3 Xn66_32
def Xn66_29 : C := .rfn (.tmp 33) [34] Xn66_30 Xn66_31
def Xn66_28 : C := .block 2 Xn66_29
def Xn66_26 : C := .seq Xn66_27 Xn66_28
def Xn66_40 : C := regL [1, 3, 6, 7, 8, 9, 10, 23, 24, 25, 62, 63] none [⟨some 62, .bld (.agg #[.bool false, .bool false]) [(0, 1, .const (.bool false)), (1, 1, .const (.bool true))], none⟩, ⟨some 63, .mv (.const (.int .i64 0)), none⟩]
def Xn66_44 : C := regL [1, 3, 6, 7, 8, 9, 10, 23, 24, 25, 62, 63, 64] none [⟨some 64, .bin 3 .lss (.tmp 63) (.const (.int .i64 2)), none⟩]
def Xn66_46 : C := .cond (.tmp 64) .skip (.exit 4)
def Xn66_52 : C := regL [1, 3, 6, 7, 8, 9, 10, 12, 13, 23, 24, 25, 62, 63] none [⟨some 65, .mv (.tmp 63), none⟩, ⟨some 66, .idx 2 1 false (.tmp 62) (.tmp 63), none⟩, ⟨some 12, .mv (.tmp 65), none⟩, ⟨some 13, .mv (.tmp 66), none⟩]
def Xn66_54 : C := regL [1, 3, 6, 7, 8, 9, 10, 14, 23, 24, 25, 62, 63] (some [0, 0, 0, 7, 0, 0, 0, 64, 255, 0, 1023]) [⟨some 67, .ld 24 6 true (.tmp 3), none⟩, ⟨some 68, .ld 3 1 false (.tmp 9), none⟩, ⟨some 69, .mv (.tmp 13), none⟩, ⟨some 70, .call 51 [.tmp 67, .tmp 68, .tmp 69], none⟩, ⟨some 71, .mv (.tmp 1), none⟩, ⟨some 72, .ld 3 1 false (.tmp 9), none⟩, ⟨some 73, .mv (.tmp 12), none⟩, ⟨some 74, .bin 3 .sub (.const (.int .i64 (-1))) (.tmp 73), none⟩, ⟨some 75, .call 50 [.tmp 70, .tmp 71, .tmp 72, .tmp 74], none⟩, ⟨some 14, .alc 29 (.agg #[.int .i64 0, .int .i64 0, .int .i64 0, .int .i64 0]), none⟩, ⟨none, .st 29 4 (.tmp 14) (.tmp 75), none⟩]
def Xn66_56 : C := regL [1, 3, 6, 7, 8, 9, 10, 14, 23, 24, 25, 62, 63, 94] (some [0, 1, 3, 0, 8, 0, 32, 127, 0, 0, 768, 2047, 4095, 0, 8192, 0, 57344, 122880, 262143]) [⟨some 76, .fa 3 (.tmp 3), none⟩, ⟨some 77, .ld 2 1 false (.tmp 76), none⟩, ⟨some 78, .bin 2 .add (.const (.int .i64 1000)) (.tmp 77), none⟩, ⟨some 79, .fa 0 (.tmp 14), none⟩, ⟨some 80, .ld 2 1 false (.tmp 79), none⟩, ⟨some 81, .ld 2 1 false (.tmp 10), none⟩, ⟨some 82, .bin 2 .mul (.const (.int .i64 1000)) (.tmp 81), none⟩, ⟨some 83, .call 56 [.tmp 78, .tmp 80, .tmp 82], none⟩, ⟨some 84, .ld 2 1 false (.tmp 8), none⟩, ⟨some 85, .ld 2 1 false (.tmp 10), none⟩, ⟨some 86, .bin 2 .mul (.tmp 84) (.tmp 85), none⟩, ⟨some 87, .call 59 [.tmp 86, .const (.int .i64 2000)], none⟩, ⟨some 88, .bin 2 .add (.tmp 83) (.tmp 87), none⟩, ⟨some 89, .fa 2 (.tmp 3), none⟩, ⟨some 90, .ld 22 1 false (.tmp 89), none⟩, ⟨some 91, .ld 3 1 false (.tmp 9), none⟩, ⟨some 92, .ia 1 (.tmp 90) (.tmp 91), none⟩, ⟨some 93, .ld 2 1 false (.tmp 92), none⟩, ⟨some 94, .bin 2 .gtr (.tmp 88) (.tmp 93), none⟩]
def Xn66_59 : C := regL [6, 7] none [⟨some 95, .ld 29 4 true (.tmp 14), none⟩, ⟨none, .st 29 4 (.tmp 6) (.tmp 95), none⟩, ⟨none, .st 4 1 (.tmp 7) (.const (.bool true)), none⟩]
def Xn66_58 : C := .seq Xn66_59 .ret
def Xn66_57 : C := .cond (.tmp 94) Xn66_58 .skip
def Xn66_55 : C := .seq Xn66_56 Xn66_57
def Xn66_53 : C := .seq Xn66_54 Xn66_55
def Xn66_51 : C := .seq Xn66_52 Xn66_53
def Xn66_50 : C := .block 5 Xn66_51
def Xn66_62 : C := regL [1, 3, 6, 7, 8, 9, 10, 23, 24, 25, 62, 63] none [⟨some 96, .bin 3 .add (.tmp 63) (.const (.int .i64 1)), none⟩, ⟨some 63, .mv (.tmp 96), none⟩]
def Xn66_49 : C := seqL [1, 3, 6, 7, 8, 9, 10, 23, 24, 25, 62, 63] Xn66_50 Xn66_62
def Xn66_45 : C := seqL [1, 3, 6, 7, 8, 9, 10, 23, 24, 25, 62, 63] Xn66_46 Xn66_49
def Xn66_43 : C := .seq Xn66_44 Xn66_45
/- carried: [63] -/
def Xn66_42 : C := loopL [1, 3, 6, 7, 8, 9, 10, 23, 24, 25, 62, 63] Xn66_43
def Xn66_41 : C := .block 4 Xn66_42
def Xn66_39 : C := .seq Xn66_40 Xn66_41
def Xn66_25 : C := seqL [1, 3, 6, 7, 8, 9, 10, 23, 24, 25] Xn66_26 Xn66_39
def Xn66_23 : C := .seq Xn66_24 Xn66_25
def Xn66_22 : C := .block 1 Xn66_23
def Xn66_63 : C := regL [1, 3, 6, 7, 8, 23, 24, 25] none [⟨some 97, .bin 3 .add (.tmp 25) (.const (.int .i64 1)), none⟩, ⟨some 25, .mv (.tmp 97), none⟩]
def Xn66_21 : C := seqL [1, 3, 6, 7, 8, 23, 24, 25] Xn66_22 Xn66_63
def Xn66_17 : C := seqL [1, 3, 6, 7, 8, 23, 24, 25] Xn66_18 Xn66_21
def Xn66_15 : C := .seq Xn66_16 Xn66_17
/- carried: [25] -/
def Xn66_14 : C := loopL [1, 3, 6, 7, 8, 23, 24, 25] Xn66_15
def Xn66_13 : C := .block 0 Xn66_14
def Xn66_11 : C := .seq Xn66_12 Xn66_13
def Xn66_65 : C := regL [6, 7] none [⟨some 98, .bld (.agg #[.int .i64 0, .int .i64 0, .int .i64 0, .int .i64 0]) [], none⟩, ⟨none, .st 29 4 (.tmp 6) (.tmp 98), none⟩, ⟨none, .st 4 1 (.tmp 7) (.const (.bool false)), none⟩]
def Xn66_64 : C := .seq Xn66_65 .ret
def Xn66_10 : C := seqL [6, 7] Xn66_11 Xn66_64
def Xn66_4 : C := seqL [1, 3, 6, 7, 8] Xn66_5 Xn66_10
def Xn66_2 : C := .seq Xn66_3 Xn66_4
def Xn66_0 : C := .seq Xn66_1 Xn66_2
theorem Xt66 : Text Try.prog 66 Xn66_0 99 3 [.c 6 4 true, .c 7 1 false] := ⟨⟨Try.f66, [3], Try.func66, by kernel_rfl, by kernel_rfl, by kernel_rfl, by kernel_rfl⟩⟩
def Xn67_1 : C := regL [0, 1, 2] none [⟨some 6, .mv (.const (.int .i64 0)), none⟩]
def Xn67_3 : C := regL [6] none [⟨some 7, .mv (.tmp 0), none⟩, ⟨some 8, .mv (.tmp 1), none⟩, ⟨some 9, .un .neg (.tmp 8), none⟩, ⟨some 10, .mv (.tmp 2), none⟩, ⟨some 11, .call 91 [.tmp 7, .tmp 9, .tmp 10], none⟩, ⟨some 12, .un .neg (.tmp 11), none⟩, ⟨some 6, .mv (.tmp 12), none⟩]
def Xn67_2 : C := .seq Xn67_3 .ret
def Xn67_0 : C := .seq Xn67_1 Xn67_2
theorem Xt67 : Text Try.prog 67 Xn67_0 13 3 [.t 6] := ⟨⟨Try.f67, [], Try.func67, by kernel_rfl, by kernel_rfl, by kernel_rfl, by kernel_rfl⟩⟩
def Xn68_1 : C := regL [0, 1] none [⟨some 4, .mv (.const (.slice none 0 0)), none⟩]
def Xn68_3 : C := regL [1, 5] none [⟨some 7, .mv (.tmp 0), none⟩, ⟨some 8, .call 92 [.tmp 7], none⟩, ⟨some 5, .mv (.tmp 8), none⟩]
def Xn68_6 : C := regL [1, 5, 10, 11] none [⟨some 9, .mv (.tmp 5), none⟩, ⟨some 10, .len (.tmp 9), none⟩, ⟨some 11, .mv (.const (.int .i64 0)), none⟩]
def Xn68_10 : C := regL [1, 5, 10, 11, 12] none [⟨some 12, .bin 3 .lss (.tmp 11) (.tmp 10), none⟩]
def Xn68_12 : C := .cond (.tmp 12) .skip (.exit 0)
def Xn68_18 : C := regL [1, 5, 6, 10, 11] none [⟨some 13, .mv (.tmp 11), none⟩, ⟨some 6, .mv (.tmp 13), none⟩]
def Xn68_19 : C := regL [1, 5, 10, 11] none [⟨some 14, .mv (.tmp 5), none⟩, ⟨some 15, .mv (.tmp 6), none⟩, ⟨some 16, .mv (.tmp 5), none⟩, ⟨some 17, .mv (.tmp 6), none⟩, ⟨some 18, .ia 2 (.tmp 16) (.tmp 17), none⟩, ⟨some 19, .fa 1 (.tmp 18), none⟩, ⟨some 20, .ld 2 1 false (.tmp 19), none⟩, ⟨some 21, .mv (.tmp 1), none⟩, ⟨some 22, .bin 2 .mul (.tmp 20) (.tmp 21), none⟩, ⟨some 23, .call 59 [.tmp 22, .const (.int .i64 1000)], none⟩, ⟨some 24, .ia 2 (.tmp 14) (.tmp 15), none⟩, ⟨some 25, .fa 1 (.tmp 24), none⟩, ⟨none, .st 2 1 (.tmp 25) (.tmp 23), none⟩]
def Xn68_17 : C := .seq Xn68_18 Xn68_19
def Xn68_16 : C := .block 1 Xn68_17
def Xn68_20 : C := regL [1, 5, 10, 11] none [⟨some 26, .bin 3 .add (.tmp 11) (.const (.int .i64 1)), none⟩, ⟨some 11, .mv (.tmp 26), none⟩]
def Xn68_15 : C := seqL [1, 5, 10, 11] Xn68_16 Xn68_20
def Xn68_11 : C := seqL [1, 5, 10, 11] Xn68_12 Xn68_15
def Xn68_9 : C := .seq Xn68_10 Xn68_11
/- carried: [11] -/
def Xn68_8 : C := loopL [1, 5, 10, 11] Xn68_9
def Xn68_7 : C := .block 0 Xn68_8
def Xn68_5 : C := .seq Xn68_6 Xn68_7
def Xn68_22 : C := regL [4] none [⟨some 27, .mv (.tmp 5), none⟩, ⟨some 4, .mv (.tmp 27), none⟩]
def Xn68_21 : C := .seq Xn68_22 .ret
def Xn68_4 : C := seqL [5] Xn68_5 Xn68_21
def Xn68_2 : C := .seq Xn68_3 Xn68_4
def Xn68_0 : C := .seq Xn68_1 Xn68_2
theorem Xt68 : Text Try.prog 68 Xn68_0 28 2 [.t 4] := ⟨⟨Try.f68, [], Try.func68, by kernel_rfl, by kernel_rfl, by kernel_rfl, by kernel_rfl⟩⟩
def Xn69_1 : C := regL [0, 1, 2, 3] none [⟨some 5, .mv (.const (.bool false)), none⟩]
def Xn69_3 : C := regL [7] (some [0, 0, 0, 6, 0, 31, 63, 127, 127, 0, 767, 2047]) [⟨some 9, .ld 24 6 true (.tmp 1), none⟩, ⟨some 10, .ld 25 1 false (.tmp 2), none⟩, ⟨some 11, .mv (.tmp 0), none⟩, ⟨some 12, .call 68 [.tmp 10, .tmp 11], none⟩, ⟨some 13, .ld 4 1 false (.tmp 3), none⟩, ⟨some 14, .call 66 [.tmp 9, .tmp 12, .tmp 13], none⟩, ⟨some 8, .mv (.tmp 14), none⟩, ⟨some 15, .ext 0 (.tmp 8), none⟩, ⟨some 16, .ext 1 (.tmp 8), none⟩, ⟨some 6, .alc 29 (.agg #[.int .i64 0, .int .i64 0, .int .i64 0, .int .i64 0]), none⟩, ⟨none, .st 29 4 (.tmp 6) (.tmp 15), none⟩, ⟨some 7, .mv (.tmp 16), none⟩]
def Xn69_5 : C := regL [5] none [⟨some 17, .mv (.tmp 7), none⟩, ⟨some 5, .mv (.tmp 17), none⟩]
def Xn69_4 : C := .seq Xn69_5 .ret
def Xn69_2 : C := .seq Xn69_3 Xn69_4
def Xn69_0 : C := .seq Xn69_1 Xn69_2
theorem Xt69 : Text Try.prog 69 Xn69_0 18 4 [.t 5] := ⟨⟨Try.f69, [], Try.func69, by kernel_rfl, by kernel_rfl, by kernel_rfl, by kernel_rfl⟩⟩
def Xn70_1 : C := regL [0, 3, 4] none [⟨some 3, .box true 102 (.tmp 1), none⟩, ⟨some 4, .alc 29 (.agg #[.int .i64 0, .int .i64 0, .int .i64 0, .int .i64 0]), none⟩]
def Xn70_3 : C := regL [0, 3, 4, 5] none [⟨some 5, .alc 4 (.bool false), none⟩, ⟨none, .st 4 1 (.tmp 5) (.const (.bool true)), none⟩]
def Xn70_6 : C := regL [3, 4, 5, 7] none [⟨some 7, .mv (.tmp 0), none⟩]
def Xn70_9 : C := regL [3, 4, 5, 6] none [⟨some 6, .alc 29 (.agg #[.int .i64 0, .int .i64 0, .int .i64 0, .int .i64 0]), none⟩, ⟨none, .st 29 4 (.tmp 6) (.tmp 8), none⟩]
def Xn70_12 : C := regL [4, 5, 6, 15] none [⟨some 9, .ld 4 1 false (.tmp 5), none⟩, ⟨some 10, .mv (.tmp 9), none⟩, ⟨some 11, .ld 102 1 false (.tmp 3), some (10, false)⟩, ⟨some 12, .ld 29 4 true (.tmp 4), some (10, false)⟩, ⟨some 13, .ld 29 4 true (.tmp 6), some (10, false)⟩, ⟨some 14, .callv (.tmp 11) [.tmp 12, .tmp 13], some (10, false)⟩, ⟨some 15, .pick 10 (.const (.bool true)) (.tmp 14), none⟩]
def Xn70_14 : C := regL [] none [⟨some 16, .ld 29 4 true (.tmp 6), none⟩, ⟨none, .st 29 4 (.tmp 4) (.tmp 16), none⟩, ⟨none, .st 4 1 (.tmp 5) (.const (.bool false)), none⟩]
def Xn70_13 : C := .cond (.tmp 15) Xn70_14 .skip
def Xn70_11 : C := .seq Xn70_12 Xn70_13
def Xn70_10 : C := .block 1 Xn70_11
def Xn70_8 : C := .rfn (.tmp 7) [8] Xn70_9 Xn70_10
def Xn70_7 : C := .block 0 Xn70_8
def Xn70_5 : C := .seq Xn70_6 Xn70_7
def Xn70_17 : C := regL [4] none [⟨some 17, .ld 29 4 true (.tmp 4), none⟩, ⟨none, .st 29 4 (.tmp 4) (.tmp 17), none⟩]
def Xn70_16 : C := .seq Xn70_17 .ret
def Xn70_4 : C := seqL [4] Xn70_5 Xn70_16
def Xn70_2 : C := .seq Xn70_3 Xn70_4
def Xn70_0 : C := .seq Xn70_1 Xn70_2
theorem Xt70 : Text Try.prog 70 Xn70_0 18 2 [.c 4 4 true] := ⟨⟨Try.f70, [3], Try.func70, by kernel_rfl, by kernel_rfl, by kernel_rfl, by kernel_rfl⟩⟩
def Xn71_1 : C := regL [3, 4, 5] none [⟨some 3, .box true 24 (.tmp 0), none⟩, ⟨some 4, .box true 25 (.tmp 1), none⟩, ⟨some 5, .box true 3 (.tmp 2), none⟩, ⟨some 6, .mv (.const (.nilFunc)), none⟩]
def Xn71_3 : C := regL [6] none [⟨some 7, .mkf 93 [] [.tmp 3, .tmp 5, .tmp 4], none⟩, ⟨some 6, .mv (.tmp 7), none⟩]
def Xn71_2 : C := .seq Xn71_3 .ret
def Xn71_0 : C := .seq Xn71_1 Xn71_2
theorem Xt71 : Text Try.prog 71 Xn71_0 8 3 [.t 6] := ⟨⟨Try.f71, [3, 4, 5], Try.func71, by kernel_rfl, by kernel_rfl, by kernel_rfl, by kernel_rfl⟩⟩
def Xn72_1 : C := regL [2, 3] none [⟨some 2, .box true 29 (.tmp 0), none⟩, ⟨some 3, .box true 29 (.tmp 1), none⟩, ⟨some 4, .mv (.const (.bool false)), none⟩]
def Xn72_3 : C := regL [4] none [⟨some 5, .fa 0 (.tmp 2), none⟩, ⟨some 6, .ld 2 1 false (.tmp 5), none⟩, ⟨some 7, .fa 0 (.tmp 3), none⟩, ⟨some 8, .ld 2 1 false (.tmp 7), none⟩, ⟨some 9, .bin 2 .lss (.tmp 6) (.tmp 8), none⟩, ⟨some 4, .mv (.tmp 9), none⟩]
def Xn72_2 : C := .seq Xn72_3 .ret
def Xn72_0 : C := .seq Xn72_1 Xn72_2
theorem Xt72 : Text Try.prog 72 Xn72_0 10 2 [.t 4] := ⟨⟨Try.f72, [2, 3], Try.func72, by kernel_rfl, by kernel_rfl, by kernel_rfl, by kernel_rfl⟩⟩
def Xn73_1 : C := regL [1, 2] none [⟨some 2, .box true 24 (.tmp 0), none⟩, ⟨some 4, .mv (.const (.int .i64 0)), none⟩]
def Xn73_4 : C := regL [1, 2, 7] none [⟨some 5, .ld 24 6 true (.tmp 2), none⟩, ⟨some 6, .call 31 [.tmp 5], none⟩, ⟨some 7, .bin 30 .neq (.tmp 6) (.const (.int .i64 0)), none⟩]
def Xn73_7 : C := regL [4] none [⟨some 8, .ld 24 6 true (.tmp 2), none⟩, ⟨some 9, .call 31 [.tmp 8], none⟩, ⟨some 4, .mv (.tmp 9), none⟩]
def Xn73_6 : C := .seq Xn73_7 .ret
def Xn73_5 : C := .cond (.tmp 7) Xn73_6 .skip
def Xn73_3 : C := .seq Xn73_4 Xn73_5
def Xn73_11 : C := regL [4] none [⟨some 10, .mv (.tmp 1), none⟩, ⟨some 11, .call 60 [.tmp 10], none⟩, ⟨some 4, .mv (.tmp 11), none⟩]
def Xn73_10 : C := .seq Xn73_11 .ret
def Xn73_2 : C := seqL [1] Xn73_3 Xn73_10
def Xn73_0 : C := .seq Xn73_1 Xn73_2
theorem Xt73 : Text Try.prog 73 Xn73_0 12 2 [.t 4] := ⟨⟨Try.f73, [2], Try.func73, by kernel_rfl, by kernel_rfl, by kernel_rfl, by kernel_rfl⟩⟩
def Xn74_1 : C := regL [1, 2, 3, 4, 8] none [⟨some 4, .box true 24 (.tmp 0), none⟩, ⟨some 8, .alc 29 (.agg #[.int .i64 0, .int .i64 0, .int .i64 0, .int .i64 0]), none⟩]
def Xn74_3 : C := regL [1, 2, 3, 4, 8, 9] none [⟨some 15, .bld (.agg #[.int .i64 0, .int .i64 0, .int .i64 0, .int .i64 0]) [], none⟩, ⟨some 9, .alc 29 (.agg #[.int .i64 0, .int .i64 0, .int .i64 0, .int .i64 0]), none⟩, ⟨none, .st 29 4 (.tmp 9) (.tmp 15), none⟩]
def Xn74_5 : C := regL [1, 2, 3, 4, 8, 9, 10] none [⟨some 10, .mv (.const (.bool false)), none⟩]
def Xn74_8 : C := regL [1, 2, 3, 4, 8, 9, 10, 11] none [⟨some 11, .mv (.const (.int .i64 0)), none⟩]
def Xn74_13 : C := regL [1, 2, 3, 4, 8, 9, 10, 11, 19] none [⟨some 16, .mv (.tmp 11), none⟩, ⟨some 17, .mv (.tmp 1), none⟩, ⟨some 18, .len (.tmp 17), none⟩, ⟨some 19, .bin 3 .lss (.tmp 16) (.tmp 18), none⟩]
def Xn74_14 : C := .cond (.tmp 19) .skip (.exit 0)
def Xn74_12 : C := .seq Xn74_13 Xn74_14
def Xn74_20 : C := regL [1, 2, 3, 4, 8, 9, 10, 11, 12] none [⟨some 12, .mv (.const (.int .i64 0)), none⟩]
def Xn74_25 : C := regL [1, 2, 3, 4, 8, 9, 10, 11, 12, 23] none [⟨some 22, .mv (.tmp 12), none⟩, ⟨some 23, .bin 3 .lss (.tmp 22) (.const (.int .i64 3)), none⟩]
def Xn74_26 : C := .cond (.tmp 23) .skip (.exit 2)
def Xn74_24 : C := .seq Xn74_25 Xn74_26
def Xn74_32 : C := regL [1, 2, 3, 4, 8, 9, 10, 11, 12, 13] (some [0, 0, 3, 0, 0, 24, 56, 120, 255, 0, 0, 1024, 0, 7168, 15360, 32256, 0, 130560, 261632, 524287, 1048575]) [⟨some 26, .ld 24 6 true (.tmp 4), none⟩, ⟨some 27, .mv (.tmp 2), none⟩, ⟨some 28, .call 94 [.tmp 26, .tmp 27], none⟩, ⟨some 29, .mv (.tmp 1), none⟩, ⟨some 30, .mv (.tmp 11), none⟩, ⟨some 31, .ia 2 (.tmp 29) (.tmp 30), none⟩, ⟨some 32, .fa 0 (.tmp 31), none⟩, ⟨some 33, .ld 2 1 false (.tmp 32), none⟩, ⟨some 34, .bin 2 .add (.tmp 28) (.tmp 33), none⟩, ⟨some 35, .mv (.tmp 3), none⟩, ⟨some 36, .fa 0 (.tmp 4), none⟩, ⟨some 37, .ld 22 1 false (.tmp 36), none⟩, ⟨some 38, .mv (.tmp 2), none⟩, ⟨some 39, .ia 1 (.tmp 37) (.tmp 38), none⟩, ⟨some 40, .ld 2 1 false (.tmp 39), none⟩, ⟨some 41, .bls 2 1 3 (.int .i64 0) [(0, 1, .const (.int .i64 0)), (1, 1, .tmp 35), (2, 1, .tmp 40)], none⟩, ⟨some 42, .mv (.tmp 12), none⟩, ⟨some 43, .ia 1 (.tmp 41) (.tmp 42), none⟩, ⟨some 44, .ld 2 1 false (.tmp 43), none⟩, ⟨some 45, .bin 2 .add (.tmp 34) (.tmp 44), none⟩, ⟨some 13, .mv (.tmp 45), none⟩]
def Xn74_34 : C := regL [1, 2, 3, 4, 8, 9, 10, 11, 12, 13, 14] none [⟨some 46, .ld 24 6 true (.tmp 4), none⟩, ⟨some 47, .mv (.tmp 1), none⟩, ⟨some 48, .mv (.tmp 2), none⟩, ⟨some 49, .mv (.tmp 3), none⟩, ⟨some 50, .mv (.tmp 13), none⟩, ⟨some 51, .call 95 [.tmp 46, .tmp 47, .tmp 48, .tmp 49, .tmp 50], none⟩, ⟨some 14, .mv (.tmp 51), none⟩]
def Xn74_36 : C := regL [1, 2, 3, 4, 8, 9, 10, 11, 12, 13, 14, 56] none [⟨some 52, .ld 29 4 true (.tmp 9), none⟩, ⟨some 53, .mv (.tmp 10), none⟩, ⟨some 54, .mv (.tmp 14), none⟩, ⟨some 55, .mv (.tmp 13), none⟩, ⟨some 56, .call 96 [.tmp 52, .tmp 53, .tmp 54, .tmp 55], none⟩]
def Xn74_39 : C := regL [1, 2, 3, 4, 8, 9, 11, 12] none [⟨some 57, .mv (.tmp 14), none⟩, ⟨some 58, .mv (.tmp 2), none⟩, ⟨some 59, .mv (.tmp 3), none⟩, ⟨some 60, .mv (.tmp 13), none⟩, ⟨some 61, .bld (.agg #[.int .i64 0, .int .i64 0, .int .i64 0, .int .i64 0]) [(0, 1, .tmp 57), (1, 1, .tmp 58), (2, 1, .tmp 59), (3, 1, .tmp 60)], none⟩, ⟨none, .st 29 4 (.tmp 9) (.tmp 61), none⟩]
def Xn74_40 : C := regL [1, 2, 3, 4, 8, 9, 10, 11, 12] none [⟨some 10, .mv (.const (.bool true)), none⟩]
def Xn74_38 : C := .seq Xn74_39 Xn74_40
def Xn74_37 : C := .cond (.tmp 56) Xn74_38 .skip
def Xn74_35 : C := .seq Xn74_36 Xn74_37
def Xn74_33 : C := .seq Xn74_34 Xn74_35
def Xn74_31 : C := .seq Xn74_32 Xn74_33
def Xn74_30 : C := .block 3 Xn74_31
def Xn74_42 : C := regL [1, 2, 3, 4, 8, 9, 10, 11, 12] none [⟨some 24, .mv (.tmp 12), none⟩, ⟨some 25, .bin 3 .add (.tmp 24) (.const (.int .i64 1)), none⟩, ⟨some 12, .mv (.tmp 25), none⟩]
def Xn74_29 : C := seqL [1, 2, 3, 4, 8, 9, 10, 11, 12] Xn74_30 Xn74_42
def Xn74_23 : C := seqL [1, 2, 3, 4, 8, 9, 10, 11, 12] Xn74_24 Xn74_29
/- carried: [10, 12] -/
def Xn74_22 : C := loopL [1, 2, 3, 4, 8, 9, 10, 11, 12] Xn74_23
def Xn74_21 : C := .block 2 Xn74_22
def Xn74_19 : C := .seq Xn74_20 Xn74_21
def Xn74_18 : C := .block 1 Xn74_19
def Xn74_43 : C := regL [1, 2, 3, 4, 8, 9, 10, 11] none [⟨some 20, .mv (.tmp 11), none⟩, ⟨some 21, .bin 3 .add (.tmp 20) (.const (.int .i64 1)), none⟩, ⟨some 11, .mv (.tmp 21), none⟩]
def Xn74_17 : C := seqL [1, 2, 3, 4, 8, 9, 10, 11] Xn74_18 Xn74_43
def Xn74_11 : C := seqL [1, 2, 3, 4, 8, 9, 10, 11] Xn74_12 Xn74_17
/- carried: [10, 11] -/
def Xn74_10 : C := loopL [1, 2, 3, 4, 8, 9, 10, 11] Xn74_11
def Xn74_9 : C := .block 0 Xn74_10
def Xn74_7 : C := .seq Xn74_8 Xn74_9
def Xn74_45 : C := regL [8] none [⟨some 62, .ld 29 4 true (.tmp 9), none⟩, ⟨none, .st 29 4 (.tmp 8) (.tmp 62), none⟩]
def Xn74_44 : C := .seq Xn74_45 .ret
def Xn74_6 : C := seqL [8, 9] Xn74_7 Xn74_44
def Xn74_4 : C := .seq Xn74_5 Xn74_6
def Xn74_2 : C := .seq Xn74_3 Xn74_4
def Xn74_0 : C := .seq Xn74_1 Xn74_2
theorem Xt74 : Text Try.prog 74 Xn74_0 63 4 [.c 8 4 true] := ⟨⟨Try.f74, [4], Try.func74, by kernel_rfl, by kernel_rfl, by kernel_rfl, by kernel_rfl⟩⟩
def Xn75_1 : C := regL [1, 2, 3, 6] none [⟨some 3, .box true 24 (.tmp 0), none⟩, ⟨some 6, .alc 29 (.agg #[.int .i64 0, .int .i64 0, .int .i64 0, .int .i64 0]), none⟩, ⟨some 7, .mv (.const (.bool false)), none⟩]
def Xn75_4 : C := regL [1, 2, 3, 6, 8] none [⟨some 8, .mv (.const (.int .i64 0)), none⟩]
def Xn75_9 : C := regL [1, 2, 3, 6, 8, 18] none [⟨some 14, .mv (.tmp 8), none⟩, ⟨some 15, .fa 0 (.tmp 3), none⟩, ⟨some 16, .ld 22 1 false (.tmp 15), none⟩, ⟨some 17, .len (.tmp 16), none⟩, ⟨some 18, .bin 3 .lss (.tmp 14) (.tmp 17), none⟩]
def Xn75_10 : C := .cond (.tmp 18) .skip (.exit 0)
def Xn75_8 : C := .seq Xn75_9 Xn75_10
def Xn75_16 : C := regL [1, 2, 3, 6, 8, 9] none [⟨some 21, .fa 0 (.tmp 3), none⟩, ⟨some 22, .ld 22 1 false (.tmp 21), none⟩, ⟨some 23, .mv (.tmp 8), none⟩, ⟨some 24, .ia 1 (.tmp 22) (.tmp 23), none⟩, ⟨some 25, .ld 2 1 false (.tmp 24), none⟩, ⟨some 26, .call 32 [.tmp 25], none⟩, ⟨some 9, .mv (.tmp 26), none⟩]
def Xn75_19 : C := regL [1, 2, 3, 6, 8, 9, 10] none [⟨some 10, .mv (.const (.int .i64 0)), none⟩]
def Xn75_24 : C := regL [1, 2, 3, 6, 8, 9, 10, 30] none [⟨some 27, .mv (.tmp 10), none⟩, ⟨some 28, .mv (.tmp 9), none⟩, ⟨some 29, .len (.tmp 28), none⟩, ⟨some 30, .bin 3 .lss (.tmp 27) (.tmp 29), none⟩]
def Xn75_25 : C := .cond (.tmp 30) .skip (.exit 2)
def Xn75_23 : C := .seq Xn75_24 Xn75_25
def Xn75_31 : C := regL [1, 2, 3, 6, 8, 9, 10, 11] (some [0, 0, 0, 0, 0, 24, 56, 127, 0, 511]) [⟨some 33, .ld 24 6 true (.tmp 3), none⟩, ⟨some 34, .mv (.tmp 1), none⟩, ⟨some 35, .mv (.tmp 8), none⟩, ⟨some 36, .mv (.tmp 9), none⟩, ⟨some 37, .mv (.tmp 10), none⟩, ⟨some 38, .ia 1 (.tmp 36) (.tmp 37), none⟩, ⟨some 39, .ld 2 1 false (.tmp 38), none⟩, ⟨some 40, .call 74 [.tmp 33, .tmp 34, .tmp 35, .tmp 39], none⟩, ⟨some 11, .alc 29 (.agg #[.int .i64 0, .int .i64 0, .int .i64 0, .int .i64 0]), none⟩, ⟨none, .st 29 4 (.tmp 11) (.tmp 40), none⟩]
def Xn75_33 : C := regL [1, 2, 3, 6, 8, 9, 10, 11, 51] (some [0, 0, 0, 0, 12, 28, 0, 64, 0, 511, 1023]) [⟨some 41, .ld 24 6 true (.tmp 3), none⟩, ⟨some 42, .mv (.tmp 8), none⟩, ⟨some 43, .mv (.tmp 9), none⟩, ⟨some 44, .mv (.tmp 10), none⟩, ⟨some 45, .ia 1 (.tmp 43) (.tmp 44), none⟩, ⟨some 46, .ld 2 1 false (.tmp 45), none⟩, ⟨some 47, .fa 0 (.tmp 11), none⟩, ⟨some 48, .ld 2 1 false (.tmp 47), none⟩, ⟨some 49, .mv (.tmp 2), none⟩, ⟨some 50, .call 33 [.tmp 41, .tmp 42, .tmp 46, .tmp 48, .tmp 49], none⟩, ⟨some 51, .un .not (.tmp 50), none⟩]
def Xn75_36 : C := regL [6, 7] none [⟨some 52, .ld 29 4 true (.tmp 11), none⟩, ⟨none, .st 29 4 (.tmp 6) (.tmp 52), none⟩, ⟨some 7, .mv (.const (.bool true)), none⟩]
def Xn75_35 : C := .seq Xn75_36 .ret
def Xn75_34 : C := .cond (.tmp 51) Xn75_35 .skip
def Xn75_32 : C := .seq Xn75_33 Xn75_34
def Xn75_30 : C := .seq Xn75_31 Xn75_32
def Xn75_29 : C := .block 3 Xn75_30
def Xn75_39 : C := regL [1, 2, 3, 6, 8, 9, 10] none [⟨some 31, .mv (.tmp 10), none⟩, ⟨some 32, .bin 3 .add (.tmp 31) (.const (.int .i64 1)), none⟩, ⟨some 10, .mv (.tmp 32), none⟩]
def Xn75_28 : C := seqL [1, 2, 3, 6, 8, 9, 10] Xn75_29 Xn75_39
def Xn75_22 : C := seqL [1, 2, 3, 6, 8, 9, 10] Xn75_23 Xn75_28
/- carried: [10] -/
def Xn75_21 : C := loopL [1, 2, 3, 6, 8, 9, 10] Xn75_22
def Xn75_20 : C := .block 2 Xn75_21
def Xn75_18 : C := .seq Xn75_19 Xn75_20
def Xn75_41 : C := regL [1, 2, 3, 6, 8, 12] none [⟨some 12, .mv (.const (.int .i64 0)), none⟩]
def Xn75_46 : C := regL [1, 2, 3, 6, 8, 12, 54] none [⟨some 53, .mv (.tmp 12), none⟩, ⟨some 54, .bin 3 .lss (.tmp 53) (.const (.int .i64 2)), none⟩]
def Xn75_47 : C := .cond (.tmp 54) .skip (.exit 4)
def Xn75_45 : C := .seq Xn75_46 Xn75_47
def Xn75_53 : C := regL [1, 2, 3, 6, 8, 12, 13] none [⟨some 57, .ld 24 6 true (.tmp 3), none⟩, ⟨some 58, .mv (.tmp 1), none⟩, ⟨some 59, .mv (.tmp 8), none⟩, ⟨some 60, .mv (.tmp 12), none⟩, ⟨some 61, .bin 3 .eql (.tmp 60) (.const (.int .i64 1)), none⟩, ⟨some 62, .call 97 [.tmp 57, .tmp 58, .tmp 59, .tmp 61], none⟩, ⟨some 13, .alc 29 (.agg #[.int .i64 0, .int .i64 0, .int .i64 0, .int .i64 0]), none⟩, ⟨none, .st 29 4 (.tmp 13) (.tmp 62), none⟩]
def Xn75_55 : C := regL [1, 2, 3, 6, 8, 12, 13, 69] none [⟨some 63, .ld 24 6 true (.tmp 3), none⟩, ⟨some 64, .mv (.tmp 8), none⟩, ⟨some 65, .fa 0 (.tmp 13), none⟩, ⟨some 66, .ld 2 1 false (.tmp 65), none⟩, ⟨some 67, .mv (.tmp 2), none⟩, ⟨some 68, .call 34 [.tmp 63, .tmp 64, .tmp 66, .tmp 67], none⟩, ⟨some 69, .un .not (.tmp 68), none⟩]
def Xn75_58 : C := regL [6, 13] none [⟨some 70, .mv (.tmp 12), none⟩, ⟨some 71, .bin 3 .sub (.const (.int .i64 (-1))) (.tmp 70), none⟩, ⟨some 72, .fa 2 (.tmp 13), none⟩, ⟨none, .st 2 1 (.tmp 72) (.tmp 71), none⟩]
def Xn75_60 : C := regL [6, 7] none [⟨some 73, .ld 29 4 true (.tmp 13), none⟩, ⟨none, .st 29 4 (.tmp 6) (.tmp 73), none⟩, ⟨some 7, .mv (.const (.bool true)), none⟩]
def Xn75_59 : C := .seq Xn75_60 .ret
def Xn75_57 : C := .seq Xn75_58 Xn75_59
def Xn75_56 : C := .cond (.tmp 69) Xn75_57 .skip
def Xn75_54 : C := .seq Xn75_55 Xn75_56
def Xn75_52 : C := .seq Xn75_53 Xn75_54
def Xn75_51 : C := .block 5 Xn75_52
def Xn75_63 : C := regL [1, 2, 3, 6, 8, 12] none [⟨some 55, .mv (.tmp 12), none⟩, ⟨some 56, .bin 3 .add (.tmp 55) (.const (.int .i64 1)), none⟩, ⟨some 12, .mv (.tmp 56), none⟩]
def Xn75_50 : C := seqL [1, 2, 3, 6, 8, 12] Xn75_51 Xn75_63
def Xn75_44 : C := seqL [1, 2, 3, 6, 8, 12] Xn75_45 Xn75_50
/- carried: [12] -/
def Xn75_43 : C := loopL [1, 2, 3, 6, 8, 12] Xn75_44
def Xn75_42 : C := .block 4 Xn75_43
def Xn75_40 : C := .seq Xn75_41 Xn75_42
def Xn75_17 : C := seqL [1, 2, 3, 6, 8] Xn75_18 Xn75_40
def Xn75_15 : C := .seq Xn75_16 Xn75_17
def Xn75_14 : C := .block 1 Xn75_15
def Xn75_64 : C := regL [1, 2, 3, 6, 8] none [⟨some 19, .mv (.tmp 8), none⟩, ⟨some 20, .bin 3 .add (.tmp 19) (.const (.int .i64 1)), none⟩, ⟨some 8, .mv (.tmp 20), none⟩]
def Xn75_13 : C := seqL [1, 2, 3, 6, 8] Xn75_14 Xn75_64
def Xn75_7 : C := seqL [1, 2, 3, 6, 8] Xn75_8 Xn75_13
/- carried: [8] -/
def Xn75_6 : C := loopL [1, 2, 3, 6, 8] Xn75_7
def Xn75_5 : C := .block 0 Xn75_6
def Xn75_3 : C := .seq Xn75_4 Xn75_5
def Xn75_66 : C := regL [6, 7] none [⟨some 74, .bld (.agg #[.int .i64 0, .int .i64 0, .int .i64 0, .int .i64 0]) [], none⟩, ⟨none, .st 29 4 (.tmp 6) (.tmp 74), none⟩, ⟨some 7, .mv (.const (.bool false)), none⟩]
def Xn75_65 : C := .seq Xn75_66 .ret
def Xn75_2 : C := seqL [6] Xn75_3 Xn75_65
def Xn75_0 : C := .seq Xn75_1 Xn75_2
theorem Xt75 : Text Try.prog 75 Xn75_0 75 3 [.c 6 4 true, .t 7] := ⟨⟨Try.f75, [3], Try.func75, by kernel_rfl, by kernel_rfl, by kernel_rfl, by kernel_rfl⟩⟩
def Xn79_1 : C := regL [0, 1] none [⟨some 4, .mv (.const (.int .i64 0)), none⟩]
def Xn79_3 : C := regL [0, 1, 5] none [⟨some 7, .mv (.tmp 0), none⟩, ⟨some 8, .call 104 [.tmp 7], none⟩, ⟨some 5, .mv (.tmp 8), none⟩]
def Xn79_5 : C := regL [0, 1, 5, 6] none [⟨some 9, .mv (.tmp 1), none⟩, ⟨some 10, .call 104 [.tmp 9], none⟩, ⟨some 6, .mv (.tmp 10), none⟩]
def Xn79_8 : C := regL [0, 1, 6, 11] none [⟨some 11, .mv (.tmp 5), none⟩]
def Xn79_12 : C := regL [12] none [⟨some 12, .mv (.tmp 6), none⟩]
def Xn79_15 : C := regL [4] none [⟨some 4, .mv (.const (.int .i64 0)), none⟩]
def Xn79_14 : C := .seq Xn79_15 .ret
def Xn79_13 : C := .cond (.tmp 12) Xn79_14 .skip
def Xn79_11 : C := .seq Xn79_12 Xn79_13
def Xn79_19 : C := regL [4] none [⟨some 4, .mv (.const (.int .i64 (-1))), none⟩]
def Xn79_18 : C := .seq Xn79_19 .ret
def Xn79_10 : C := seqL [] Xn79_11 Xn79_18
def Xn79_9 : C := .cond (.tmp 11) Xn79_10 .skip
def Xn79_7 : C := .seq Xn79_8 Xn79_9
def Xn79_24 : C := regL [0, 1, 13] none [⟨some 13, .mv (.tmp 6), none⟩]
def Xn79_27 : C := regL [4] none [⟨some 4, .mv (.const (.int .i64 1)), none⟩]
def Xn79_26 : C := .seq Xn79_27 .ret
def Xn79_25 : C := .cond (.tmp 13) Xn79_26 .skip
def Xn79_23 : C := .seq Xn79_24 Xn79_25
def Xn79_32 : C := regL [0, 1, 16] none [⟨some 14, .mv (.tmp 0), none⟩, ⟨some 15, .mv (.tmp 1), none⟩, ⟨some 16, .bin 2 .lss (.tmp 14) (.tmp 15), none⟩]
def Xn79_35 : C := regL [4] none [⟨some 4, .mv (.const (.int .i64 (-1))), none⟩]
def Xn79_34 : C := .seq Xn79_35 .ret
def Xn79_33 : C := .cond (.tmp 16) Xn79_34 .skip
def Xn79_31 : C := .seq Xn79_32 Xn79_33
def Xn79_40 : C := regL [19] none [⟨some 17, .mv (.tmp 0), none⟩, ⟨some 18, .mv (.tmp 1), none⟩, ⟨some 19, .bin 2 .gtr (.tmp 17) (.tmp 18), none⟩]
def Xn79_43 : C := regL [4] none [⟨some 4, .mv (.const (.int .i64 1)), none⟩]
def Xn79_42 : C := .seq Xn79_43 .ret
def Xn79_41 : C := .cond (.tmp 19) Xn79_42 .skip
def Xn79_39 : C := .seq Xn79_40 Xn79_41
def Xn79_47 : C := regL [4] none [⟨some 4, .mv (.const (.int .i64 0)), none⟩]
def Xn79_46 : C := .seq Xn79_47 .ret
def Xn79_38 : C := seqL [] Xn79_39 Xn79_46
def Xn79_30 : C := seqL [0, 1] Xn79_31 Xn79_38
def Xn79_22 : C := seqL [0, 1] Xn79_23 Xn79_30
def Xn79_6 : C := seqL [0, 1, 6] Xn79_7 Xn79_22
def Xn79_4 : C := .seq Xn79_5 Xn79_6
def Xn79_2 : C := .seq Xn79_3 Xn79_4
def Xn79_0 : C := .seq Xn79_1 Xn79_2
theorem Xt79 : Text Try.prog 79 Xn79_0 20 2 [.t 4] := ⟨⟨Try.f79, [], Try.func79, by kernel_rfl, by kernel_rfl, by kernel_rfl, by kernel_rfl⟩⟩
/- carried: [3] -/
/- carried: [4] -/
def Xn81_1 : C := regL [0, 1, 2, 3] none [⟨some 5, .mv (.const (.int .i64 0)), none⟩]
def Xn81_3 : C := regL [0, 2, 3] none [⟨some 6, .mv (.tmp 0), none⟩, ⟨some 7, .ld 2 1 false (.tmp 1), none⟩, ⟨some 8, .bin 2 .sub (.tmp 6) (.tmp 7), none⟩, ⟨some 0, .mv (.tmp 8), none⟩]
def Xn81_7 : C := regL [0, 2, 3, 9] none [⟨some 10, .mv (.tmp 0), none⟩, ⟨some 11, .bin 2 .lss (.tmp 10) (.const (.int .i64 0)), none⟩, ⟨some 12, .mv (.tmp 11), none⟩, ⟨some 13, .mv (.tmp 0), some (12, false)⟩, ⟨some 14, .ld 2 1 false (.tmp 2), some (12, false)⟩, ⟨some 15, .bin 2 .gtr (.tmp 13) (.tmp 14), some (12, false)⟩, ⟨some 16, .pick 12 (.const (.bool true)) (.tmp 15), none⟩, ⟨some 9, .mv (.tmp 16), none⟩]
def Xn81_10 : C := regL [5] none [⟨some 5, .mv (.const (.int .i64 0)), none⟩]
def Xn81_9 : C := .seq Xn81_10 .ret
def Xn81_13 : C := regL [0, 2, 3, 17] none [⟨some 18, .mv (.tmp 0), none⟩, ⟨some 19, .ld 2 1 false (.tmp 3), none⟩, ⟨some 20, .bin 2 .leq (.tmp 18) (.tmp 19), none⟩, ⟨some 17, .mv (.tmp 20), none⟩]
def Xn81_16 : C := regL [5] none [⟨some 21, .mv (.tmp 0), none⟩, ⟨some 22, .ld 2 1 false (.tmp 2), none⟩, ⟨some 23, .ld 2 1 false (.tmp 3), none⟩, ⟨some 24, .bin 2 .sub (.tmp 22) (.tmp 23), none⟩, ⟨some 25, .bin 2 .mul (.tmp 21) (.tmp 24), none⟩, ⟨some 5, .mv (.tmp 25), none⟩]
def Xn81_15 : C := .seq Xn81_16 .ret
def Xn81_14 : C := .cond (.tmp 17) Xn81_15 .skip
def Xn81_12 : C := .seq Xn81_13 Xn81_14
def Xn81_8 : C := .cond (.tmp 9) Xn81_9 Xn81_12
def Xn81_6 : C := .seq Xn81_7 Xn81_8
def Xn81_5 : C := .block 0 Xn81_6
def Xn81_20 : C := regL [5] none [⟨some 26, .ld 2 1 false (.tmp 3), none⟩, ⟨some 27, .ld 2 1 false (.tmp 2), none⟩, ⟨some 28, .mv (.tmp 0), none⟩, ⟨some 29, .bin 2 .sub (.tmp 27) (.tmp 28), none⟩, ⟨some 30, .bin 2 .mul (.tmp 26) (.tmp 29), none⟩, ⟨some 5, .mv (.tmp 30), none⟩]
def Xn81_19 : C := .seq Xn81_20 .ret
def Xn81_4 : C := seqL [0, 2, 3] Xn81_5 Xn81_19
def Xn81_2 : C := .seq Xn81_3 Xn81_4
def Xn81_0 : C := .seq Xn81_1 Xn81_2
theorem Xt81 : Text Try.prog 81 Xn81_0 31 4 [.t 5] := ⟨⟨Try.f81, [], Try.func81, by kernel_rfl, by kernel_rfl, by kernel_rfl, by kernel_rfl⟩⟩
def Xn82_1 : C := regL [1, 2, 3, 4, 5] none [⟨some 5, .box true 110 (.tmp 0), none⟩]
def Xn82_3 : C := regL [1, 2, 3, 4, 5, 9] none [⟨some 7, .ld 79 2 true (.tmp 1), none⟩, ⟨some 8, .ld 25 1 false (.tmp 2), none⟩, ⟨some 9, .call 83 [.tmp 7, .tmp 8], none⟩]
def Xn82_6 : C := regL [1, 2, 3, 4, 5, 6] none [⟨some 6, .mv (.tmp 10), none⟩]
def Xn82_9 : C := regL [21] (some [0, 0, 0, 0, 14, 0, 0, 0, 254, 511, 1023]) [⟨some 11, .ld 110 1 false (.tmp 5), none⟩, ⟨some 12, .ld 79 2 true (.tmp 1), none⟩, ⟨some 13, .ld 25 1 false (.tmp 2), none⟩, ⟨some 14, .mv (.tmp 6), none⟩, ⟨some 15, .call 53 [.tmp 12, .tmp 13, .tmp 14], none⟩, ⟨some 16, .ld 3 1 false (.tmp 3), none⟩, ⟨some 17, .ld 2 1 false (.tmp 4), none⟩, ⟨some 18, .mv (.tmp 6), none⟩, ⟨some 19, .bld (.agg #[.int .i64 0, .int .i64 0, .int .i64 0, .int .i64 0]) [(0, 1, .tmp 15), (1, 1, .tmp 16), (2, 1, .tmp 17), (3, 1, .tmp 18)], none⟩, ⟨some 20, .callv (.tmp 11) [.tmp 19], none⟩, ⟨some 21, .un .not (.tmp 20), none⟩]
def Xn82_10 : C := .cond (.tmp 21) .ret .skip
def Xn82_8 : C := .seq Xn82_9 Xn82_10
def Xn82_7 : C := .block 1 Xn82_8
def Xn82_5 : C := .rfn (.tmp 9) [10] Xn82_6 Xn82_7
def Xn82_4 : C := .block 0 Xn82_5
def Xn82_2 : C := .seq Xn82_3 Xn82_4
def Xn82_0 : C := .seq Xn82_1 Xn82_2
theorem Xt82 : Text Try.prog 82 Xn82_0 22 5 [] := ⟨⟨Try.f82, [5], Try.func82, by kernel_rfl, by kernel_rfl, by kernel_rfl, by kernel_rfl⟩⟩
def Xn83_1 : C := regL [2, 3] none [⟨some 2, .box true 79 (.tmp 0), none⟩, ⟨some 3, .box true 25 (.tmp 1), none⟩, ⟨some 4, .mv (.const (.nilFunc)), none⟩]
def Xn83_3 : C := regL [4] none [⟨some 5, .mkf 107 [] [.tmp 3, .tmp 2], none⟩, ⟨some 4, .mv (.tmp 5), none⟩]
def Xn83_2 : C := .seq Xn83_3 .ret
def Xn83_0 : C := .seq Xn83_1 Xn83_2
theorem Xt83 : Text Try.prog 83 Xn83_0 6 2 [.t 4] := ⟨⟨Try.f83, [2, 3], Try.func83, by kernel_rfl, by kernel_rfl, by kernel_rfl, by kernel_rfl⟩⟩
def Xn84_1 : C := regL [2, 3] none [⟨some 2, .box true 29 (.tmp 0), none⟩, ⟨some 3, .box true 29 (.tmp 1), none⟩, ⟨some 4, .mv (.const (.bool false)), none⟩]
def Xn84_3 : C := regL [4] (some [0, 1, 0, 4, 15, 0, 32, 0, 128, 511, 1023, 2047, 4095, 8191]) [⟨some 5, .fa 0 (.tmp 2), none⟩, ⟨some 6, .ld 2 1 false (.tmp 5), none⟩, ⟨some 7, .fa 0 (.tmp 3), none⟩, ⟨some 8, .ld 2 1 false (.tmp 7), none⟩, ⟨some 9, .call 79 [.tmp 6, .tmp 8], none⟩, ⟨some 10, .fa 3 (.tmp 3), none⟩, ⟨some 11, .ld 2 1 false (.tmp 10), none⟩, ⟨some 12, .fa 3 (.tmp 2), none⟩, ⟨some 13, .ld 2 1 false (.tmp 12), none⟩, ⟨some 14, .call 79 [.tmp 11, .tmp 13], none⟩, ⟨some 15, .bls 3 1 2 (.int .i64 0) [(0, 1, .tmp 9), (1, 1, .tmp 14)], none⟩, ⟨some 16, .call 85 [.tmp 15], none⟩, ⟨some 17, .bin 3 .lss (.tmp 16) (.const (.int .i64 0)), none⟩, ⟨some 4, .mv (.tmp 17), none⟩]
def Xn84_2 : C := .seq Xn84_3 .ret
def Xn84_0 : C := .seq Xn84_1 Xn84_2
theorem Xt84 : Text Try.prog 84 Xn84_0 18 2 [.t 4] := ⟨⟨Try.f84, [2, 3], Try.func84, by kernel_rfl, by kernel_rfl, by kernel_rfl, by kernel_rfl⟩⟩
def Xn85_1 : C := regL [0] none [⟨some 2, .mv (.const (.int .i64 0)), none⟩]
def Xn85_3 : C := regL [0, 3] none [⟨some 3, .mv (.const (.int .i64 0)), none⟩]
def Xn85_6 : C := regL [3, 6, 7, 8] none [⟨some 6, .mv (.tmp 0), none⟩, ⟨some 7, .len (.tmp 6), none⟩, ⟨some 8, .mv (.const (.int .i64 0)), none⟩]
def Xn85_10 : C := regL [3, 6, 7, 8, 9] none [⟨some 9, .bin 3 .lss (.tmp 8) (.tmp 7), none⟩]
def Xn85_12 : C := .cond (.tmp 9) .skip (.exit 0)
def Xn85_18 : C := regL [3, 5, 6, 7, 8] none [⟨some 10, .ia 1 (.tmp 6) (.tmp 8), none⟩, ⟨some 11, .ld 3 1 false (.tmp 10), none⟩, ⟨some 5, .mv (.tmp 11), none⟩]
def Xn85_20 : C := regL [3, 5, 6, 7, 8, 14] none [⟨some 12, .mv (.tmp 5), none⟩, ⟨some 13, .mv (.tmp 3), none⟩, ⟨some 14, .bin 3 .neq (.tmp 12) (.tmp 13), none⟩]
def Xn85_23 : C := regL [2] none [⟨some 15, .mv (.tmp 5), none⟩, ⟨some 2, .mv (.tmp 15), none⟩]
def Xn85_22 : C := .seq Xn85_23 .ret
def Xn85_21 : C := .cond (.tmp 14) Xn85_22 .skip
def Xn85_19 : C := .seq Xn85_20 Xn85_21
def Xn85_17 : C := .seq Xn85_18 Xn85_19
def Xn85_16 : C := .block 1 Xn85_17
def Xn85_26 : C := regL [3, 6, 7, 8] none [⟨some 16, .bin 3 .add (.tmp 8) (.const (.int .i64 1)), none⟩, ⟨some 8, .mv (.tmp 16), none⟩]
def Xn85_15 : C := seqL [3, 6, 7, 8] Xn85_16 Xn85_26
def Xn85_11 : C := seqL [3, 6, 7, 8] Xn85_12 Xn85_15
def Xn85_9 : C := .seq Xn85_10 Xn85_11
/- carried: [8] -/
def Xn85_8 : C := loopL [3, 6, 7, 8] Xn85_9
def Xn85_7 : C := .block 0 Xn85_8
def Xn85_5 : C := .seq Xn85_6 Xn85_7
def Xn85_28 : C := regL [2] none [⟨some 17, .mv (.tmp 3), none⟩, ⟨some 2, .mv (.tmp 17), none⟩]
def Xn85_27 : C := .seq Xn85_28 .ret
def Xn85_4 : C := seqL [3] Xn85_5 Xn85_27
def Xn85_2 : C := .seq Xn85_3 Xn85_4
def Xn85_0 : C := .seq Xn85_1 Xn85_2
theorem Xt85 : Text Try.prog 85 Xn85_0 18 1 [.t 2] := ⟨⟨Try.f85, [], Try.func85, by kernel_rfl, by kernel_rfl, by kernel_rfl, by kernel_rfl⟩⟩
def Xn86_1 : C := regL [0, 1, 2, 3] none [⟨some 5, .mv (.const (.int .i64 0)), none⟩]
def Xn86_3 : C := regL [0, 2, 3] none [⟨some 6, .mv (.tmp 0), none⟩, ⟨some 7, .ld 2 1 false (.tmp 1), none⟩, ⟨some 8, .bin 2 .sub (.tmp 6) (.tmp 7), none⟩, ⟨some 0, .mv (.tmp 8), none⟩]
def Xn86_7 : C := regL [0, 2, 3, 9] none [⟨some 10, .mv (.tmp 0), none⟩, ⟨some 11, .bin 2 .lss (.tmp 10) (.const (.int .i64 0)), none⟩, ⟨some 12, .mv (.tmp 11), none⟩, ⟨some 13, .mv (.tmp 0), some (12, false)⟩, ⟨some 14, .ld 2 1 false (.tmp 2), some (12, false)⟩, ⟨some 15, .bin 2 .gtr (.tmp 13) (.tmp 14), some (12, false)⟩, ⟨some 16, .pick 12 (.const (.bool true)) (.tmp 15), none⟩, ⟨some 9, .mv (.tmp 16), none⟩]
def Xn86_10 : C := regL [5] none [⟨some 5, .mv (.const (.int .i64 0)), none⟩]
def Xn86_9 : C := .seq Xn86_10 .ret
def Xn86_13 : C := regL [0, 2, 17] none [⟨some 18, .ld 4 1 false (.tmp 3), none⟩, ⟨some 17, .mv (.tmp 18), none⟩]
def Xn86_16 : C := regL [5] none [⟨some 19, .mv (.tmp 0), none⟩, ⟨some 5, .mv (.tmp 19), none⟩]
def Xn86_15 : C := .seq Xn86_16 .ret
def Xn86_14 : C := .cond (.tmp 17) Xn86_15 .skip
def Xn86_12 : C := .seq Xn86_13 Xn86_14
def Xn86_8 : C := .cond (.tmp 9) Xn86_9 Xn86_12
def Xn86_6 : C := .seq Xn86_7 Xn86_8
def Xn86_5 : C := .block 0 Xn86_6
def Xn86_20 : C := regL [5] none [⟨some 20, .ld 2 1 false (.tmp 2), none⟩, ⟨some 21, .mv (.tmp 0), none⟩, ⟨some 22, .bin 2 .sub (.tmp 20) (.tmp 21), none⟩, ⟨some 5, .mv (.tmp 22), none⟩]
def Xn86_19 : C := .seq Xn86_20 .ret
def Xn86_4 : C := seqL [0, 2] Xn86_5 Xn86_19
def Xn86_2 : C := .seq Xn86_3 Xn86_4
def Xn86_0 : C := .seq Xn86_1 Xn86_2
theorem Xt86 : Text Try.prog 86 Xn86_0 23 4 [.t 5] := ⟨⟨Try.f86, [], Try.func86, by kernel_rfl, by kernel_rfl, by kernel_rfl, by kernel_rfl⟩⟩
def Xn87_1 : C := regL [0, 2] none [⟨some 2, .mv (.const (.int .i64 0)), none⟩]
def Xn87_4 : C := regL [2, 5, 6, 7] none [⟨some 5, .mv (.tmp 0), none⟩, ⟨some 6, .len (.tmp 5), none⟩, ⟨some 7, .mv (.const (.int .i64 0)), none⟩]
def Xn87_8 : C := regL [2, 5, 6, 7, 8] none [⟨some 8, .bin 3 .lss (.tmp 7) (.tmp 6), none⟩]
def Xn87_10 : C := .cond (.tmp 8) .skip (.exit 0)
def Xn87_16 : C := regL [2, 4, 5, 6, 7] none [⟨some 9, .ia 1 (.tmp 5) (.tmp 7), none⟩, ⟨some 10, .ld 2 1 false (.tmp 9), none⟩, ⟨some 4, .mv (.tmp 10), none⟩]
def Xn87_17 : C := regL [2, 5, 6, 7] none [⟨some 11, .mv (.tmp 2), none⟩, ⟨some 12, .mv (.tmp 4), none⟩, ⟨some 13, .bin 2 .add (.tmp 11) (.tmp 12), none⟩, ⟨some 2, .mv (.tmp 13), none⟩]
def Xn87_15 : C := .seq Xn87_16 Xn87_17
def Xn87_14 : C := .block 1 Xn87_15
def Xn87_18 : C := regL [2, 5, 6, 7] none [⟨some 14, .bin 3 .add (.tmp 7) (.const (.int .i64 1)), none⟩, ⟨some 7, .mv (.tmp 14), none⟩]
def Xn87_13 : C := seqL [2, 5, 6, 7] Xn87_14 Xn87_18
def Xn87_9 : C := seqL [2, 5, 6, 7] Xn87_10 Xn87_13
def Xn87_7 : C := .seq Xn87_8 Xn87_9
/- carried: [2, 7] -/
def Xn87_6 : C := loopL [2, 5, 6, 7] Xn87_7
def Xn87_5 : C := .block 0 Xn87_6
def Xn87_3 : C := .seq Xn87_4 Xn87_5
def Xn87_20 : C := regL [2] none [⟨some 15, .mv (.tmp 2), none⟩, ⟨some 2, .mv (.tmp 15), none⟩]
def Xn87_19 : C := .seq Xn87_20 .ret
def Xn87_2 : C := seqL [2] Xn87_3 Xn87_19
def Xn87_0 : C := .seq Xn87_1 Xn87_2
theorem Xt87 : Text Try.prog 87 Xn87_0 16 1 [.t 2] := ⟨⟨Try.f87, [], Try.func87, by kernel_rfl, by kernel_rfl, by kernel_rfl, by kernel_rfl⟩⟩
def Xn88_1 : C := regL [0] none [⟨some 2, .mv (.const (.int .i64 0)), none⟩]
def Xn88_3 : C := regL [0, 3] none [⟨some 3, .mv (.const (.int .i64 0)), none⟩]
def Xn88_6 : C := regL [3, 6, 7, 8] none [⟨some 6, .mv (.tmp 0), none⟩, ⟨some 7, .len (.tmp 6), none⟩, ⟨some 8, .mv (.const (.int .i64 0)), none⟩]
def Xn88_10 : C := regL [3, 6, 7, 8, 9] none [⟨some 9, .bin 3 .lss (.tmp 8) (.tmp 7), none⟩]
def Xn88_12 : C := .cond (.tmp 9) .skip (.exit 0)
def Xn88_18 : C := regL [3, 5, 6, 7, 8] none [⟨some 10, .ia 1 (.tmp 6) (.tmp 8), none⟩, ⟨some 11, .ld 30 1 false (.tmp 10), none⟩, ⟨some 5, .mv (.tmp 11), none⟩]
def Xn88_20 : C := regL [3, 5, 6, 7, 8, 14] none [⟨some 12, .mv (.tmp 5), none⟩, ⟨some 13, .mv (.tmp 3), none⟩, ⟨some 14, .bin 30 .neq (.tmp 12) (.tmp 13), none⟩]
def Xn88_23 : C := regL [2] none [⟨some 15, .mv (.tmp 5), none⟩, ⟨some 2, .mv (.tmp 15), none⟩]
def Xn88_22 : C := .seq Xn88_23 .ret
def Xn88_21 : C := .cond (.tmp 14) Xn88_22 .skip
def Xn88_19 : C := .seq Xn88_20 Xn88_21
def Xn88_17 : C := .seq Xn88_18 Xn88_19
def Xn88_16 : C := .block 1 Xn88_17
def Xn88_26 : C := regL [3, 6, 7, 8] none [⟨some 16, .bin 3 .add (.tmp 8) (.const (.int .i64 1)), none⟩, ⟨some 8, .mv (.tmp 16), none⟩]
def Xn88_15 : C := seqL [3, 6, 7, 8] Xn88_16 Xn88_26
def Xn88_11 : C := seqL [3, 6, 7, 8] Xn88_12 Xn88_15
def Xn88_9 : C := .seq Xn88_10 Xn88_11
/- carried: [8] -/
def Xn88_8 : C := loopL [3, 6, 7, 8] Xn88_9
def Xn88_7 : C := .block 0 Xn88_8
def Xn88_5 : C := .seq Xn88_6 Xn88_7
def Xn88_28 : C := regL [2] none [⟨some 17, .mv (.tmp 3), none⟩, ⟨some 2, .mv (.tmp 17), none⟩]
def Xn88_27 : C := .seq Xn88_28 .ret
def Xn88_4 : C := seqL [3] Xn88_5 Xn88_27
def Xn88_2 : C := .seq Xn88_3 Xn88_4
def Xn88_0 : C := .seq Xn88_1 Xn88_2
theorem Xt88 : Text Try.prog 88 Xn88_0 18 1 [.t 2] := ⟨⟨Try.f88, [], Try.func88, by kernel_rfl, by kernel_rfl, by kernel_rfl, by kernel_rfl⟩⟩
def Xn89_1 : C := regL [0, 1] none [⟨some 4, .mv (.const (.int .u64 0)), none⟩, ⟨some 5, .mv (.const (.int .u64 0)), none⟩]
def Xn89_3 : C := regL [0, 1, 6] none [⟨some 14, .mv (.tmp 0), none⟩, ⟨some 15, .bin 117 .and (.tmp 14) (.const (.int .u64 4294967295)), none⟩, ⟨some 6, .mv (.tmp 15), none⟩]
def Xn89_5 : C := regL [0, 1, 6, 7] none [⟨some 16, .mv (.tmp 0), none⟩, ⟨some 17, .bin 117 .shr (.tmp 16) (.const (.int .u64 32)), none⟩, ⟨some 7, .mv (.tmp 17), none⟩]
def Xn89_7 : C := regL [0, 1, 6, 7, 8] none [⟨some 18, .mv (.tmp 1), none⟩, ⟨some 19, .bin 117 .and (.tmp 18) (.const (.int .u64 4294967295)), none⟩, ⟨some 8, .mv (.tmp 19), none⟩]
def Xn89_9 : C := regL [0, 1, 6, 7, 8, 9] none [⟨some 20, .mv (.tmp 1), none⟩, ⟨some 21, .bin 117 .shr (.tmp 20) (.const (.int .u64 32)), none⟩, ⟨some 9, .mv (.tmp 21), none⟩]
def Xn89_11 : C := regL [0, 1, 6, 7, 8, 9, 10] none [⟨some 22, .mv (.tmp 6), none⟩, ⟨some 23, .mv (.tmp 8), none⟩, ⟨some 24, .bin 117 .mul (.tmp 22) (.tmp 23), none⟩, ⟨some 10, .mv (.tmp 24), none⟩]
def Xn89_13 : C := regL [0, 1, 6, 7, 9, 11] none [⟨some 25, .mv (.tmp 7), none⟩, ⟨some 26, .mv (.tmp 8), none⟩, ⟨some 27, .bin 117 .mul (.tmp 25) (.tmp 26), none⟩, ⟨some 28, .mv (.tmp 10), none⟩, ⟨some 29, .bin 117 .shr (.tmp 28) (.const (.int .u64 32)), none⟩, ⟨some 30, .bin 117 .add (.tmp 27) (.tmp 29), none⟩, ⟨some 11, .mv (.tmp 30), none⟩]
def Xn89_15 : C := regL [0, 1, 6, 7, 9, 11, 12] none [⟨some 31, .mv (.tmp 11), none⟩, ⟨some 32, .bin 117 .and (.tmp 31) (.const (.int .u64 4294967295)), none⟩, ⟨some 12, .mv (.tmp 32), none⟩]
def Xn89_17 : C := regL [0, 1, 6, 7, 9, 12, 13] none [⟨some 33, .mv (.tmp 11), none⟩, ⟨some 34, .bin 117 .shr (.tmp 33) (.const (.int .u64 32)), none⟩, ⟨some 13, .mv (.tmp 34), none⟩]
def Xn89_19 : C := regL [0, 1, 7, 9, 12, 13] none [⟨some 35, .mv (.tmp 12), none⟩, ⟨some 36, .mv (.tmp 6), none⟩, ⟨some 37, .mv (.tmp 9), none⟩, ⟨some 38, .bin 117 .mul (.tmp 36) (.tmp 37), none⟩, ⟨some 39, .bin 117 .add (.tmp 35) (.tmp 38), none⟩, ⟨some 12, .mv (.tmp 39), none⟩]
def Xn89_21 : C := regL [0, 1, 4] none [⟨some 40, .mv (.tmp 7), none⟩, ⟨some 41, .mv (.tmp 9), none⟩, ⟨some 42, .bin 117 .mul (.tmp 40) (.tmp 41), none⟩, ⟨some 43, .mv (.tmp 13), none⟩, ⟨some 44, .bin 117 .add (.tmp 42) (.tmp 43), none⟩, ⟨some 45, .mv (.tmp 12), none⟩, ⟨some 46, .bin 117 .shr (.tmp 45) (.const (.int .u64 32)), none⟩, ⟨some 47, .bin 117 .add (.tmp 44) (.tmp 46), none⟩, ⟨some 4, .mv (.tmp 47), none⟩]
def Xn89_23 : C := regL [4, 5] none [⟨some 48, .mv (.tmp 0), none⟩, ⟨some 49, .mv (.tmp 1), none⟩, ⟨some 50, .bin 117 .mul (.tmp 48) (.tmp 49), none⟩, ⟨some 5, .mv (.tmp 50), none⟩]
def Xn89_22 : C := .seq Xn89_23 .ret
def Xn89_20 : C := .seq Xn89_21 Xn89_22
def Xn89_18 : C := .seq Xn89_19 Xn89_20
def Xn89_16 : C := .seq Xn89_17 Xn89_18
def Xn89_14 : C := .seq Xn89_15 Xn89_16
def Xn89_12 : C := .seq Xn89_13 Xn89_14
def Xn89_10 : C := .seq Xn89_11 Xn89_12
def Xn89_8 : C := .seq Xn89_9 Xn89_10
def Xn89_6 : C := .seq Xn89_7 Xn89_8
def Xn89_4 : C := .seq Xn89_5 Xn89_6
def Xn89_2 : C := .seq Xn89_3 Xn89_4
def Xn89_0 : C := .seq Xn89_1 Xn89_2
theorem Xt89 : Text Try.prog 89 Xn89_0 51 2 [.t 4, .t 5] := ⟨⟨Try.f89, [], Try.func89, by kernel_rfl, by kernel_rfl, by kernel_rfl, by kernel_rfl⟩⟩
def Xn90_1 : C := regL [0, 1, 2] none [⟨some 6, .mv (.const (.int .u64 0)), none⟩, ⟨some 7, .mv (.const (.int .u64 0)), none⟩]
def Xn90_4 : C := regL [0, 1, 2, 20] none [⟨some 19, .mv (.tmp 2), none⟩, ⟨some 20, .bin 117 .eql (.tmp 19) (.const (.int .u64 0)), none⟩]
def Xn90_6 : C := regL [0, 1, 2] none [⟨some 21, .ld 134 1 false (.global 0), none⟩, ⟨none, .dead, none⟩]
def Xn90_5 : C := .cond (.tmp 20) Xn90_6 .skip
def Xn90_3 : C := .seq Xn90_4 Xn90_5
def Xn90_10 : C := regL [0, 1, 2, 24] none [⟨some 22, .mv (.tmp 2), none⟩, ⟨some 23, .mv (.tmp 0), none⟩, ⟨some 24, .bin 117 .leq (.tmp 22) (.tmp 23), none⟩]
def Xn90_12 : C := regL [0, 1, 2] none [⟨some 25, .ld 134 1 false (.global 1), none⟩, ⟨none, .dead, none⟩]
def Xn90_11 : C := .cond (.tmp 24) Xn90_12 .skip
def Xn90_9 : C := .seq Xn90_10 Xn90_11
def Xn90_16 : C := regL [0, 1, 2, 27] none [⟨some 26, .mv (.tmp 0), none⟩, ⟨some 27, .bin 117 .eql (.tmp 26) (.const (.int .u64 0)), none⟩]
def Xn90_19 : C := regL [6, 7] (some [0, 0, 3, 0, 0, 24, 7, 127]) [⟨some 28, .mv (.tmp 1), none⟩, ⟨some 29, .mv (.tmp 2), none⟩, ⟨some 30, .bin 117 .quo (.tmp 28) (.tmp 29), none⟩, ⟨some 31, .mv (.tmp 1), none⟩, ⟨some 32, .mv (.tmp 2), none⟩, ⟨some 33, .bin 117 .rem (.tmp 31) (.tmp 32), none⟩, ⟨some 6, .mv (.tmp 30), none⟩, ⟨some 7, .mv (.tmp 33), none⟩]
def Xn90_18 : C := .seq Xn90_19 .ret
def Xn90_17 : C := .cond (.tmp 27) Xn90_18 .skip
def Xn90_15 : C := .seq Xn90_16 Xn90_17
def Xn90_23 : C := regL [0, 1, 2, 8] none [⟨some 34, .mv (.tmp 2), none⟩, ⟨some 35, .call 108 [.tmp 34], none⟩, ⟨some 36, .cvt .u64 (.tmp 35), none⟩, ⟨some 8, .mv (.tmp 36), none⟩]
def Xn90_25 : C := regL [0, 1, 2, 8] none [⟨some 37, .mv (.tmp 2), none⟩, ⟨some 38, .mv (.tmp 8), none⟩, ⟨some 39, .bin 117 .shl (.tmp 37) (.tmp 38), none⟩, ⟨some 2, .mv (.tmp 39), none⟩]
def Xn90_27 : C := regL [0, 1, 2, 8, 9] none [⟨some 40, .mv (.tmp 2), none⟩, ⟨some 41, .bin 117 .shr (.tmp 40) (.const (.int .u64 32)), none⟩, ⟨some 9, .mv (.tmp 41), none⟩]
def Xn90_29 : C := regL [0, 1, 2, 8, 9, 10] none [⟨some 42, .mv (.tmp 2), none⟩, ⟨some 43, .bin 117 .and (.tmp 42) (.const (.int .u64 4294967295)), none⟩, ⟨some 10, .mv (.tmp 43), none⟩]
def Xn90_31 : C := regL [1, 2, 8, 9, 10, 11] none [⟨some 44, .mv (.tmp 0), none⟩, ⟨some 45, .mv (.tmp 8), none⟩, ⟨some 46, .bin 117 .shl (.tmp 44) (.tmp 45), none⟩, ⟨some 47, .mv (.tmp 1), none⟩, ⟨some 48, .mv (.tmp 8), none⟩, ⟨some 49, .bin 121 .sub (.const (.int .u64 64)) (.tmp 48), none⟩, ⟨some 50, .bin 117 .shr (.tmp 47) (.tmp 49), none⟩, ⟨some 51, .bin 117 .or (.tmp 46) (.tmp 50), none⟩, ⟨some 11, .mv (.tmp 51), none⟩]
def Xn90_33 : C := regL [2, 8, 9, 10, 11, 12] none [⟨some 52, .mv (.tmp 1), none⟩, ⟨some 53, .mv (.tmp 8), none⟩, ⟨some 54, .bin 117 .shl (.tmp 52) (.tmp 53), none⟩, ⟨some 12, .mv (.tmp 54), none⟩]
def Xn90_35 : C := regL [2, 8, 9, 10, 11, 12, 13] none [⟨some 55, .mv (.tmp 12), none⟩, ⟨some 56, .bin 117 .shr (.tmp 55) (.const (.int .u64 32)), none⟩, ⟨some 13, .mv (.tmp 56), none⟩]
def Xn90_37 : C := regL [2, 8, 9, 10, 11, 13, 14] none [⟨some 57, .mv (.tmp 12), none⟩, ⟨some 58, .bin 117 .and (.tmp 57) (.const (.int .u64 4294967295)), none⟩, ⟨some 14, .mv (.tmp 58), none⟩]
def Xn90_39 : C := regL [2, 8, 9, 10, 11, 13, 14, 15] none [⟨some 59, .mv (.tmp 11), none⟩, ⟨some 60, .mv (.tmp 9), none⟩, ⟨some 61, .bin 117 .quo (.tmp 59) (.tmp 60), none⟩, ⟨some 15, .mv (.tmp 61), none⟩]
def Xn90_41 : C := regL [2, 8, 9, 10, 11, 13, 14, 15, 16] none [⟨some 62, .mv (.tmp 11), none⟩, ⟨some 63, .mv (.tmp 15), none⟩, ⟨some 64, .mv (.tmp 9), none⟩, ⟨some 65, .bin 117 .mul (.tmp 63) (.tmp 64), none⟩, ⟨some 66, .bin 117 .sub (.tmp 62) (.tmp 65), none⟩, ⟨some 16, .mv (.tmp 66), none⟩]
def Xn90_47 : C := regL [2, 8, 9, 10, 11, 13, 14, 15, 16, 78] none [⟨some 67, .mv (.tmp 15), none⟩, ⟨some 68, .bin 117 .geq (.tmp 67) (.const (.int .u64 4294967296)), none⟩, ⟨some 69, .mv (.tmp 68), none⟩, ⟨some 70, .mv (.tmp 15), some (69, false)⟩, ⟨some 71, .mv (.tmp 10), some (69, false)⟩, ⟨some 72, .bin 117 .mul (.tmp 70) (.tmp 71), some (69, false)⟩, ⟨some 73, .mv (.tmp 16), some (69, false)⟩, ⟨some 74, .bin 117 .mul (.const (.int .u64 4294967296)) (.tmp 73), some (69, false)⟩, ⟨some 75, .mv (.tmp 13), some (69, false)⟩, ⟨some 76, .bin 117 .add (.tmp 74) (.tmp 75), some (69, false)⟩, ⟨some 77, .bin 117 .gtr (.tmp 72) (.tmp 76), some (69, false)⟩, ⟨some 78, .pick 69 (.const (.bool true)) (.tmp 77), none⟩]
def Xn90_48 : C := .cond (.tmp 78) .skip (.exit 0)
def Xn90_46 : C := .seq Xn90_47 Xn90_48
def Xn90_53 : C := regL [2, 8, 9, 10, 11, 13, 14, 15, 16] none [⟨some 79, .mv (.tmp 15), none⟩, ⟨some 80, .bin 117 .sub (.tmp 79) (.const (.int .u64 1)), none⟩, ⟨some 15, .mv (.tmp 80), none⟩]
def Xn90_55 : C := regL [2, 8, 9, 10, 11, 13, 14, 15, 16] none [⟨some 81, .mv (.tmp 16), none⟩, ⟨some 82, .mv (.tmp 9), none⟩, ⟨some 83, .bin 117 .add (.tmp 81) (.tmp 82), none⟩, ⟨some 16, .mv (.tmp 83), none⟩]
def Xn90_57 : C := regL [2, 8, 9, 10, 11, 13, 14, 15, 16, 85] none [⟨some 84, .mv (.tmp 16), none⟩, ⟨some 85, .bin 117 .geq (.tmp 84) (.const (.int .u64 4294967296)), none⟩]
def Xn90_58 : C := .cond (.tmp 85) (.exit 0) .skip
def Xn90_56 : C := .seq Xn90_57 Xn90_58
def Xn90_54 : C := .seq Xn90_55 Xn90_56
def Xn90_52 : C := .seq Xn90_53 Xn90_54
def Xn90_51 : C := .block 1 Xn90_52
def Xn90_45 : C := seqL [2, 8, 9, 10, 11, 13, 14, 15, 16] Xn90_46 Xn90_51
/- carried: [15, 16] -/
def Xn90_44 : C := loopL [2, 8, 9, 10, 11, 13, 14, 15, 16] Xn90_45
def Xn90_43 : C := .block 0 Xn90_44
def Xn90_62 : C := regL [2, 8, 9, 10, 14, 15, 17] none [⟨some 86, .mv (.tmp 11), none⟩, ⟨some 87, .bin 117 .mul (.tmp 86) (.const (.int .u64 4294967296)), none⟩, ⟨some 88, .mv (.tmp 13), none⟩, ⟨some 89, .bin 117 .add (.tmp 87) (.tmp 88), none⟩, ⟨some 90, .mv (.tmp 15), none⟩, ⟨some 91, .mv (.tmp 2), none⟩, ⟨some 92, .bin 117 .mul (.tmp 90) (.tmp 91), none⟩, ⟨some 93, .bin 117 .sub (.tmp 89) (.tmp 92), none⟩, ⟨some 17, .mv (.tmp 93), none⟩]
def Xn90_64 : C := regL [2, 8, 9, 10, 14, 15, 17, 18] none [⟨some 94, .mv (.tmp 17), none⟩, ⟨some 95, .mv (.tmp 9), none⟩, ⟨some 96, .bin 117 .quo (.tmp 94) (.tmp 95), none⟩, ⟨some 18, .mv (.tmp 96), none⟩]
def Xn90_66 : C := regL [2, 8, 9, 10, 14, 15, 16, 17, 18] none [⟨some 97, .mv (.tmp 17), none⟩, ⟨some 98, .mv (.tmp 18), none⟩, ⟨some 99, .mv (.tmp 9), none⟩, ⟨some 100, .bin 117 .mul (.tmp 98) (.tmp 99), none⟩, ⟨some 101, .bin 117 .sub (.tmp 97) (.tmp 100), none⟩, ⟨some 16, .mv (.tmp 101), none⟩]
def Xn90_72 : C := regL [2, 8, 9, 10, 14, 15, 16, 17, 18, 113] none [⟨some 102, .mv (.tmp 18), none⟩, ⟨some 103, .bin 117 .geq (.tmp 102) (.const (.int .u64 4294967296)), none⟩, ⟨some 104, .mv (.tmp 103), none⟩, ⟨some 105, .mv (.tmp 18), some (104, false)⟩, ⟨some 106, .mv (.tmp 10), some (104, false)⟩, ⟨some 107, .bin 117 .mul (.tmp 105) (.tmp 106), some (104, false)⟩, ⟨some 108, .mv (.tmp 16), some (104, false)⟩, ⟨some 109, .bin 117 .mul (.const (.int .u64 4294967296)) (.tmp 108), some (104, false)⟩, ⟨some 110, .mv (.tmp 14), some (104, false)⟩, ⟨some 111, .bin 117 .add (.tmp 109) (.tmp 110), some (104, false)⟩, ⟨some 112, .bin 117 .gtr (.tmp 107) (.tmp 111), some (104, false)⟩, ⟨some 113, .pick 104 (.const (.bool true)) (.tmp 112), none⟩]
def Xn90_73 : C := .cond (.tmp 113) .skip (.exit 2)
def Xn90_71 : C := .seq Xn90_72 Xn90_73
def Xn90_78 : C := regL [2, 8, 9, 10, 14, 15, 16, 17, 18] none [⟨some 114, .mv (.tmp 18), none⟩, ⟨some 115, .bin 117 .sub (.tmp 114) (.const (.int .u64 1)), none⟩, ⟨some 18, .mv (.tmp 115), none⟩]
def Xn90_80 : C := regL [2, 8, 9, 10, 14, 15, 16, 17, 18] none [⟨some 116, .mv (.tmp 16), none⟩, ⟨some 117, .mv (.tmp 9), none⟩, ⟨some 118, .bin 117 .add (.tmp 116) (.tmp 117), none⟩, ⟨some 16, .mv (.tmp 118), none⟩]
def Xn90_82 : C := regL [2, 8, 9, 10, 14, 15, 16, 17, 18, 120] none [⟨some 119, .mv (.tmp 16), none⟩, ⟨some 120, .bin 117 .geq (.tmp 119) (.const (.int .u64 4294967296)), none⟩]
def Xn90_83 : C := .cond (.tmp 120) (.exit 2) .skip
def Xn90_81 : C := .seq Xn90_82 Xn90_83
def Xn90_79 : C := .seq Xn90_80 Xn90_81
def Xn90_77 : C := .seq Xn90_78 Xn90_79
def Xn90_76 : C := .block 3 Xn90_77
def Xn90_70 : C := seqL [2, 8, 9, 10, 14, 15, 16, 17, 18] Xn90_71 Xn90_76
/- carried: [16, 18] -/
def Xn90_69 : C := loopL [2, 8, 9, 10, 14, 15, 16, 17, 18] Xn90_70
def Xn90_68 : C := .block 2 Xn90_69
def Xn90_87 : C := regL [6, 7] none [⟨some 121, .mv (.tmp 15), none⟩, ⟨some 122, .bin 117 .mul (.tmp 121) (.const (.int .u64 4294967296)), none⟩, ⟨some 123, .mv (.tmp 18), none⟩, ⟨some 124, .bin 117 .add (.tmp 122) (.tmp 123), none⟩, ⟨some 125, .mv (.tmp 17), none⟩, ⟨some 126, .bin 117 .mul (.tmp 125) (.const (.int .u64 4294967296)), none⟩, ⟨some 127, .mv (.tmp 14), none⟩, ⟨some 128, .bin 117 .add (.tmp 126) (.tmp 127), none⟩, ⟨some 129, .mv (.tmp 18), none⟩, ⟨some 130, .mv (.tmp 2), none⟩, ⟨some 131, .bin 117 .mul (.tmp 129) (.tmp 130), none⟩, ⟨some 132, .bin 117 .sub (.tmp 128) (.tmp 131), none⟩, ⟨some 133, .mv (.tmp 8), none⟩, ⟨some 134, .bin 117 .shr (.tmp 132) (.tmp 133), none⟩, ⟨some 6, .mv (.tmp 124), none⟩, ⟨some 7, .mv (.tmp 134), none⟩]
def Xn90_86 : C := .seq Xn90_87 .ret
def Xn90_67 : C := seqL [2, 8, 14, 15, 17, 18] Xn90_68 Xn90_86
def Xn90_65 : C := .seq Xn90_66 Xn90_67
def Xn90_63 : C := .seq Xn90_64 Xn90_65
def Xn90_61 : C := .seq Xn90_62 Xn90_63
def Xn90_42 : C := seqL [2, 8, 9, 10, 11, 13, 14, 15] Xn90_43 Xn90_61
def Xn90_40 : C := .seq Xn90_41 Xn90_42
def Xn90_38 : C := .seq Xn90_39 Xn90_40
def Xn90_36 : C := .seq Xn90_37 Xn90_38
def Xn90_34 : C := .seq Xn90_35 Xn90_36
def Xn90_32 : C := .seq Xn90_33 Xn90_34
def Xn90_30 : C := .seq Xn90_31 Xn90_32
def Xn90_28 : C := .seq Xn90_29 Xn90_30
def Xn90_26 : C := .seq Xn90_27 Xn90_28
def Xn90_24 : C := .seq Xn90_25 Xn90_26
def Xn90_22 : C := .seq Xn90_23 Xn90_24
def Xn90_14 : C := seqL [0, 1, 2] Xn90_15 Xn90_22
def Xn90_8 : C := seqL [0, 1, 2] Xn90_9 Xn90_14
def Xn90_2 : C := seqL [0, 1, 2] Xn90_3 Xn90_8
def Xn90_0 : C := .seq Xn90_1 Xn90_2
theorem Xt90 : Text Try.prog 90 Xn90_0 135 3 [.t 6, .t 7] := ⟨⟨Try.f90, [], Try.func90, by kernel_rfl, by kernel_rfl, by kernel_rfl, by kernel_rfl⟩⟩
def Xn91_1 : C := regL [0, 1, 2] none [⟨some 6, .mv (.const (.int .i64 0)), none⟩]
def Xn91_3 : C := regL [0, 1, 2, 7] none [⟨some 12, .mv (.tmp 1), none⟩, ⟨some 13, .mv (.tmp 2), none⟩, ⟨some 14, .call 109 [.tmp 12, .tmp 13], none⟩, ⟨some 7, .mv (.tmp 14), none⟩]
def Xn91_5 : C := regL [0, 2, 7, 8] none [⟨some 15, .mv (.tmp 1), none⟩, ⟨some 16, .mv (.tmp 7), none⟩, ⟨some 17, .mv (.tmp 2), none⟩, ⟨some 18, .bin 2 .mul (.tmp 16) (.tmp 17), none⟩, ⟨some 19, .bin 2 .sub (.tmp 15) (.tmp 18), none⟩, ⟨some 8, .mv (.tmp 19), none⟩]
def Xn91_7 : C := regL [0, 2, 7, 8, 9, 10] none [⟨some 9, .mv (.const (.int .i64 0)), none⟩, ⟨some 10, .mv (.const (.int .i64 0)), none⟩]
def Xn91_10 : C := regL [0, 2, 7, 8, 9, 10, 11] none [⟨some 11, .mv (.const (.int .i64 30)), none⟩]
def Xn91_15 : C := regL [0, 2, 7, 8, 9, 10, 11, 21] none [⟨some 20, .mv (.tmp 11), none⟩, ⟨some 21, .bin 3 .geq (.tmp 20) (.const (.int .i64 0)), none⟩]
def Xn91_16 : C := .cond (.tmp 21) .skip (.exit 0)
def Xn91_14 : C := .seq Xn91_15 Xn91_16
def Xn91_22 : C := regL [0, 2, 7, 8, 9, 10, 11] none [⟨some 24, .mv (.tmp 9), none⟩, ⟨some 25, .bin 2 .mul (.const (.int .i64 2)) (.tmp 24), none⟩, ⟨some 26, .mv (.tmp 10), none⟩, ⟨some 27, .bin 2 .mul (.const (.int .i64 2)) (.tmp 26), none⟩, ⟨some 9, .mv (.tmp 25), none⟩, ⟨some 10, .mv (.tmp 27), none⟩]
def Xn91_25 : C := regL [0, 2, 7, 8, 9, 10, 11, 33] none [⟨some 28, .mv (.tmp 0), none⟩, ⟨some 29, .mv (.tmp 11), none⟩, ⟨some 30, .cvt .u64 (.tmp 29), none⟩, ⟨some 31, .bin 2 .shr (.tmp 28) (.tmp 30), none⟩, ⟨some 32, .bin 2 .rem (.tmp 31) (.const (.int .i64 2)), none⟩, ⟨some 33, .bin 2 .eql (.tmp 32) (.const (.int .i64 1)), none⟩]
def Xn91_27 : C := regL [0, 2, 7, 8, 9, 10, 11] none [⟨some 34, .mv (.tmp 10), none⟩, ⟨some 35, .mv (.tmp 8), none⟩, ⟨some 36, .bin 2 .add (.tmp 34) (.tmp 35), none⟩, ⟨some 10, .mv (.tmp 36), none⟩]
def Xn91_26 : C := .cond (.tmp 33) Xn91_27 .skip
def Xn91_24 : C := .seq Xn91_25 Xn91_26
def Xn91_33 : C := regL [0, 2, 7, 8, 9, 10, 11, 39] none [⟨some 37, .mv (.tmp 10), none⟩, ⟨some 38, .mv (.tmp 2), none⟩, ⟨some 39, .bin 2 .geq (.tmp 37) (.tmp 38), none⟩]
def Xn91_34 : C := .cond (.tmp 39) .skip (.exit 2)
def Xn91_32 : C := .seq Xn91_33 Xn91_34
def Xn91_39 : C := regL [0, 2, 7, 8, 9, 10, 11] none [⟨some 40, .mv (.tmp 10), none⟩, ⟨some 41, .mv (.tmp 2), none⟩, ⟨some 42, .bin 2 .sub (.tmp 40) (.tmp 41), none⟩, ⟨some 10, .mv (.tmp 42), none⟩]
def Xn91_40 : C := regL [0, 2, 7, 8, 9, 10, 11] none [⟨some 43, .mv (.tmp 9), none⟩, ⟨some 44, .bin 2 .add (.tmp 43) (.const (.int .i64 1)), none⟩, ⟨some 9, .mv (.tmp 44), none⟩]
def Xn91_38 : C := .seq Xn91_39 Xn91_40
def Xn91_37 : C := .block 3 Xn91_38
def Xn91_31 : C := seqL [0, 2, 7, 8, 9, 10, 11] Xn91_32 Xn91_37
/- carried: [9, 10] -/
def Xn91_30 : C := loopL [0, 2, 7, 8, 9, 10, 11] Xn91_31
def Xn91_29 : C := .block 2 Xn91_30
def Xn91_23 : C := seqL [0, 2, 7, 8, 9, 10, 11] Xn91_24 Xn91_29
def Xn91_21 : C := .seq Xn91_22 Xn91_23
def Xn91_20 : C := .block 1 Xn91_21
def Xn91_41 : C := regL [0, 2, 7, 8, 9, 10, 11] none [⟨some 22, .mv (.tmp 11), none⟩, ⟨some 23, .bin 3 .sub (.tmp 22) (.const (.int .i64 1)), none⟩, ⟨some 11, .mv (.tmp 23), none⟩]
def Xn91_19 : C := seqL [0, 2, 7, 8, 9, 10, 11] Xn91_20 Xn91_41
def Xn91_13 : C := seqL [0, 2, 7, 8, 9, 10, 11] Xn91_14 Xn91_19
/- carried: [9, 10, 11] -/
def Xn91_12 : C := loopL [0, 2, 7, 8, 9, 10, 11] Xn91_13
def Xn91_11 : C := .block 0 Xn91_12
def Xn91_9 : C := .seq Xn91_10 Xn91_11
def Xn91_43 : C := regL [6] none [⟨some 45, .mv (.tmp 7), none⟩, ⟨some 46, .mv (.tmp 0), none⟩, ⟨some 47, .bin 2 .mul (.tmp 45) (.tmp 46), none⟩, ⟨some 48, .mv (.tmp 9), none⟩, ⟨some 49, .bin 2 .add (.tmp 47) (.tmp 48), none⟩, ⟨some 6, .mv (.tmp 49), none⟩]
def Xn91_42 : C := .seq Xn91_43 .ret
def Xn91_8 : C := seqL [0, 7, 9] Xn91_9 Xn91_42
def Xn91_6 : C := .seq Xn91_7 Xn91_8
def Xn91_4 : C := .seq Xn91_5 Xn91_6
def Xn91_2 : C := .seq Xn91_3 Xn91_4
def Xn91_0 : C := .seq Xn91_1 Xn91_2
theorem Xt91 : Text Try.prog 91 Xn91_0 50 3 [.t 6] := ⟨⟨Try.f91, [], Try.func91, by kernel_rfl, by kernel_rfl, by kernel_rfl, by kernel_rfl⟩⟩
def Xn92_1 : C := regL [0] none [⟨some 2, .mv (.const (.slice none 0 0)), none⟩]
def Xn92_4 : C := regL [0, 4] none [⟨some 3, .mv (.tmp 0), none⟩, ⟨some 4, .isn false (.tmp 3), none⟩]
def Xn92_7 : C := regL [2] none [⟨some 2, .mv (.const (.slice none 0 0)), none⟩]
def Xn92_6 : C := .seq Xn92_7 .ret
def Xn92_5 : C := .cond (.tmp 4) Xn92_6 .skip
def Xn92_3 : C := .seq Xn92_4 Xn92_5
def Xn92_11 : C := regL [2] none [⟨some 5, .bls 35 2 0 (.agg #[.int .i64 0, .int .i64 0]) [], none⟩, ⟨some 6, .mv (.tmp 0), none⟩, ⟨some 7, .app 35 2 16 (.tmp 5) (.tmp 6), none⟩, ⟨some 2, .mv (.tmp 7), none⟩]
def Xn92_10 : C := .seq Xn92_11 .ret
def Xn92_2 : C := seqL [0] Xn92_3 Xn92_10
def Xn92_0 : C := .seq Xn92_1 Xn92_2
theorem Xt92 : Text Try.prog 92 Xn92_0 8 1 [.t 2] := ⟨⟨Try.f92, [], Try.func92, by kernel_rfl, by kernel_rfl, by kernel_rfl, by kernel_rfl⟩⟩
def Xn93_1 : C := regL [0, 1, 2, 3, 5] none [⟨some 5, .mv (.const (.int .i64 1)), none⟩]
def Xn93_6 : C := regL [0, 1, 2, 3, 5, 8] none [⟨some 7, .mv (.tmp 5), none⟩, ⟨some 8, .bin 2 .leq (.tmp 7) (.const (.int .i64 15)), none⟩]
def Xn93_7 : C := .cond (.tmp 8) .skip (.exit 0)
def Xn93_5 : C := .seq Xn93_6 Xn93_7
def Xn93_13 : C := regL [0, 1, 2, 3, 5, 6] none [⟨some 11, .fa 0 (.tmp 1), none⟩, ⟨some 12, .ld 22 1 false (.tmp 11), none⟩, ⟨some 13, .ld 3 1 false (.tmp 2), none⟩, ⟨some 14, .ia 1 (.tmp 12) (.tmp 13), none⟩, ⟨some 15, .ld 2 1 false (.tmp 14), none⟩, ⟨some 16, .mv (.tmp 5), none⟩, ⟨some 17, .bin 2 .mul (.tmp 15) (.tmp 16), none⟩, ⟨some 18, .bin 2 .quo (.tmp 17) (.const (.int .i64 16)), none⟩, ⟨some 6, .mv (.tmp 18), none⟩]
def Xn93_15 : C := regL [0, 1, 2, 3, 5, 29] (some [0, 0, 0, 0, 14, 0, 0, 0, 254, 511, 1023]) [⟨some 19, .mv (.tmp 0), none⟩, ⟨some 20, .ld 24 6 true (.tmp 1), none⟩, ⟨some 21, .ld 3 1 false (.tmp 2), none⟩, ⟨some 22, .mv (.tmp 6), none⟩, ⟨some 23, .call 49 [.tmp 20, .tmp 21, .tmp 22], none⟩, ⟨some 24, .ld 25 1 false (.tmp 3), none⟩, ⟨some 25, .ld 3 1 false (.tmp 2), none⟩, ⟨some 26, .mv (.tmp 6), none⟩, ⟨some 27, .call 50 [.tmp 23, .tmp 24, .tmp 25, .tmp 26], none⟩, ⟨some 28, .callv (.tmp 19) [.tmp 27], none⟩, ⟨some 29, .un .not (.tmp 28), none⟩]
def Xn93_16 : C := .cond (.tmp 29) .ret .skip
def Xn93_14 : C := .seq Xn93_15 Xn93_16
def Xn93_12 : C := .seq Xn93_13 Xn93_14
def Xn93_11 : C := .block 1 Xn93_12
def Xn93_19 : C := regL [0, 1, 2, 3, 5] none [⟨some 9, .mv (.tmp 5), none⟩, ⟨some 10, .bin 2 .add (.tmp 9) (.const (.int .i64 1)), none⟩, ⟨some 5, .mv (.tmp 10), none⟩]
def Xn93_10 : C := seqL [0, 1, 2, 3, 5] Xn93_11 Xn93_19
def Xn93_4 : C := seqL [0, 1, 2, 3, 5] Xn93_5 Xn93_10
/- carried: [5] -/
def Xn93_3 : C := loopL [0, 1, 2, 3, 5] Xn93_4
def Xn93_2 : C := .block 0 Xn93_3
def Xn93_0 : C := .seq Xn93_1 Xn93_2
theorem Xt93 : Text Try.prog 93 Xn93_0 30 4 [] := ⟨⟨Try.f93, [], Try.func93, by kernel_rfl, by kernel_rfl, by kernel_rfl, by kernel_rfl⟩⟩
def Xn94_1 : C := regL [1, 2] none [⟨some 2, .box true 24 (.tmp 0), none⟩, ⟨some 4, .mv (.const (.int .i64 0)), none⟩]
def Xn94_3 : C := regL [1, 2, 5] none [⟨some 5, .mv (.const (.int .i64 0)), none⟩]
def Xn94_6 : C := regL [1, 2, 5, 6] none [⟨some 6, .mv (.const (.int .i64 0)), none⟩]
def Xn94_11 : C := regL [1, 2, 5, 6, 9] none [⟨some 7, .mv (.tmp 6), none⟩, ⟨some 8, .mv (.tmp 1), none⟩, ⟨some 9, .bin 3 .lss (.tmp 7) (.tmp 8), none⟩]
def Xn94_12 : C := .cond (.tmp 9) .skip (.exit 0)
def Xn94_10 : C := .seq Xn94_11 Xn94_12
def Xn94_17 : C := regL [1, 2, 5, 6] none [⟨some 12, .mv (.tmp 5), none⟩, ⟨some 13, .fa 0 (.tmp 2), none⟩, ⟨some 14, .ld 22 1 false (.tmp 13), none⟩, ⟨some 15, .mv (.tmp 6), none⟩, ⟨some 16, .ia 1 (.tmp 14) (.tmp 15), none⟩, ⟨some 17, .ld 2 1 false (.tmp 16), none⟩, ⟨some 18, .bin 2 .add (.tmp 12) (.tmp 17), none⟩, ⟨some 5, .mv (.tmp 18), none⟩]
def Xn94_16 : C := .block 1 Xn94_17
def Xn94_18 : C := regL [1, 2, 5, 6] none [⟨some 10, .mv (.tmp 6), none⟩, ⟨some 11, .bin 3 .add (.tmp 10) (.const (.int .i64 1)), none⟩, ⟨some 6, .mv (.tmp 11), none⟩]
def Xn94_15 : C := seqL [1, 2, 5, 6] Xn94_16 Xn94_18
def Xn94_9 : C := seqL [1, 2, 5, 6] Xn94_10 Xn94_15
/- carried: [5, 6] -/
def Xn94_8 : C := loopL [1, 2, 5, 6] Xn94_9
def Xn94_7 : C := .block 0 Xn94_8
def Xn94_5 : C := .seq Xn94_6 Xn94_7
def Xn94_20 : C := regL [4] none [⟨some 19, .mv (.tmp 5), none⟩, ⟨some 4, .mv (.tmp 19), none⟩]
def Xn94_19 : C := .seq Xn94_20 .ret
def Xn94_4 : C := seqL [5] Xn94_5 Xn94_19
def Xn94_2 : C := .seq Xn94_3 Xn94_4
def Xn94_0 : C := .seq Xn94_1 Xn94_2
theorem Xt94 : Text Try.prog 94 Xn94_0 20 2 [.t 4] := ⟨⟨Try.f94, [2], Try.func94, by kernel_rfl, by kernel_rfl, by kernel_rfl, by kernel_rfl⟩⟩
def Xn95_1 : C := regL [1, 2, 3, 4, 5] none [⟨some 5, .box true 24 (.tmp 0), none⟩, ⟨some 10, .mv (.const (.int .i64 0)), none⟩]
def Xn95_3 : C := regL [1, 2, 3, 4, 5, 11] none [⟨some 11, .mv (.const (.int .i64 0)), none⟩]
def Xn95_6 : C := regL [1, 2, 3, 4, 5, 11, 12] none [⟨some 12, .mv (.const (.int .i64 0)), none⟩]
def Xn95_11 : C := regL [1, 2, 3, 4, 5, 11, 12, 16] none [⟨some 13, .mv (.tmp 12), none⟩, ⟨some 14, .mv (.tmp 1), none⟩, ⟨some 15, .len (.tmp 14), none⟩, ⟨some 16, .bin 3 .lss (.tmp 13) (.tmp 15), none⟩]
def Xn95_12 : C := .cond (.tmp 16) .skip (.exit 0)
def Xn95_10 : C := .seq Xn95_11 Xn95_12
def Xn95_17 : C := regL [1, 2, 3, 4, 5, 11, 12] (some [0, 0, 0, 6, 14, 30, 0, 64, 0, 448, 960, 0, 0, 0, 0, 24576, 57344, 122880, 258048, 0, 0, 1572864, 4190208, 8388544, 16777214, 33554431, 67108863]) [⟨some 19, .mv (.tmp 11), none⟩, ⟨some 20, .mv (.tmp 1), none⟩, ⟨some 21, .mv (.tmp 12), none⟩, ⟨some 22, .ia 2 (.tmp 20) (.tmp 21), none⟩, ⟨some 23, .fa 1 (.tmp 22), none⟩, ⟨some 24, .ld 2 1 false (.tmp 23), none⟩, ⟨some 25, .fa 0 (.tmp 5), none⟩, ⟨some 26, .ld 22 1 false (.tmp 25), none⟩, ⟨some 27, .mv (.tmp 2), none⟩, ⟨some 28, .ia 1 (.tmp 26) (.tmp 27), none⟩, ⟨some 29, .ld 2 1 false (.tmp 28), none⟩, ⟨some 30, .mv (.tmp 3), none⟩, ⟨some 31, .mv (.tmp 4), none⟩, ⟨some 32, .mv (.tmp 1), none⟩, ⟨some 33, .mv (.tmp 12), none⟩, ⟨some 34, .ia 2 (.tmp 32) (.tmp 33), none⟩, ⟨some 35, .fa 0 (.tmp 34), none⟩, ⟨some 36, .ld 2 1 false (.tmp 35), none⟩, ⟨some 37, .bin 2 .sub (.tmp 31) (.tmp 36), none⟩, ⟨some 38, .ld 24 6 true (.tmp 5), none⟩, ⟨some 39, .mv (.tmp 2), none⟩, ⟨some 40, .call 94 [.tmp 38, .tmp 39], none⟩, ⟨some 41, .bin 2 .sub (.tmp 37) (.tmp 40), none⟩, ⟨some 42, .call 110 [.tmp 29, .tmp 30, .tmp 41], none⟩, ⟨some 43, .bin 2 .mul (.tmp 24) (.tmp 42), none⟩, ⟨some 44, .bin 2 .add (.tmp 19) (.tmp 43), none⟩, ⟨some 11, .mv (.tmp 44), none⟩]
def Xn95_16 : C := .block 1 Xn95_17
def Xn95_18 : C := regL [1, 2, 3, 4, 5, 11, 12] none [⟨some 17, .mv (.tmp 12), none⟩, ⟨some 18, .bin 3 .add (.tmp 17) (.const (.int .i64 1)), none⟩, ⟨some 12, .mv (.tmp 18), none⟩]
def Xn95_15 : C := seqL [1, 2, 3, 4, 5, 11, 12] Xn95_16 Xn95_18
def Xn95_9 : C := seqL [1, 2, 3, 4, 5, 11, 12] Xn95_10 Xn95_15
/- carried: [11, 12] -/
def Xn95_8 : C := loopL [1, 2, 3, 4, 5, 11, 12] Xn95_9
def Xn95_7 : C := .block 0 Xn95_8
def Xn95_5 : C := .seq Xn95_6 Xn95_7
def Xn95_20 : C := regL [10] none [⟨some 45, .mv (.tmp 11), none⟩, ⟨some 10, .mv (.tmp 45), none⟩]
def Xn95_19 : C := .seq Xn95_20 .ret
def Xn95_4 : C := seqL [11] Xn95_5 Xn95_19
def Xn95_2 : C := .seq Xn95_3 Xn95_4
def Xn95_0 : C := .seq Xn95_1 Xn95_2
theorem Xt95 : Text Try.prog 95 Xn95_0 46 5 [.t 10] := ⟨⟨Try.f95, [5], Try.func95, by kernel_rfl, by kernel_rfl, by kernel_rfl, by kernel_rfl⟩⟩
def Xn96_1 : C := regL [1, 2, 3, 4] none [⟨some 4, .box true 29 (.tmp 0), none⟩, ⟨some 8, .mv (.const (.bool false)), none⟩]
def Xn96_3 : C := regL [8] none [⟨some 9, .mv (.tmp 1), none⟩, ⟨some 10, .un .not (.tmp 9), none⟩, ⟨some 11, .mv (.tmp 10), none⟩, ⟨some 12, .mv (.tmp 2), some (11, false)⟩, ⟨some 13, .fa 0 (.tmp 4), some (11, false)⟩, ⟨some 14, .ld 2 1 false (.tmp 13), some (11, false)⟩, ⟨some 15, .bin 2 .gtr (.tmp 12) (.tmp 14), some (11, false)⟩, ⟨some 16, .pick 11 (.const (.bool true)) (.tmp 15), none⟩, ⟨some 17, .mv (.tmp 16), none⟩, ⟨some 18, .mv (.tmp 2), some (17, false)⟩, ⟨some 19, .fa 0 (.tmp 4), some (17, false)⟩, ⟨some 20, .ld 2 1 false (.tmp 19), some (17, false)⟩, ⟨some 21, .bin 2 .eql (.tmp 18) (.tmp 20), some (17, false)⟩, ⟨some 22, .mv (.tmp 21), some (17, false)⟩, ⟨some 23, .mv (.tmp 3), some (22, true)⟩, ⟨some 24, .fa 3 (.tmp 4), some (22, true)⟩, ⟨some 25, .ld 2 1 false (.tmp 24), some (22, true)⟩, ⟨some 26, .bin 2 .lss (.tmp 23) (.tmp 25), some (22, true)⟩, ⟨some 27, .pick 22 (.tmp 26) (.const (.bool false)), some (17, false)⟩, ⟨some 28, .pick 17 (.const (.bool true)) (.tmp 27), none⟩, ⟨some 8, .mv (.tmp 28), none⟩]
def Xn96_2 : C := .seq Xn96_3 .ret
def Xn96_0 : C := .seq Xn96_1 Xn96_2
theorem Xt96 : Text Try.prog 96 Xn96_0 29 4 [.t 8] := ⟨⟨Try.f96, [4], Try.func96, by kernel_rfl, by kernel_rfl, by kernel_rfl, by kernel_rfl⟩⟩
def Xn97_1 : C := regL [1, 2, 3, 4, 8] none [⟨some 4, .box true 24 (.tmp 0), none⟩, ⟨some 8, .alc 29 (.agg #[.int .i64 0, .int .i64 0, .int .i64 0, .int .i64 0]), none⟩]
def Xn97_3 : C := regL [1, 2, 3, 4, 8, 9] none [⟨some 16, .bld (.agg #[.int .i64 0, .int .i64 0, .int .i64 0, .int .i64 0]) [], none⟩, ⟨some 9, .alc 29 (.agg #[.int .i64 0, .int .i64 0, .int .i64 0, .int .i64 0]), none⟩, ⟨none, .st 29 4 (.tmp 9) (.tmp 16), none⟩]
def Xn97_5 : C := regL [1, 2, 3, 4, 8, 9, 10] none [⟨some 10, .mv (.const (.bool false)), none⟩]
def Xn97_7 : C := regL [1, 2, 3, 4, 8, 9, 10, 11] none [⟨some 11, .mv (.const (.int .i64 0)), none⟩]
def Xn97_10 : C := regL [1, 2, 3, 4, 8, 9, 10, 11, 17] none [⟨some 17, .mv (.tmp 3), none⟩]
def Xn97_12 : C := regL [1, 2, 3, 4, 8, 9, 10, 11] none [⟨some 18, .fa 0 (.tmp 4), none⟩, ⟨some 19, .ld 22 1 false (.tmp 18), none⟩, ⟨some 20, .mv (.tmp 2), none⟩, ⟨some 21, .ia 1 (.tmp 19) (.tmp 20), none⟩, ⟨some 22, .ld 2 1 false (.tmp 21), none⟩, ⟨some 11, .mv (.tmp 22), none⟩]
def Xn97_11 : C := .cond (.tmp 17) Xn97_12 .skip
def Xn97_9 : C := .seq Xn97_10 Xn97_11
def Xn97_16 : C := regL [1, 2, 3, 4, 8, 9, 10, 11, 12] none [⟨some 12, .mv (.const (.int .i64 0)), none⟩]
def Xn97_21 : C := regL [1, 2, 3, 4, 8, 9, 10, 11, 12, 26] none [⟨some 23, .mv (.tmp 12), none⟩, ⟨some 24, .mv (.tmp 1), none⟩, ⟨some 25, .len (.tmp 24), none⟩, ⟨some 26, .bin 3 .lss (.tmp 23) (.tmp 25), none⟩]
def Xn97_22 : C := .cond (.tmp 26) .skip (.exit 0)
def Xn97_20 : C := .seq Xn97_21 Xn97_22
def Xn97_28 : C := regL [1, 2, 3, 4, 8, 9, 10, 11, 12, 13] none [⟨some 13, .mv (.const (.int .i64 0)), none⟩]
def Xn97_33 : C := regL [1, 2, 3, 4, 8, 9, 10, 11, 12, 13, 30] none [⟨some 29, .mv (.tmp 13), none⟩, ⟨some 30, .bin 3 .lss (.tmp 29) (.const (.int .i64 2)), none⟩]
def Xn97_34 : C := .cond (.tmp 30) .skip (.exit 2)
def Xn97_32 : C := .seq Xn97_33 Xn97_34
def Xn97_40 : C := regL [1, 2, 3, 4, 8, 9, 10, 11, 12, 13, 14] (some [0, 0, 3, 0, 0, 24, 56, 120, 255, 0, 512, 0, 3584, 7680, 15872, 0, 65024, 130560, 262143, 524287]) [⟨some 33, .ld 24 6 true (.tmp 4), none⟩, ⟨some 34, .mv (.tmp 2), none⟩, ⟨some 35, .call 94 [.tmp 33, .tmp 34], none⟩, ⟨some 36, .mv (.tmp 1), none⟩, ⟨some 37, .mv (.tmp 12), none⟩, ⟨some 38, .ia 2 (.tmp 36) (.tmp 37), none⟩, ⟨some 39, .fa 0 (.tmp 38), none⟩, ⟨some 40, .ld 2 1 false (.tmp 39), none⟩, ⟨some 41, .bin 2 .add (.tmp 35) (.tmp 40), none⟩, ⟨some 42, .fa 0 (.tmp 4), none⟩, ⟨some 43, .ld 22 1 false (.tmp 42), none⟩, ⟨some 44, .mv (.tmp 2), none⟩, ⟨some 45, .ia 1 (.tmp 43) (.tmp 44), none⟩, ⟨some 46, .ld 2 1 false (.tmp 45), none⟩, ⟨some 47, .bls 2 1 2 (.int .i64 0) [(0, 1, .const (.int .i64 0)), (1, 1, .tmp 46)], none⟩, ⟨some 48, .mv (.tmp 13), none⟩, ⟨some 49, .ia 1 (.tmp 47) (.tmp 48), none⟩, ⟨some 50, .ld 2 1 false (.tmp 49), none⟩, ⟨some 51, .bin 2 .add (.tmp 41) (.tmp 50), none⟩, ⟨some 14, .mv (.tmp 51), none⟩]
def Xn97_42 : C := regL [1, 2, 3, 4, 8, 9, 10, 11, 12, 13, 14, 15] none [⟨some 52, .ld 24 6 true (.tmp 4), none⟩, ⟨some 53, .mv (.tmp 1), none⟩, ⟨some 54, .mv (.tmp 2), none⟩, ⟨some 55, .mv (.tmp 3), none⟩, ⟨some 56, .mv (.tmp 14), none⟩, ⟨some 57, .call 111 [.tmp 52, .tmp 53, .tmp 54, .tmp 55, .tmp 56], none⟩, ⟨some 15, .mv (.tmp 57), none⟩]
def Xn97_44 : C := regL [1, 2, 3, 4, 8, 9, 10, 11, 12, 13, 14, 15, 62] none [⟨some 58, .ld 29 4 true (.tmp 9), none⟩, ⟨some 59, .mv (.tmp 10), none⟩, ⟨some 60, .mv (.tmp 15), none⟩, ⟨some 61, .mv (.tmp 14), none⟩, ⟨some 62, .call 96 [.tmp 58, .tmp 59, .tmp 60, .tmp 61], none⟩]
def Xn97_47 : C := regL [1, 2, 3, 4, 8, 9, 11, 12, 13] none [⟨some 63, .mv (.tmp 15), none⟩, ⟨some 64, .mv (.tmp 2), none⟩, ⟨some 65, .mv (.tmp 11), none⟩, ⟨some 66, .mv (.tmp 14), none⟩, ⟨some 67, .bld (.agg #[.int .i64 0, .int .i64 0, .int .i64 0, .int .i64 0]) [(0, 1, .tmp 63), (1, 1, .tmp 64), (2, 1, .tmp 65), (3, 1, .tmp 66)], none⟩, ⟨none, .st 29 4 (.tmp 9) (.tmp 67), none⟩]
def Xn97_48 : C := regL [1, 2, 3, 4, 8, 9, 10, 11, 12, 13] none [⟨some 10, .mv (.const (.bool true)), none⟩]
def Xn97_46 : C := .seq Xn97_47 Xn97_48
def Xn97_45 : C := .cond (.tmp 62) Xn97_46 .skip
def Xn97_43 : C := .seq Xn97_44 Xn97_45
def Xn97_41 : C := .seq Xn97_42 Xn97_43
def Xn97_39 : C := .seq Xn97_40 Xn97_41
def Xn97_38 : C := .block 3 Xn97_39
def Xn97_50 : C := regL [1, 2, 3, 4, 8, 9, 10, 11, 12, 13] none [⟨some 31, .mv (.tmp 13), none⟩, ⟨some 32, .bin 3 .add (.tmp 31) (.const (.int .i64 1)), none⟩, ⟨some 13, .mv (.tmp 32), none⟩]
def Xn97_37 : C := seqL [1, 2, 3, 4, 8, 9, 10, 11, 12, 13] Xn97_38 Xn97_50
def Xn97_31 : C := seqL [1, 2, 3, 4, 8, 9, 10, 11, 12, 13] Xn97_32 Xn97_37
/- carried: [10, 13] -/
def Xn97_30 : C := loopL [1, 2, 3, 4, 8, 9, 10, 11, 12, 13] Xn97_31
def Xn97_29 : C := .block 2 Xn97_30
def Xn97_27 : C := .seq Xn97_28 Xn97_29
def Xn97_26 : C := .block 1 Xn97_27
def Xn97_51 : C := regL [1, 2, 3, 4, 8, 9, 10, 11, 12] none [⟨some 27, .mv (.tmp 12), none⟩, ⟨some 28, .bin 3 .add (.tmp 27) (.const (.int .i64 1)), none⟩, ⟨some 12, .mv (.tmp 28), none⟩]
def Xn97_25 : C := seqL [1, 2, 3, 4, 8, 9, 10, 11, 12] Xn97_26 Xn97_51
def Xn97_19 : C := seqL [1, 2, 3, 4, 8, 9, 10, 11, 12] Xn97_20 Xn97_25
/- carried: [10, 12] -/
def Xn97_18 : C := loopL [1, 2, 3, 4, 8, 9, 10, 11, 12] Xn97_19
def Xn97_17 : C := .block 0 Xn97_18
def Xn97_15 : C := .seq Xn97_16 Xn97_17
def Xn97_53 : C := regL [8] none [⟨some 68, .ld 29 4 true (.tmp 9), none⟩, ⟨none, .st 29 4 (.tmp 8) (.tmp 68), none⟩]
def Xn97_52 : C := .seq Xn97_53 .ret
def Xn97_14 : C := seqL [8, 9] Xn97_15 Xn97_52
def Xn97_8 : C := seqL [1, 2, 3, 4, 8, 9, 10, 11] Xn97_9 Xn97_14
def Xn97_6 : C := .seq Xn97_7 Xn97_8
def Xn97_4 : C := .seq Xn97_5 Xn97_6
def Xn97_2 : C := .seq Xn97_3 Xn97_4
def Xn97_0 : C := .seq Xn97_1 Xn97_2
theorem Xt97 : Text Try.prog 97 Xn97_0 69 4 [.c 8 4 true] := ⟨⟨Try.f97, [4], Try.func97, by kernel_rfl, by kernel_rfl, by kernel_rfl, by kernel_rfl⟩⟩
/- carried: [4, 74] -/
/- carried: [7, 8] -/
/- carried: [7, 8] -/
/- carried: [6] -/
def Xn104_1 : C := regL [0] none [⟨some 2, .mv (.const (.bool false)), none⟩]
def Xn104_3 : C := regL [2] none [⟨some 3, .mv (.tmp 0), none⟩, ⟨some 4, .mv (.tmp 0), none⟩, ⟨some 5, .bin 2 .neq (.tmp 3) (.tmp 4), none⟩, ⟨some 2, .mv (.tmp 5), none⟩]
def Xn104_2 : C := .seq Xn104_3 .ret
def Xn104_0 : C := .seq Xn104_1 Xn104_2
theorem Xt104 : Text Try.prog 104 Xn104_0 6 1 [.t 2] := ⟨⟨Try.f104, [], Try.func104, by kernel_rfl, by kernel_rfl, by kernel_rfl, by kernel_rfl⟩⟩
/- carried: [3] -/
/- carried: [3, 4] -/
def Xn107_1 : C := regL [0, 2, 8, 9, 10] none [⟨some 8, .ld 25 1 false (.tmp 1), none⟩, ⟨some 9, .len (.tmp 8), none⟩, ⟨some 10, .mv (.const (.int .i64 0)), none⟩]
def Xn107_5 : C := regL [0, 2, 8, 9, 10, 11] none [⟨some 11, .bin 3 .lss (.tmp 10) (.tmp 9), none⟩]
def Xn107_7 : C := .cond (.tmp 11) .skip (.exit 0)
def Xn107_13 : C := regL [0, 2, 5, 8, 9, 10] none [⟨some 12, .ia 2 (.tmp 8) (.tmp 10), none⟩, ⟨some 13, .ld 35 2 true (.tmp 12), none⟩, ⟨some 5, .alc 35 (.agg #[.int .i64 0, .int .i64 0]), none⟩, ⟨none, .st 35 2 (.tmp 5) (.tmp 13), none⟩]
def Xn107_15 : C := regL [0, 2, 5, 8, 9, 10, 15, 16, 17] none [⟨some 14, .fa 1 (.tmp 2), none⟩, ⟨some 15, .ld 22 1 false (.tmp 14), none⟩, ⟨some 16, .len (.tmp 15), none⟩, ⟨some 17, .mv (.const (.int .i64 0)), none⟩]
def Xn107_19 : C := regL [0, 2, 5, 8, 9, 10, 15, 16, 17, 18] none [⟨some 18, .bin 3 .lss (.tmp 17) (.tmp 16), none⟩]
def Xn107_21 : C := .cond (.tmp 18) .skip (.exit 2)
def Xn107_27 : C := regL [0, 2, 5, 7, 8, 9, 10, 15, 16, 17] none [⟨some 19, .ia 1 (.tmp 15) (.tmp 17), none⟩, ⟨some 20, .ld 2 1 false (.tmp 19), none⟩, ⟨some 7, .mv (.tmp 20), none⟩]
def Xn107_29 : C := regL [0, 2, 5, 8, 9, 10, 15, 16, 17, 27] none [⟨some 21, .mv (.tmp 0), none⟩, ⟨some 22, .mv (.tmp 7), none⟩, ⟨some 23, .fa 0 (.tmp 5), none⟩, ⟨some 24, .ld 2 1 false (.tmp 23), none⟩, ⟨some 25, .bin 2 .add (.tmp 22) (.tmp 24), none⟩, ⟨some 26, .callv (.tmp 21) [.tmp 25], none⟩, ⟨some 27, .un .not (.tmp 26), none⟩]
def Xn107_30 : C := .cond (.tmp 27) .ret .skip
def Xn107_28 : C := .seq Xn107_29 Xn107_30
def Xn107_26 : C := .seq Xn107_27 Xn107_28
def Xn107_25 : C := .block 3 Xn107_26
def Xn107_33 : C := regL [0, 2, 5, 8, 9, 10, 15, 16, 17] none [⟨some 28, .bin 3 .add (.tmp 17) (.const (.int .i64 1)), none⟩, ⟨some 17, .mv (.tmp 28), none⟩]
def Xn107_24 : C := seqL [0, 2, 5, 8, 9, 10, 15, 16, 17] Xn107_25 Xn107_33
def Xn107_20 : C := seqL [0, 2, 5, 8, 9, 10, 15, 16, 17] Xn107_21 Xn107_24
def Xn107_18 : C := .seq Xn107_19 Xn107_20
/- carried: [17] -/
def Xn107_17 : C := loopL [0, 2, 5, 8, 9, 10, 15, 16, 17] Xn107_18
def Xn107_16 : C := .block 2 Xn107_17
def Xn107_14 : C := .seq Xn107_15 Xn107_16
def Xn107_12 : C := .seq Xn107_13 Xn107_14
def Xn107_11 : C := .block 1 Xn107_12
def Xn107_34 : C := regL [0, 2, 8, 9, 10] none [⟨some 29, .bin 3 .add (.tmp 10) (.const (.int .i64 1)), none⟩, ⟨some 10, .mv (.tmp 29), none⟩]
def Xn107_10 : C := seqL [0, 2, 8, 9, 10] Xn107_11 Xn107_34
def Xn107_6 : C := seqL [0, 2, 8, 9, 10] Xn107_7 Xn107_10
def Xn107_4 : C := .seq Xn107_5 Xn107_6
/- carried: [10] -/
def Xn107_3 : C := loopL [0, 2, 8, 9, 10] Xn107_4
def Xn107_2 : C := .block 0 Xn107_3
def Xn107_0 : C := .seq Xn107_1 Xn107_2
theorem Xt107 : Text Try.prog 107 Xn107_0 30 3 [] := ⟨⟨Try.f107, [], Try.func107, by kernel_rfl, by kernel_rfl, by kernel_rfl, by kernel_rfl⟩⟩
def Xn108_1 : C := regL [0] none [⟨some 2, .mv (.const (.int .i64 0)), none⟩]
def Xn108_3 : C := regL [2] none [⟨some 3, .mv (.tmp 0), none⟩, ⟨some 4, .call 121 [.tmp 3], none⟩, ⟨some 5, .bin 3 .sub (.const (.int .i64 64)) (.tmp 4), none⟩, ⟨some 2, .mv (.tmp 5), none⟩]
def Xn108_2 : C := .seq Xn108_3 .ret
def Xn108_0 : C := .seq Xn108_1 Xn108_2
theorem Xt108 : Text Try.prog 108 Xn108_0 6 1 [.t 2] := ⟨⟨Try.f108, [], Try.func108, by kernel_rfl, by kernel_rfl, by kernel_rfl, by kernel_rfl⟩⟩
def Xn109_1 : C := regL [0, 1] none [⟨some 4, .mv (.const (.int .i64 0)), none⟩]
def Xn109_3 : C := regL [0, 1, 5] none [⟨some 6, .mv (.tmp 0), none⟩, ⟨some 7, .mv (.tmp 1), none⟩, ⟨some 8, .bin 2 .quo (.tmp 6) (.tmp 7), none⟩, ⟨some 5, .mv (.tmp 8), none⟩]
def Xn109_6 : C := regL [5, 12] none [⟨some 9, .mv (.tmp 0), none⟩, ⟨some 10, .mv (.tmp 1), none⟩, ⟨some 11, .bin 2 .rem (.tmp 9) (.tmp 10), none⟩, ⟨some 12, .bin 2 .lss (.tmp 11) (.const (.int .i64 0)), none⟩]
def Xn109_8 : C := regL [5] none [⟨some 13, .mv (.tmp 5), none⟩, ⟨some 14, .bin 2 .sub (.tmp 13) (.const (.int .i64 1)), none⟩, ⟨some 5, .mv (.tmp 14), none⟩]
def Xn109_7 : C := .cond (.tmp 12) Xn109_8 .skip
def Xn109_5 : C := .seq Xn109_6 Xn109_7
def Xn109_11 : C := regL [4] none [⟨some 15, .mv (.tmp 5), none⟩, ⟨some 4, .mv (.tmp 15), none⟩]
def Xn109_10 : C := .seq Xn109_11 .ret
def Xn109_4 : C := seqL [5] Xn109_5 Xn109_10
def Xn109_2 : C := .seq Xn109_3 Xn109_4
def Xn109_0 : C := .seq Xn109_1 Xn109_2
theorem Xt109 : Text Try.prog 109 Xn109_0 16 2 [.t 4] := ⟨⟨Try.f109, [], Try.func109, by kernel_rfl, by kernel_rfl, by kernel_rfl, by kernel_rfl⟩⟩
def Xn110_1 : C := regL [0, 1, 2] none [⟨some 6, .mv (.const (.int .i64 0)), none⟩]
def Xn110_4 : C := regL [0, 1, 2, 13] none [⟨some 7, .mv (.tmp 2), none⟩, ⟨some 8, .bin 2 .lss (.tmp 7) (.const (.int .i64 0)), none⟩, ⟨some 9, .mv (.tmp 8), none⟩, ⟨some 10, .mv (.tmp 2), some (9, false)⟩, ⟨some 11, .mv (.tmp 0), some (9, false)⟩, ⟨some 12, .bin 2 .gtr (.tmp 10) (.tmp 11), some (9, false)⟩, ⟨some 13, .pick 9 (.const (.bool true)) (.tmp 12), none⟩]
def Xn110_7 : C := regL [6] none [⟨some 6, .mv (.const (.int .i64 0)), none⟩]
def Xn110_6 : C := .seq Xn110_7 .ret
def Xn110_5 : C := .cond (.tmp 13) Xn110_6 .skip
def Xn110_3 : C := .seq Xn110_4 Xn110_5
def Xn110_12 : C := regL [0, 1, 2, 16] none [⟨some 14, .mv (.tmp 2), none⟩, ⟨some 15, .mv (.tmp 1), none⟩, ⟨some 16, .bin 2 .leq (.tmp 14) (.tmp 15), none⟩]
def Xn110_15 : C := regL [6] none [⟨some 17, .mv (.tmp 2), none⟩, ⟨some 18, .mv (.tmp 0), none⟩, ⟨some 19, .mv (.tmp 1), none⟩, ⟨some 20, .bin 2 .sub (.tmp 18) (.tmp 19), none⟩, ⟨some 21, .bin 2 .mul (.tmp 17) (.tmp 20), none⟩, ⟨some 6, .mv (.tmp 21), none⟩]
def Xn110_14 : C := .seq Xn110_15 .ret
def Xn110_13 : C := .cond (.tmp 16) Xn110_14 .skip
def Xn110_11 : C := .seq Xn110_12 Xn110_13
def Xn110_19 : C := regL [6] none [⟨some 22, .mv (.tmp 1), none⟩, ⟨some 23, .mv (.tmp 0), none⟩, ⟨some 24, .mv (.tmp 2), none⟩, ⟨some 25, .bin 2 .sub (.tmp 23) (.tmp 24), none⟩, ⟨some 26, .bin 2 .mul (.tmp 22) (.tmp 25), none⟩, ⟨some 6, .mv (.tmp 26), none⟩]
def Xn110_18 : C := .seq Xn110_19 .ret
def Xn110_10 : C := seqL [0, 1, 2] Xn110_11 Xn110_18
def Xn110_2 : C := seqL [0, 1, 2] Xn110_3 Xn110_10
def Xn110_0 : C := .seq Xn110_1 Xn110_2
theorem Xt110 : Text Try.prog 110 Xn110_0 27 3 [.t 6] := ⟨⟨Try.f110, [], Try.func110, by kernel_rfl, by kernel_rfl, by kernel_rfl, by kernel_rfl⟩⟩
def Xn111_1 : C := regL [1, 2, 3, 4, 5] none [⟨some 5, .box true 24 (.tmp 0), none⟩, ⟨some 10, .mv (.const (.int .i64 0)), none⟩]
def Xn111_3 : C := regL [1, 2, 3, 4, 5, 11] none [⟨some 11, .mv (.const (.int .i64 0)), none⟩]
def Xn111_6 : C := regL [1, 2, 3, 4, 5, 11, 12] none [⟨some 12, .mv (.const (.int .i64 0)), none⟩]
def Xn111_11 : C := regL [1, 2, 3, 4, 5, 11, 12, 16] none [⟨some 13, .mv (.tmp 12), none⟩, ⟨some 14, .mv (.tmp 1), none⟩, ⟨some 15, .len (.tmp 14), none⟩, ⟨some 16, .bin 3 .lss (.tmp 13) (.tmp 15), none⟩]
def Xn111_12 : C := .cond (.tmp 16) .skip (.exit 0)
def Xn111_10 : C := .seq Xn111_11 Xn111_12
def Xn111_17 : C := regL [1, 2, 3, 4, 5, 11, 12] (some [0, 0, 0, 6, 14, 30, 0, 64, 0, 448, 960, 0, 0, 0, 12288, 28672, 61440, 129024, 0, 0, 786432, 2095104, 0, 8388544, 16777214, 33554431, 67108863]) [⟨some 19, .mv (.tmp 11), none⟩, ⟨some 20, .mv (.tmp 1), none⟩, ⟨some 21, .mv (.tmp 12), none⟩, ⟨some 22, .ia 2 (.tmp 20) (.tmp 21), none⟩, ⟨some 23, .fa 1 (.tmp 22), none⟩, ⟨some 24, .ld 2 1 false (.tmp 23), none⟩, ⟨some 25, .fa 0 (.tmp 5), none⟩, ⟨some 26, .ld 22 1 false (.tmp 25), none⟩, ⟨some 27, .mv (.tmp 2), none⟩, ⟨some 28, .ia 1 (.tmp 26) (.tmp 27), none⟩, ⟨some 29, .ld 2 1 false (.tmp 28), none⟩, ⟨some 30, .mv (.tmp 4), none⟩, ⟨some 31, .mv (.tmp 1), none⟩, ⟨some 32, .mv (.tmp 12), none⟩, ⟨some 33, .ia 2 (.tmp 31) (.tmp 32), none⟩, ⟨some 34, .fa 0 (.tmp 33), none⟩, ⟨some 35, .ld 2 1 false (.tmp 34), none⟩, ⟨some 36, .bin 2 .sub (.tmp 30) (.tmp 35), none⟩, ⟨some 37, .ld 24 6 true (.tmp 5), none⟩, ⟨some 38, .mv (.tmp 2), none⟩, ⟨some 39, .call 94 [.tmp 37, .tmp 38], none⟩, ⟨some 40, .bin 2 .sub (.tmp 36) (.tmp 39), none⟩, ⟨some 41, .mv (.tmp 3), none⟩, ⟨some 42, .call 122 [.tmp 29, .tmp 40, .tmp 41], none⟩, ⟨some 43, .bin 2 .mul (.tmp 24) (.tmp 42), none⟩, ⟨some 44, .bin 2 .add (.tmp 19) (.tmp 43), none⟩, ⟨some 11, .mv (.tmp 44), none⟩]
def Xn111_16 : C := .block 1 Xn111_17
def Xn111_18 : C := regL [1, 2, 3, 4, 5, 11, 12] none [⟨some 17, .mv (.tmp 12), none⟩, ⟨some 18, .bin 3 .add (.tmp 17) (.const (.int .i64 1)), none⟩, ⟨some 12, .mv (.tmp 18), none⟩]
def Xn111_15 : C := seqL [1, 2, 3, 4, 5, 11, 12] Xn111_16 Xn111_18
def Xn111_9 : C := seqL [1, 2, 3, 4, 5, 11, 12] Xn111_10 Xn111_15
/- carried: [11, 12] -/
def Xn111_8 : C := loopL [1, 2, 3, 4, 5, 11, 12] Xn111_9
def Xn111_7 : C := .block 0 Xn111_8
def Xn111_5 : C := .seq Xn111_6 Xn111_7
def Xn111_20 : C := regL [10] none [⟨some 45, .mv (.tmp 11), none⟩, ⟨some 10, .mv (.tmp 45), none⟩]
def Xn111_19 : C := .seq Xn111_20 .ret
def Xn111_4 : C := seqL [11] Xn111_5 Xn111_19
def Xn111_2 : C := .seq Xn111_3 Xn111_4
def Xn111_0 : C := .seq Xn111_1 Xn111_2
theorem Xt111 : Text Try.prog 111 Xn111_0 46 5 [.t 10] := ⟨⟨Try.f111, [5], Try.func111, by kernel_rfl, by kernel_rfl, by kernel_rfl, by kernel_rfl⟩⟩
/- carried: [8] -/
/- carried: [9] -/
/- carried: [8] -/
/- carried: [10, 11] -/
/- carried: [13] -/
/- carried: [14, 15] -/
/- carried: [17] -/
/- carried: [20, 21] -/
def Xn121_1 : C := regL [0, 2] none [⟨some 2, .mv (.const (.int .i64 0)), none⟩]
def Xn121_4 : C := regL [0, 2, 4] none [⟨some 3, .mv (.tmp 0), none⟩, ⟨some 4, .bin 117 .geq (.tmp 3) (.const (.int .u64 4294967296)), none⟩]
def Xn121_7 : C := regL [0] none [⟨some 5, .mv (.tmp 0), none⟩, ⟨some 6, .bin 117 .shr (.tmp 5) (.const (.int .u64 32)), none⟩, ⟨some 0, .mv (.tmp 6), none⟩]
def Xn121_8 : C := regL [0, 2] none [⟨some 2, .mv (.const (.int .i64 32)), none⟩]
def Xn121_6 : C := .seq Xn121_7 Xn121_8
def Xn121_5 : C := .cond (.tmp 4) Xn121_6 .skip
def Xn121_3 : C := .seq Xn121_4 Xn121_5
def Xn121_12 : C := regL [0, 2, 8] none [⟨some 7, .mv (.tmp 0), none⟩, ⟨some 8, .bin 117 .geq (.tmp 7) (.const (.int .u64 65536)), none⟩]
def Xn121_15 : C := regL [0, 2] none [⟨some 9, .mv (.tmp 0), none⟩, ⟨some 10, .bin 117 .shr (.tmp 9) (.const (.int .u64 16)), none⟩, ⟨some 0, .mv (.tmp 10), none⟩]
def Xn121_16 : C := regL [0, 2] none [⟨some 11, .mv (.tmp 2), none⟩, ⟨some 12, .bin 3 .add (.tmp 11) (.const (.int .i64 16)), none⟩, ⟨some 2, .mv (.tmp 12), none⟩]
def Xn121_14 : C := .seq Xn121_15 Xn121_16
def Xn121_13 : C := .cond (.tmp 8) Xn121_14 .skip
def Xn121_11 : C := .seq Xn121_12 Xn121_13
def Xn121_20 : C := regL [0, 2, 14] none [⟨some 13, .mv (.tmp 0), none⟩, ⟨some 14, .bin 117 .geq (.tmp 13) (.const (.int .u64 256)), none⟩]
def Xn121_23 : C := regL [0, 2] none [⟨some 15, .mv (.tmp 0), none⟩, ⟨some 16, .bin 117 .shr (.tmp 15) (.const (.int .u64 8)), none⟩, ⟨some 0, .mv (.tmp 16), none⟩]
def Xn121_24 : C := regL [0, 2] none [⟨some 17, .mv (.tmp 2), none⟩, ⟨some 18, .bin 3 .add (.tmp 17) (.const (.int .i64 8)), none⟩, ⟨some 2, .mv (.tmp 18), none⟩]
def Xn121_22 : C := .seq Xn121_23 Xn121_24
def Xn121_21 : C := .cond (.tmp 14) Xn121_22 .skip
def Xn121_19 : C := .seq Xn121_20 Xn121_21
def Xn121_27 : C := regL [2] none [⟨some 19, .mv (.tmp 2), none⟩, ⟨some 20, .mv (.tmp 0), none⟩, ⟨some 21, .cvt .u8 (.tmp 20), none⟩, ⟨some 22, .sidx (.const (.string ⟨#[0, 1, 2, 2, 3, 3, 3, 3, 4, 4, 4, 4, 4, 4, 4, 4, 5, 5, 5, 5, 5, 5, 5, 5, 5, 5, 5, 5, 5, 5, 5, 5, 6, 6, 6, 6, 6, 6, 6, 6, 6, 6, 6, 6, 6, 6, 6, 6, 6, 6, 6, 6, 6, 6, 6, 6, 6, 6, 6, 6, 6, 6, 6, 6, 7, 7, 7, 7, 7, 7, 7, 7, 7, 7, 7, 7, 7, 7, 7, 7, 7, 7, 7, 7, 7, 7, 7, 7, 7, 7, 7, 7, 7, 7, 7, 7, 7, 7, 7, 7, 7, 7, 7, 7, 7, 7, 7, 7, 7, 7, 7, 7, 7, 7, 7, 7, 7, 7, 7, 7, 7, 7, 7, 7, 7, 7, 7, 7, 8, 8, 8, 8, 8, 8, 8, 8, 8, 8, 8, 8, 8, 8, 8, 8, 8, 8, 8, 8, 8, 8, 8, 8, 8, 8, 8, 8, 8, 8, 8, 8, 8, 8, 8, 8, 8, 8, 8, 8, 8, 8, 8, 8, 8, 8, 8, 8, 8, 8, 8, 8, 8, 8, 8, 8, 8, 8, 8, 8, 8, 8, 8, 8, 8, 8, 8, 8, 8, 8, 8, 8, 8, 8, 8, 8, 8, 8, 8, 8, 8, 8, 8, 8, 8, 8, 8, 8, 8, 8, 8, 8, 8, 8, 8, 8, 8, 8, 8, 8, 8, 8, 8, 8, 8, 8, 8, 8, 8, 8, 8, 8, 8, 8, 8, 8, 8, 8, 8, 8, 8, 8, 8, 8, 8, 8, 8, 8]⟩)) (.tmp 21), none⟩, ⟨some 23, .cvt .i64 (.tmp 22), none⟩, ⟨some 24, .bin 3 .add (.tmp 19) (.tmp 23), none⟩, ⟨some 2, .mv (.tmp 24), none⟩]
def Xn121_26 : C := .seq Xn121_27 .ret
def Xn121_18 : C := seqL [0, 2] Xn121_19 Xn121_26
def Xn121_10 : C := seqL [0, 2] Xn121_11 Xn121_18
def Xn121_2 : C := seqL [0, 2] Xn121_3 Xn121_10
def Xn121_0 : C := .seq Xn121_1 Xn121_2
theorem Xt121 : Text Try.prog 121 Xn121_0 25 1 [.t 2] := ⟨⟨Try.f121, [], Try.func121, by kernel_rfl, by kernel_rfl, by kernel_rfl, by kernel_rfl⟩⟩
def Xn122_1 : C := regL [0, 1, 2] none [⟨some 6, .mv (.const (.int .i64 0)), none⟩]
def Xn122_4 : C := regL [0, 1, 2, 13] none [⟨some 7, .mv (.tmp 1), none⟩, ⟨some 8, .bin 2 .lss (.tmp 7) (.const (.int .i64 0)), none⟩, ⟨some 9, .mv (.tmp 8), none⟩, ⟨some 10, .mv (.tmp 1), some (9, false)⟩, ⟨some 11, .mv (.tmp 0), some (9, false)⟩, ⟨some 12, .bin 2 .gtr (.tmp 10) (.tmp 11), some (9, false)⟩, ⟨some 13, .pick 9 (.const (.bool true)) (.tmp 12), none⟩]
def Xn122_7 : C := regL [6] none [⟨some 6, .mv (.const (.int .i64 0)), none⟩]
def Xn122_6 : C := .seq Xn122_7 .ret
def Xn122_5 : C := .cond (.tmp 13) Xn122_6 .skip
def Xn122_3 : C := .seq Xn122_4 Xn122_5
def Xn122_12 : C := regL [0, 1, 14] none [⟨some 14, .mv (.tmp 2), none⟩]
def Xn122_15 : C := regL [6] none [⟨some 15, .mv (.tmp 1), none⟩, ⟨some 6, .mv (.tmp 15), none⟩]
def Xn122_14 : C := .seq Xn122_15 .ret
def Xn122_13 : C := .cond (.tmp 14) Xn122_14 .skip
def Xn122_11 : C := .seq Xn122_12 Xn122_13
def Xn122_19 : C := regL [6] none [⟨some 16, .mv (.tmp 0), none⟩, ⟨some 17, .mv (.tmp 1), none⟩, ⟨some 18, .bin 2 .sub (.tmp 16) (.tmp 17), none⟩, ⟨some 6, .mv (.tmp 18), none⟩]
def Xn122_18 : C := .seq Xn122_19 .ret
def Xn122_10 : C := seqL [0, 1] Xn122_11 Xn122_18
def Xn122_2 : C := seqL [0, 1, 2] Xn122_3 Xn122_10
def Xn122_0 : C := .seq Xn122_1 Xn122_2
theorem Xt122 : Text Try.prog 122 Xn122_0 19 3 [.t 6] := ⟨⟨Try.f122, [], Try.func122, by kernel_rfl, by kernel_rfl, by kernel_rfl, by kernel_rfl⟩⟩
/- carried: [8] -/
/- carried: [10, 11] -/
/- carried: [] -/
/- carried: [10] -/
end Go.Proofs.Ytbdnnicodailcaa

/- Words of 64 bits: products. -/
namespace Go.Proofs.Ytbdnnicodailcaa
open Go Sy
set_option maxRecDepth 100000
set_option maxHeartbeats 4000000
set_option linter.unusedVariables false
set_option linter.unusedSimpArgs false

theorem mixed : Try.prog.follows .mixedOrders = true := by kernel_rfl
abbrev iv (n : Int) : AV := .v (.int .i64 n)
abbrev bv (b : Bool) : AV := .v (.bool b)
abbrev uv (n : Nat) : AV := .v (.int .u64 n)
theorem maskN (a : Nat) (ha : a < 18446744073709551616) : bits .and .u64 (a : Int) 4294967295 = ((a % 4294967296 : Nat) : Int) := by
  have h := bits_and_u64_nat a 4294967295 ha (by omega)
  have e : a &&& 4294967295 = a % 4294967296 := Nat.and_two_pow_sub_one_eq_mod a 32
  rw [e] at h
  exact h
theorem shrC (a : Int) (s : Nat) (b : Int) (h : (2 : Int) ^ min s IntKind.u64.bits = b) (hb : 0 ≤ b) : a.fdiv (2 ^ min s IntKind.u64.bits) = a / b := by
  rw [h, Int.fdiv_eq_ediv_of_nonneg _ hb]
theorem shr32 (a : Int) : a.fdiv (2 ^ min 32 IntKind.u64.bits) = a / 4294967296 := shrC a 32 _ (by decide) (by decide)
theorem shr16 (a : Int) : a.fdiv (2 ^ min 16 IntKind.u64.bits) = a / 65536 := shrC a 16 _ (by decide) (by decide)
theorem shr8 (a : Int) : a.fdiv (2 ^ min 8 IntKind.u64.bits) = a / 256 := shrC a 8 _ (by decide) (by decide)
theorem divN (a : Nat) : (a : Int) / 4294967296 = ((a / 4294967296 : Nat) : Int) := by omega
theorem mulN (a b : Nat) : (a : Int) * (b : Int) = ((a * b : Nat) : Int) := (Int.natCast_mul a b).symm
theorem addN (a b : Nat) : (a : Int) + (b : Int) = ((a + b : Nat) : Int) := (Int.natCast_add a b).symm
theorem wrapN (a : Nat) (ha : a < 18446744073709551616) : IntKind.u64.wrap (a : Int) = (a : Int) := by rw [IntKind.wrap_u64]; omega
theorem wrapM (a : Nat) : IntKind.u64.wrap (a : Int) = ((a % 18446744073709551616 : Nat) : Int) := by rw [IntKind.wrap_u64]; omega
theorem fn89 (x y : Nat) (hx : x < 18446744073709551616) (hy : y < 18446744073709551616) : Sy.Fn Try.prog 89 [uv x, uv y] (.tup [uv (x * y / 18446744073709551616), uv (x * y % 18446744073709551616)]) := by
  refine Fn_of_W mixed Xt89 rfl ?_
  obtain ⟨bd, bt, bw, hhi⟩ := Lib.mul64_hi x y hx hy
  have ba := Lib.half_mul_le (a := x / 4294967296) (b := y / 4294967296) (by omega) (by omega)
  have bb := Lib.half_mul_le (a := x / 4294967296) (b := y % 4294967296) (by omega) (by omega)
  have bc := Lib.half_mul_le (a := x % 4294967296) (b := y / 4294967296) (by omega) (by omega)
  have ba' : x / 4294967296 * (y / 4294967296) < 18446744073709551616 := by omega
  have bb' : x / 4294967296 * (y % 4294967296) < 18446744073709551616 := by omega
  have bc' : x % 4294967296 * (y / 4294967296) < 18446744073709551616 := by omega
  have bh1 : x / 4294967296 * (y / 4294967296) + (x / 4294967296 * (y % 4294967296) + x % 4294967296 * (y % 4294967296) / 4294967296) / 4294967296 < 18446744073709551616 := by omega
  have bh : x / 4294967296 * (y / 4294967296) + (x / 4294967296 * (y % 4294967296) + x % 4294967296 * (y % 4294967296) / 4294967296) / 4294967296 + ((x / 4294967296 * (y % 4294967296) + x % 4294967296 * (y % 4294967296) / 4294967296) % 4294967296 + x % 4294967296 * (y / 4294967296)) / 4294967296 < 18446744073709551616 := by omega
  repeat' (first | refine WK_go ?_ | refine W_seqL ?_ | refine W_seq ?_ | refine W_block ?_ | ((first | refine W_regL ?_ | refine W_skip ?_ | refine W_exit ?_); simp (maxSteps := 400000) (disch := omega) only [push_cast, ↓reduceIte, reduceCtorEq, Nat.reduceAdd, Nat.reduceSub, Nat.reduceEqDiff, Nat.reduceLeDiff, Nat.reduceLT, Nat.reduceBEq, Nat.reduceDiv, Nat.reduceMod, Nat.reducePow, Nat.reduceMul, Int.reduceToNat, Int.reduceLT, Int.reduceLE]) | refine And.intro (by omega) ?_ | refine And.intro (by intro hq; (try simp only [Bool.and_eq_true, Bool.or_eq_true, Bool.and_eq_false_iff, Bool.or_eq_false_iff, decide_eq_true_eq, decide_eq_false_iff_not, Bool.not_eq_true', Bool.not_eq_false', beq_iff_eq, beq_eq_false_iff_ne, ne_eq] at hq); omega) ?_ | fail)
  simp only [maskN x hx, maskN y hy, shr32, divN, mulN, addN, wrapN _ bd, wrapN _ bb', wrapN _ bt, maskN _ bt, wrapN _ bc', wrapN _ bw, wrapN _ ba', wrapN _ bh1, wrapN _ bh, wrapM (x * y)]
  rw [hhi]
  exact W_ret ⟨[_, _], ⟨rfl, rfl, rfl⟩, rfl⟩
end Go.Proofs.Ytbdnnicodailcaa

/- Words of 64 bits: how many bits a number has. -/
namespace Go.Proofs.Ytbdnnicodailcaa
open Go Sy
set_option maxRecDepth 100000
set_option maxHeartbeats 4000000
set_option linter.unusedVariables false
set_option linter.unusedSimpArgs false
abbrev uw (n : Int) : AV := .v (.int .u64 n)
/-- n bits, the first one set -/
def Bits (x : Int) (n : Nat) : Prop := 2 ^ n ≤ 2 * x ∧ x < 2 ^ n
theorem Bits.up {x : Int} {n : Nat} (k : Nat) (h : Bits (x / 2 ^ k) n) : Bits x (n + k) := by
  obtain ⟨h1, h2⟩ := h
  have hk : (0 : Int) < 2 ^ k := Int.pow_pos (by omega)
  have hm := Int.mul_ediv_add_emod x (2 ^ k)
  have hr := Int.emod_lt_of_pos x hk
  have hr0 := Int.emod_nonneg x (Int.ne_of_gt hk)
  have e : (2 : Int) ^ (n + k) = 2 ^ n * 2 ^ k := Int.pow_add ..
  have m1 := Int.mul_le_mul_of_nonneg_right h1 (Int.le_of_lt hk)
  have m2 := Int.mul_le_mul_of_nonneg_right (show x / 2 ^ k + 1 ≤ 2 ^ n by omega) (Int.le_of_lt hk)
  unfold Bits
  rw [e]
  rw [Int.add_mul] at m2
  rw [Int.mul_assoc, Int.mul_comm (x / 2 ^ k)] at m1
  rw [Int.mul_comm (x / 2 ^ k)] at m2
  constructor <;> omega
def lo (b x : Int) : Int := if b ≤ x then x / b else x
def nb (b : Int) (k : Nat) (x : Int) : Nat := if b ≤ x then k else 0
theorem Bits.lo {b x : Int} {n : Nat} (k : Nat) (hb : (2 : Int) ^ k = b) (h : Bits (lo b x) n) : Bits x (n + nb b k x) := by
  unfold Go.Proofs.Ytbdnnicodailcaa.lo at h
  unfold nb
  subst hb
  split
  · rename_i h1; rw [if_pos h1] at h; exact h.up k
  · rename_i h1; rw [if_neg h1] at h; exact h
def tab : ByteArray := ⟨#[0, 1, 2, 2, 3, 3, 3, 3, 4, 4, 4, 4, 4, 4, 4, 4, 5, 5, 5, 5, 5, 5, 5, 5, 5, 5, 5, 5, 5, 5, 5, 5, 6, 6, 6, 6, 6, 6, 6, 6, 6, 6, 6, 6, 6, 6, 6, 6, 6, 6, 6, 6, 6, 6, 6, 6, 6, 6, 6, 6, 6, 6, 6, 6, 7, 7, 7, 7, 7, 7, 7, 7, 7, 7, 7, 7, 7, 7, 7, 7, 7, 7, 7, 7, 7, 7, 7, 7, 7, 7, 7, 7, 7, 7, 7, 7, 7, 7, 7, 7, 7, 7, 7, 7, 7, 7, 7, 7, 7, 7, 7, 7, 7, 7, 7, 7, 7, 7, 7, 7, 7, 7, 7, 7, 7, 7, 7, 7, 8, 8, 8, 8, 8, 8, 8, 8, 8, 8, 8, 8, 8, 8, 8, 8, 8, 8, 8, 8, 8, 8, 8, 8, 8, 8, 8, 8, 8, 8, 8, 8, 8, 8, 8, 8, 8, 8, 8, 8, 8, 8, 8, 8, 8, 8, 8, 8, 8, 8, 8, 8, 8, 8, 8, 8, 8, 8, 8, 8, 8, 8, 8, 8, 8, 8, 8, 8, 8, 8, 8, 8, 8, 8, 8, 8, 8, 8, 8, 8, 8, 8, 8, 8, 8, 8, 8, 8, 8, 8, 8, 8, 8, 8, 8, 8, 8, 8, 8, 8, 8, 8, 8, 8, 8, 8, 8, 8, 8, 8, 8, 8, 8, 8, 8, 8, 8, 8, 8, 8, 8, 8, 8, 8, 8, 8, 8, 8]⟩
def tabOK (i : Nat) : Bool := decide (byteAt tab i ≤ 8) && (decide (i = 0) || (decide (2 ^ byteAt tab i ≤ 2 * i) && decide (i < 2 ^ byteAt tab i)))
theorem tab_all : (List.range 256).all tabOK = true := by decide +kernel
theorem tab_size : tab.size = 256 := by decide +kernel
theorem tab_bits {u : Int} (h0 : 0 ≤ u) (h : u < 256) : byteAt tab u.toNat ≤ 8 ∧ (0 < u → Bits u (byteAt tab u.toNat)) := by
  have h1 := List.all_eq_true.1 tab_all u.toNat (by simp; omega)
  unfold tabOK at h1
  simp only [Bool.and_eq_true, Bool.or_eq_true, decide_eq_true_eq] at h1
  refine ⟨h1.1, fun h2 => ?_⟩
  have h3 := h1.2.resolve_left (by omega)
  unfold Bits
  have e : ((u.toNat : Nat) : Int) = u := by omega
  generalize byteAt tab u.toNat = n at *
  have e2 : ((2 ^ n : Nat) : Int) = (2 : Int) ^ n := Int.natCast_pow 2 n
  omega
theorem fn121 (x : Int) (h0 : 0 ≤ x) (hx : x < 18446744073709551616) : ∃ n : Nat, n ≤ 64 ∧ (0 < x → Bits x n) ∧ Sy.Fn Try.prog 121 [uw x] (iv n) := by
  generalize hy : lo 4294967296 x = y
  have hyb : 0 ≤ y ∧ y < 4294967296 := by subst hy; unfold lo; split <;> omega
  generalize hm : nb 4294967296 32 x = m
  have hmb : m ≤ 32 := by subst hm; unfold nb; split <;> omega
  generalize hz : lo 65536 y = z
  have hzb : 0 ≤ z ∧ z < 65536 := by subst hz; unfold lo; split <;> omega
  generalize hk : m + nb 65536 16 y = k
  have hkb : k ≤ 48 := by subst hk; unfold nb; split <;> omega
  generalize hu : lo 256 z = u
  have hub : 0 ≤ u ∧ u < 256 := by subst hu; unfold lo; split <;> omega
  generalize hj : k + nb 256 8 z = j
  have hjb : j ≤ 56 := by subst hj; unfold nb; split <;> omega
  have ht := tab_bits hub.1 hub.2
  have hpos : 0 < x → 0 < u := fun h => by
    have h1 : 0 < y := by subst hy; unfold lo; split <;> omega
    have h2 : 0 < z := by subst hz; unfold lo; split <;> omega
    subst hu; unfold lo; split <;> omega
  refine ⟨j + byteAt tab u.toNat, by omega, fun h => ?_, ?_⟩
  · have h1 := ht.2 (hpos h)
    rw [← hu] at h1
    have h2 := h1.lo 8 (by decide)
    rw [hu, ← hz] at h2
    have h3 := h2.lo 16 (by decide)
    rw [hz, ← hy] at h3
    have h4 := h3.lo 32 (by decide)
    rw [hy] at h4
    rw [← hj, ← hk, ← hm]
    rw [show nb 4294967296 32 x + nb 65536 16 y + nb 256 8 z + byteAt tab u.toNat = byteAt tab u.toNat + nb 256 8 z + nb 65536 16 y + nb 4294967296 32 x by omega]
    exact h4
  refine Fn_of_W mixed Xt121 rfl ?_
  repeat' (first | refine WK_go ?_ | refine W_seqL ?_ | refine W_seq ?_ | refine W_block ?_ | ((first | refine W_regL ?_ | refine W_skip ?_ | refine W_exit ?_); simp (maxSteps := 400000) (disch := omega) only [push_cast, ↓reduceIte, reduceCtorEq, Nat.reduceAdd, Nat.reduceSub, Nat.reduceEqDiff, Nat.reduceLeDiff, Nat.reduceLT, Nat.reduceBEq, Nat.reduceDiv, Nat.reduceMod, Nat.reducePow, Nat.reduceMul, Int.reduceToNat, Int.reduceLT, Int.reduceLE]) | refine And.intro (by omega) ?_ | refine And.intro (by intro hq; (try simp only [Bool.and_eq_true, Bool.or_eq_true, Bool.and_eq_false_iff, Bool.or_eq_false_iff, decide_eq_true_eq, decide_eq_false_iff_not, Bool.not_eq_true', Bool.not_eq_false', beq_iff_eq, beq_eq_false_iff_ne, ne_eq] at hq); omega) ?_ | fail)
  refine W_meet [(0, uw y), (2, iv m)] [] ?_ ?_
  · subst hy hm
    unfold lo nb
    refine W_condD (by rfl) (fun h => ?_) (fun h => ?_)
    · rw [if_pos h, if_pos h]
      repeat' (first | refine WK_go ?_ | refine W_seqL ?_ | refine W_seq ?_ | refine W_block ?_ | ((first | refine W_regL ?_ | refine W_skip ?_ | refine W_exit ?_); simp (maxSteps := 400000) (disch := omega) only [push_cast, ↓reduceIte, reduceCtorEq, Nat.reduceAdd, Nat.reduceSub, Nat.reduceEqDiff, Nat.reduceLeDiff, Nat.reduceLT, Nat.reduceBEq, Nat.reduceDiv, Nat.reduceMod, Nat.reducePow, Nat.reduceMul, Int.reduceToNat, Int.reduceLT, Int.reduceLE, shr32]) | refine And.intro (by omega) ?_ | refine And.intro (by intro hq; (try simp only [Bool.and_eq_true, Bool.or_eq_true, Bool.and_eq_false_iff, Bool.or_eq_false_iff, decide_eq_true_eq, decide_eq_false_iff_not, Bool.not_eq_true', Bool.not_eq_false', beq_iff_eq, beq_eq_false_iff_ne, ne_eq] at hq); omega) ?_ | fail)
      refine ⟨by rfl, ?_⟩
      simp (maxSteps := 400000) (disch := omega) only [push_cast, ↓reduceIte, reduceCtorEq, Nat.reduceAdd, Nat.reduceSub, Nat.reduceEqDiff, Nat.reduceLeDiff, Nat.reduceLT, Nat.reduceBEq, Nat.reduceDiv, Nat.reduceMod, Nat.reducePow, Nat.reduceMul, Int.reduceToNat, Int.reduceLT, Int.reduceLE, S.mk.injEq, List.cons.injEq, Prod.mk.injEq, AV.v.injEq, Value.int.injEq, Value.bool.injEq, Blk.cells.injEq]
      all_goals omega
    · rw [if_neg h, if_neg h]
      repeat' (first | refine WK_go ?_ | refine W_seqL ?_ | refine W_seq ?_ | refine W_block ?_ | ((first | refine W_regL ?_ | refine W_skip ?_ | refine W_exit ?_); simp (maxSteps := 400000) (disch := omega) only [push_cast, ↓reduceIte, reduceCtorEq, Nat.reduceAdd, Nat.reduceSub, Nat.reduceEqDiff, Nat.reduceLeDiff, Nat.reduceLT, Nat.reduceBEq, Nat.reduceDiv, Nat.reduceMod, Nat.reducePow, Nat.reduceMul, Int.reduceToNat, Int.reduceLT, Int.reduceLE]) | refine And.intro (by omega) ?_ | refine And.intro (by intro hq; (try simp only [Bool.and_eq_true, Bool.or_eq_true, Bool.and_eq_false_iff, Bool.or_eq_false_iff, decide_eq_true_eq, decide_eq_false_iff_not, Bool.not_eq_true', Bool.not_eq_false', beq_iff_eq, beq_eq_false_iff_ne, ne_eq] at hq); omega) ?_ | fail)
      rfl
  simp (maxSteps := 400000) (disch := omega) only [push_cast, ↓reduceIte, reduceCtorEq, Nat.reduceAdd, Nat.reduceSub, Nat.reduceEqDiff, Nat.reduceLeDiff, Nat.reduceLT, Nat.reduceBEq, Nat.reduceDiv, Nat.reduceMod, Nat.reducePow, Nat.reduceMul, Int.reduceToNat, Int.reduceLT, Int.reduceLE]
  repeat' (first | refine WK_go ?_ | refine W_seqL ?_ | refine W_seq ?_ | refine W_block ?_ | ((first | refine W_regL ?_ | refine W_skip ?_ | refine W_exit ?_); simp (maxSteps := 400000) (disch := omega) only [push_cast, ↓reduceIte, reduceCtorEq, Nat.reduceAdd, Nat.reduceSub, Nat.reduceEqDiff, Nat.reduceLeDiff, Nat.reduceLT, Nat.reduceBEq, Nat.reduceDiv, Nat.reduceMod, Nat.reducePow, Nat.reduceMul, Int.reduceToNat, Int.reduceLT, Int.reduceLE]) | refine And.intro (by omega) ?_ | refine And.intro (by intro hq; (try simp only [Bool.and_eq_true, Bool.or_eq_true, Bool.and_eq_false_iff, Bool.or_eq_false_iff, decide_eq_true_eq, decide_eq_false_iff_not, Bool.not_eq_true', Bool.not_eq_false', beq_iff_eq, beq_eq_false_iff_ne, ne_eq] at hq); omega) ?_ | fail)
  refine W_meet [(0, uw z), (2, iv k)] [] ?_ ?_
  · subst hz hk
    unfold lo nb
    refine W_condD (by rfl) (fun h => ?_) (fun h => ?_)
    · rw [if_pos h, if_pos h]
      repeat' (first | refine WK_go ?_ | refine W_seqL ?_ | refine W_seq ?_ | refine W_block ?_ | ((first | refine W_regL ?_ | refine W_skip ?_ | refine W_exit ?_); simp (maxSteps := 400000) (disch := omega) only [push_cast, ↓reduceIte, reduceCtorEq, Nat.reduceAdd, Nat.reduceSub, Nat.reduceEqDiff, Nat.reduceLeDiff, Nat.reduceLT, Nat.reduceBEq, Nat.reduceDiv, Nat.reduceMod, Nat.reducePow, Nat.reduceMul, Int.reduceToNat, Int.reduceLT, Int.reduceLE, shr16]) | refine And.intro (by omega) ?_ | refine And.intro (by intro hq; (try simp only [Bool.and_eq_true, Bool.or_eq_true, Bool.and_eq_false_iff, Bool.or_eq_false_iff, decide_eq_true_eq, decide_eq_false_iff_not, Bool.not_eq_true', Bool.not_eq_false', beq_iff_eq, beq_eq_false_iff_ne, ne_eq] at hq); omega) ?_ | fail)
      refine ⟨by rfl, ?_⟩
      simp (maxSteps := 400000) (disch := omega) only [push_cast, ↓reduceIte, reduceCtorEq, Nat.reduceAdd, Nat.reduceSub, Nat.reduceEqDiff, Nat.reduceLeDiff, Nat.reduceLT, Nat.reduceBEq, Nat.reduceDiv, Nat.reduceMod, Nat.reducePow, Nat.reduceMul, Int.reduceToNat, Int.reduceLT, Int.reduceLE, S.mk.injEq, List.cons.injEq, Prod.mk.injEq, AV.v.injEq, Value.int.injEq, Value.bool.injEq, Blk.cells.injEq]
      all_goals omega
    · rw [if_neg h, if_neg h]
      repeat' (first | refine WK_go ?_ | refine W_seqL ?_ | refine W_seq ?_ | refine W_block ?_ | ((first | refine W_regL ?_ | refine W_skip ?_ | refine W_exit ?_); simp (maxSteps := 400000) (disch := omega) only [push_cast, ↓reduceIte, reduceCtorEq, Nat.reduceAdd, Nat.reduceSub, Nat.reduceEqDiff, Nat.reduceLeDiff, Nat.reduceLT, Nat.reduceBEq, Nat.reduceDiv, Nat.reduceMod, Nat.reducePow, Nat.reduceMul, Int.reduceToNat, Int.reduceLT, Int.reduceLE]) | refine And.intro (by omega) ?_ | refine And.intro (by intro hq; (try simp only [Bool.and_eq_true, Bool.or_eq_true, Bool.and_eq_false_iff, Bool.or_eq_false_iff, decide_eq_true_eq, decide_eq_false_iff_not, Bool.not_eq_true', Bool.not_eq_false', beq_iff_eq, beq_eq_false_iff_ne, ne_eq] at hq); omega) ?_ | fail)
      rfl
  simp (maxSteps := 400000) (disch := omega) only [push_cast, ↓reduceIte, reduceCtorEq, Nat.reduceAdd, Nat.reduceSub, Nat.reduceEqDiff, Nat.reduceLeDiff, Nat.reduceLT, Nat.reduceBEq, Nat.reduceDiv, Nat.reduceMod, Nat.reducePow, Nat.reduceMul, Int.reduceToNat, Int.reduceLT, Int.reduceLE]
  repeat' (first | refine WK_go ?_ | refine W_seqL ?_ | refine W_seq ?_ | refine W_block ?_ | ((first | refine W_regL ?_ | refine W_skip ?_ | refine W_exit ?_); simp (maxSteps := 400000) (disch := omega) only [push_cast, ↓reduceIte, reduceCtorEq, Nat.reduceAdd, Nat.reduceSub, Nat.reduceEqDiff, Nat.reduceLeDiff, Nat.reduceLT, Nat.reduceBEq, Nat.reduceDiv, Nat.reduceMod, Nat.reducePow, Nat.reduceMul, Int.reduceToNat, Int.reduceLT, Int.reduceLE]) | refine And.intro (by omega) ?_ | refine And.intro (by intro hq; (try simp only [Bool.and_eq_true, Bool.or_eq_true, Bool.and_eq_false_iff, Bool.or_eq_false_iff, decide_eq_true_eq, decide_eq_false_iff_not, Bool.not_eq_true', Bool.not_eq_false', beq_iff_eq, beq_eq_false_iff_ne, ne_eq] at hq); omega) ?_ | fail)
  refine W_meet [(0, uw u), (2, iv j)] [] ?_ ?_
  · subst hu hj
    unfold lo nb
    refine W_condD (by rfl) (fun h => ?_) (fun h => ?_)
    · rw [if_pos h, if_pos h]
      repeat' (first | refine WK_go ?_ | refine W_seqL ?_ | refine W_seq ?_ | refine W_block ?_ | ((first | refine W_regL ?_ | refine W_skip ?_ | refine W_exit ?_); simp (maxSteps := 400000) (disch := omega) only [push_cast, ↓reduceIte, reduceCtorEq, Nat.reduceAdd, Nat.reduceSub, Nat.reduceEqDiff, Nat.reduceLeDiff, Nat.reduceLT, Nat.reduceBEq, Nat.reduceDiv, Nat.reduceMod, Nat.reducePow, Nat.reduceMul, Int.reduceToNat, Int.reduceLT, Int.reduceLE, shr8]) | refine And.intro (by omega) ?_ | refine And.intro (by intro hq; (try simp only [Bool.and_eq_true, Bool.or_eq_true, Bool.and_eq_false_iff, Bool.or_eq_false_iff, decide_eq_true_eq, decide_eq_false_iff_not, Bool.not_eq_true', Bool.not_eq_false', beq_iff_eq, beq_eq_false_iff_ne, ne_eq] at hq); omega) ?_ | fail)
      refine ⟨by rfl, ?_⟩
      simp (maxSteps := 400000) (disch := omega) only [push_cast, ↓reduceIte, reduceCtorEq, Nat.reduceAdd, Nat.reduceSub, Nat.reduceEqDiff, Nat.reduceLeDiff, Nat.reduceLT, Nat.reduceBEq, Nat.reduceDiv, Nat.reduceMod, Nat.reducePow, Nat.reduceMul, Int.reduceToNat, Int.reduceLT, Int.reduceLE, S.mk.injEq, List.cons.injEq, Prod.mk.injEq, AV.v.injEq, Value.int.injEq, Value.bool.injEq, Blk.cells.injEq]
      all_goals omega
    · rw [if_neg h, if_neg h]
      repeat' (first | refine WK_go ?_ | refine W_seqL ?_ | refine W_seq ?_ | refine W_block ?_ | ((first | refine W_regL ?_ | refine W_skip ?_ | refine W_exit ?_); simp (maxSteps := 400000) (disch := omega) only [push_cast, ↓reduceIte, reduceCtorEq, Nat.reduceAdd, Nat.reduceSub, Nat.reduceEqDiff, Nat.reduceLeDiff, Nat.reduceLT, Nat.reduceBEq, Nat.reduceDiv, Nat.reduceMod, Nat.reducePow, Nat.reduceMul, Int.reduceToNat, Int.reduceLT, Int.reduceLE]) | refine And.intro (by omega) ?_ | refine And.intro (by intro hq; (try simp only [Bool.and_eq_true, Bool.or_eq_true, Bool.and_eq_false_iff, Bool.or_eq_false_iff, decide_eq_true_eq, decide_eq_false_iff_not, Bool.not_eq_true', Bool.not_eq_false', beq_iff_eq, beq_eq_false_iff_ne, ne_eq] at hq); omega) ?_ | fail)
      rfl
  simp (maxSteps := 400000) (disch := omega) only [push_cast, ↓reduceIte, reduceCtorEq, Nat.reduceAdd, Nat.reduceSub, Nat.reduceEqDiff, Nat.reduceLeDiff, Nat.reduceLT, Nat.reduceBEq, Nat.reduceDiv, Nat.reduceMod, Nat.reducePow, Nat.reduceMul, Int.reduceToNat, Int.reduceLT, Int.reduceLE]
  have hw : IntKind.u8.wrap u = u := by rw [IntKind.wrap_u8]; omega
  refine W_seq (W_regL ?_)
  rw [show ({ data := _ } : ByteArray) = tab from rfl]
  simp (maxSteps := 400000) (disch := omega) only [push_cast, ↓reduceIte, reduceCtorEq, Nat.reduceAdd, Nat.reduceSub, Nat.reduceEqDiff, Nat.reduceLeDiff, Nat.reduceLT, Nat.reduceBEq, Nat.reduceDiv, Nat.reduceMod, Nat.reducePow, Nat.reduceMul, Int.reduceToNat, Int.reduceLT, Int.reduceLE, hw, tab_size]
  refine ⟨⟨hub.1, hub.2⟩, ?_⟩
  exact W_ret ⟨[_], ⟨rfl, rfl⟩, rfl⟩
/-- LeadingZeros64 -/
theorem fn108 (x : Int) (h0 : 0 < x) (hx : x < 18446744073709551616) : ∃ n : Nat, n ≤ 64 ∧ Bits x n ∧ Sy.Fn Try.prog 108 [uw x] (iv (64 - n)) := by
  obtain ⟨n, hn, hb, c⟩ := fn121 x (by omega) hx
  refine ⟨n, hn, hb h0, ?_⟩
  refine Fn_of_W mixed Xt108 rfl ?_
  repeat' (first | refine WK_go ?_ | refine W_seqL ?_ | refine W_seq ?_ | refine W_block ?_ | ((first | refine W_regL ?_ | refine W_skip ?_ | refine W_exit ?_ | refine CallC.now (c) ?_); simp (maxSteps := 400000) (disch := omega) only [push_cast, ↓reduceIte, reduceCtorEq, Nat.reduceAdd, Nat.reduceSub, Nat.reduceEqDiff, Nat.reduceLeDiff, Nat.reduceLT, Nat.reduceBEq, Nat.reduceDiv, Nat.reduceMod, Nat.reducePow, Nat.reduceMul, Int.reduceToNat, Int.reduceLT, Int.reduceLE]) | refine And.intro (by omega) ?_ | refine And.intro (by intro hq; (try simp only [Bool.and_eq_true, Bool.or_eq_true, Bool.and_eq_false_iff, Bool.or_eq_false_iff, decide_eq_true_eq, decide_eq_false_iff_not, Bool.not_eq_true', Bool.not_eq_false', beq_iff_eq, beq_eq_false_iff_ne, ne_eq] at hq); omega) ?_ | fail)
  exact W_ret ⟨[_], ⟨rfl, rfl⟩, rfl⟩
end Go.Proofs.Ytbdnnicodailcaa

/- The long division: the plain law. -/
namespace Go.Proofs.Ytbdnnicodailcaa
open Go Sy
set_option maxRecDepth 100000
set_option linter.unusedVariables false
/-- half of the division: a divisor of 64 bits, the upper part of what is divided, the next digit -/
structure Half (Y u d : Int) : Prop where
  y : 9223372036854775808 ≤ Y ∧ Y < 18446744073709551616
  u : 0 ≤ u ∧ u < Y
  d : 0 ≤ d ∧ d < 4294967296
def Half.q (Y u d : Int) : Int := (u * 4294967296 + d) / Y
theorem split_Y (Y q : Int) : q * Y = (q * (Y / 4294967296)) * 4294967296 + q * (Y % 4294967296) := by
  have h : Y = Y / 4294967296 * 4294967296 + Y % 4294967296 := by omega
  rw [Int.mul_assoc, ← Int.mul_add, ← h]
theorem Half.no {Y u d q r : Int} (h : Half Y u d) (e : q * (Y / 4294967296) + r = u) (hc : q * (Y % 4294967296) ≤ 4294967296 * r + d) : q ≤ Half.q Y u d := by
  unfold Half.q
  have := h.y
  rw [Int.le_ediv_iff_mul_le (by omega), split_Y Y q]
  omega
theorem Half.yes {Y u d q r : Int} (h : Half Y u d) (e : q * (Y / 4294967296) + r = u) (hc : 4294967296 * r + d < q * (Y % 4294967296)) : Half.q Y u d < q := by
  unfold Half.q
  have := h.y
  rw [Int.ediv_lt_iff_lt_mul (by omega), split_Y Y q]
  omega
theorem Half.lt {Y u d : Int} (h : Half Y u d) : 0 ≤ Half.q Y u d ∧ Half.q Y u d < 4294967296 := by
  have h1 := h.y; have h2 := h.u; have h3 := h.d
  unfold Half.q
  constructor
  · exact Int.ediv_nonneg (by omega) (by omega)
  · rw [Int.ediv_lt_iff_lt_mul (by omega)]
    omega
theorem Half.start {Y u d : Int} (h : Half Y u d) : u / (Y / 4294967296) * (Y / 4294967296) + u % (Y / 4294967296) = u ∧ Half.q Y u d ≤ u / (Y / 4294967296) ∧ u / (Y / 4294967296) ≤ 4294967297 ∧ 0 ≤ u % (Y / 4294967296) ∧ u % (Y / 4294967296) < 4294967296 := by
  have h1 := h.y; have h2 := h.u; have h3 := h.d
  have hlt := h.lt
  have hp : 0 < Y / 4294967296 := by omega
  have e := Int.ediv_mul_add_emod u (Y / 4294967296)
  have e1 := Int.emod_nonneg u (Int.ne_of_gt hp)
  have e2 := Int.emod_lt_of_pos u hp
  refine ⟨e, ?_, ?_, e1, by omega⟩
  · rw [Int.le_ediv_iff_mul_le hp]
    have h4 : Half.q Y u d * Y ≤ u * 4294967296 + d := Int.ediv_mul_le _ (by omega)
    rw [split_Y Y (Half.q Y u d)] at h4
    have h5 : 0 ≤ Half.q Y u d * (Y % 4294967296) := Int.mul_nonneg hlt.1 (by omega)
    omega
  · have h4 : u / (Y / 4294967296) < 4294967298 := by
      rw [Int.ediv_lt_iff_lt_mul hp]
      omega
    omega
/-- one step of the loop -/
theorem Half.step {Y u d q r : Int} (h : Half Y u d) (e : q * (Y / 4294967296) + r = u) (hq : Half.q Y u d ≤ q) (hc : 4294967296 ≤ q ∨ 4294967296 * r + d < q * (Y % 4294967296)) : (q - 1) * (Y / 4294967296) + (r + Y / 4294967296) = u ∧ Half.q Y u d ≤ q - 1 := by
  have hlt := h.lt
  refine ⟨by rw [Int.sub_mul, Int.one_mul]; omega, ?_⟩
  rcases hc with hc | hc
  · omega
  · have := h.yes e hc; omega
theorem Half.break {Y u d q r : Int} (h : Half Y u d) (e : q * (Y / 4294967296) + r = u) (hq : Half.q Y u d ≤ q) (hb : q ≤ 4294967296) (hr : 4294967296 ≤ r) : q = Half.q Y u d := by
  have h1 := h.y; have h2 := h.u; have h3 := h.d
  have hlt := h.lt
  have m : q * (Y % 4294967296) ≤ 4294967296 * 4294967295 := Int.mul_le_mul hb (by omega) (by omega) (by omega)
  have := h.no e (by omega)
  omega
theorem Half.stop {Y u d q r : Int} (h : Half Y u d) (e : q * (Y / 4294967296) + r = u) (hq : Half.q Y u d ≤ q) (hc : q * (Y % 4294967296) ≤ 4294967296 * r + d) : q = Half.q Y u d := by
  have := h.no e hc
  omega
/-- what is left -/
def Half.r (Y u d : Int) : Int := u * 4294967296 + d - Half.q Y u d * Y
theorem Half.r_lt {Y u d : Int} (h : Half Y u d) : 0 ≤ Half.r Y u d ∧ Half.r Y u d < Y := by
  have h1 := h.y
  have e := Int.ediv_mul_add_emod (u * 4294967296 + d) Y
  have e1 := Int.emod_nonneg (u * 4294967296 + d) (show Y ≠ 0 by omega)
  have e2 := Int.emod_lt_of_pos (u * 4294967296 + d) (show 0 < Y by omega)
  unfold Half.r Half.q
  omega
/-- both halves -/
theorem long_div {y P N u d1 d0 : Int} (hy : 0 < y) (hP : 0 < P) (e : N * P = u * 18446744073709551616 + d1 * 4294967296 + d0) (h : Half (y * P) u d1) (h0 : Half (y * P) (Half.r (y * P) u d1) d0) :
    Half.q (y * P) u d1 * 4294967296 + Half.q (y * P) (Half.r (y * P) u d1) d0 = N / y ∧ Half.r (y * P) (Half.r (y * P) u d1) d0 / P = N % y := by
  have hr := h0.r_lt
  have e1 : Half.r (y * P) u d1 = u * 4294967296 + d1 - Half.q (y * P) u d1 * (y * P) := rfl
  have e2 : Half.r (y * P) (Half.r (y * P) u d1) d0 = Half.r (y * P) u d1 * 4294967296 + d0 - Half.q (y * P) (Half.r (y * P) u d1) d0 * (y * P) := rfl
  generalize hR0 : Half.r (y * P) (Half.r (y * P) u d1) d0 = R0 at *
  generalize hR1 : Half.r (y * P) u d1 = R1 at *
  generalize hq1 : Half.q (y * P) u d1 = q1 at *
  generalize hq0 : Half.q (y * P) R1 d0 = q0 at *
  have e3 : (q1 * 4294967296 + q0) * (y * P) = q1 * (y * P) * 4294967296 + q0 * (y * P) := by
    rw [Int.add_mul, Int.mul_assoc, Int.mul_comm 4294967296, ← Int.mul_assoc]
  have e4 : R0 = (N - (q1 * 4294967296 + q0) * y) * P := by
    rw [Int.sub_mul, Int.mul_assoc, e3]
    omega
  have e5 : R0 / P = N - (q1 * 4294967296 + q0) * y := by
    rw [e4, Int.mul_ediv_cancel _ (Int.ne_of_gt hP)]
  have e6 : 0 ≤ N - (q1 * 4294967296 + q0) * y := by
    rw [e4] at hr
    exact Int.nonneg_of_mul_nonneg_left hr.1 hP
  have e7 : N - (q1 * 4294967296 + q0) * y < y := by
    rw [e4] at hr
    exact Int.lt_of_mul_lt_mul_right hr.2 (Int.le_of_lt hP)
  have e8 : N / y = q1 * 4294967296 + q0 := by
    have h1 : q1 * 4294967296 + q0 ≤ N / y := by rw [Int.le_ediv_iff_mul_le hy]; omega
    have h2 : N / y < q1 * 4294967296 + q0 + 1 := by rw [Int.ediv_lt_iff_lt_mul hy, Int.add_mul]; omega
    omega
  refine ⟨e8.symm, ?_⟩
  rw [e5, Int.emod_def, e8, Int.mul_comm]
/-- the shift to a divisor of 64 bits -/
theorem shift_up {y : Int} {n : Nat} (h : Bits y n) (hn : n ≤ 64) : 9223372036854775808 ≤ y * 2 ^ (64 - n) ∧ y * 2 ^ (64 - n) < 18446744073709551616 := by
  obtain ⟨h1, h2⟩ := h
  have hk : (0 : Int) < 2 ^ (64 - n) := Int.pow_pos (by omega)
  have e : (2 : Int) ^ n * 2 ^ (64 - n) = 18446744073709551616 := by
    rw [← Int.pow_add, show n + (64 - n) = 64 by omega]; rfl
  have m1 := Int.mul_le_mul_of_nonneg_right h1 (Int.le_of_lt hk)
  have m2 := Int.mul_lt_mul_of_pos_right h2 hk
  rw [Int.mul_assoc] at m1
  omega
theorem shift_parts {hi lo y : Int} {n : Nat} (hn : n ≤ 64) (h : 0 ≤ hi ∧ hi < y) (hl : 0 ≤ lo ∧ lo < 18446744073709551616) :
    (hi * 18446744073709551616 + lo) * 2 ^ (64 - n) = (hi * 2 ^ (64 - n) + lo / 2 ^ n) * 18446744073709551616 + lo * 2 ^ (64 - n) % 18446744073709551616 ∧
    0 ≤ hi * 2 ^ (64 - n) + lo / 2 ^ n ∧ hi * 2 ^ (64 - n) + lo / 2 ^ n < y * 2 ^ (64 - n) ∧ 0 ≤ lo / 2 ^ n ∧ lo / 2 ^ n < 2 ^ (64 - n) := by
  have hk : (0 : Int) < 2 ^ (64 - n) := Int.pow_pos (by omega)
  have hk2 : (0 : Int) < 2 ^ n := Int.pow_pos (by omega)
  have e : (2 : Int) ^ n * 2 ^ (64 - n) = 18446744073709551616 := by
    rw [← Int.pow_add, show n + (64 - n) = 64 by omega]; rfl
  have e2 : lo * 2 ^ (64 - n) / 18446744073709551616 = lo / 2 ^ n := by
    rw [← e]; exact Int.mul_ediv_mul_of_pos_left _ _ hk
  have h1 : 0 ≤ lo / 2 ^ n := Int.ediv_nonneg hl.1 (Int.le_of_lt hk2)
  have h2 : lo / 2 ^ n < 2 ^ (64 - n) := by
    rw [Int.ediv_lt_iff_lt_mul hk2, Int.mul_comm, e]; exact hl.2
  have h3 : 0 ≤ hi * 2 ^ (64 - n) := Int.mul_nonneg h.1 (Int.le_of_lt hk)
  have h4 := Int.mul_le_mul_of_nonneg_right (show hi + 1 ≤ y by omega) (Int.le_of_lt hk)
  rw [Int.add_mul, Int.one_mul] at h4
  refine ⟨?_, by omega, by omega, h1, h2⟩
  rw [Int.add_mul, Int.mul_assoc, Int.mul_comm 18446744073709551616, ← Int.mul_assoc]
  omega
/-- a sum without a carry -/
theorem or_add {a b : Int} {k : Nat} (ha : 0 ≤ a) (hb : 0 ≤ b) (hlt : b < 2 ^ k) (h : a * 2 ^ k + b < 18446744073709551616) : bits .or .u64 (a * 2 ^ k) b = a * 2 ^ k + b := by
  obtain ⟨x, rfl⟩ : ∃ x : Nat, a = x := ⟨a.toNat, by omega⟩
  obtain ⟨y, rfl⟩ : ∃ y : Nat, b = y := ⟨b.toNat, by omega⟩
  have e : (x : Int) * 2 ^ k = ((x * 2 ^ k : Nat) : Int) := by rw [Int.natCast_mul, Int.natCast_pow]; rfl
  have hl : y < 2 ^ k := by
    have : ((2 ^ k : Nat) : Int) = (2 : Int) ^ k := Int.natCast_pow 2 k
    omega
  rw [e] at h ⊢
  rw [bits_or_u64_nat _ _ (by omega) (by omega), ← Nat.shiftLeft_eq, ← Nat.shiftLeft_add_eq_or_of_lt hl]
  omega
end Go.Proofs.Ytbdnnicodailcaa

/- The long division: the walk. -/
namespace Go.Proofs.Ytbdnnicodailcaa
open Go Sy
set_option maxRecDepth 100000
set_option maxHeartbeats 4000000
set_option linter.unusedVariables false
set_option linter.unusedSimpArgs false
theorem wrapU {x : Int} (h : 0 ≤ x ∧ x < 18446744073709551616) : IntKind.u64.wrap x = x := by rw [IntKind.wrap_u64]; omega
theorem maskI {a : Int} (h : 0 ≤ a ∧ a < 18446744073709551616) : bits .and .u64 a 4294967295 = a % 4294967296 := by
  obtain ⟨n, rfl⟩ : ∃ n : Nat, a = n := ⟨a.toNat, by omega⟩
  rw [maskN n (by omega)]; omega
theorem wrap_rem {a b c r : Int} (h : a + b - c = r) (hr : 0 ≤ r ∧ r < 18446744073709551616) : IntKind.u64.wrap (IntKind.u64.wrap (IntKind.u64.wrap a + b) - IntKind.u64.wrap c) = r := by
  simp only [IntKind.wrap_u64]; omega
theorem fn90 (hi lo y : Int) (h : 0 ≤ hi ∧ hi < y) (hl : 0 ≤ lo ∧ lo < 18446744073709551616) (hy : y < 18446744073709551616) : Sy.Fn Try.prog 90 [uw hi, uw lo, uw y] (.tup [uw ((hi * 18446744073709551616 + lo) / y), uw ((hi * 18446744073709551616 + lo) % y)]) := by
  refine Fn_of_W mixed Xt90 rfl ?_
  obtain ⟨n, hn, hb, c⟩ := fn108 y (by omega) hy
  have hsu := shift_up hb hn
  obtain ⟨hp1, hp2, hp3, hp4, hp5⟩ := shift_parts hn h hl
  repeat' (first | refine WK_go ?_ | refine W_seqL ?_ | refine W_seq ?_ | refine W_block ?_ | ((first | refine W_regL ?_ | refine W_skip ?_ | refine W_exit ?_); simp (maxSteps := 400000) (disch := omega) only [push_cast, ↓reduceIte, reduceCtorEq, Nat.reduceAdd, Nat.reduceSub, Nat.reduceEqDiff, Nat.reduceLeDiff, Nat.reduceLT, Nat.reduceBEq, Nat.reduceDiv, Nat.reduceMod, Nat.reducePow, Nat.reduceMul, Int.reduceToNat, Int.reduceLT, Int.reduceLE]) | refine And.intro (by omega) ?_ | refine And.intro (by intro hq; (try simp only [Bool.and_eq_true, Bool.or_eq_true, Bool.and_eq_false_iff, Bool.or_eq_false_iff, decide_eq_true_eq, decide_eq_false_iff_not, Bool.not_eq_true', Bool.not_eq_false', beq_iff_eq, beq_eq_false_iff_ne, ne_eq] at hq); omega) ?_ | fail)
  refine W_cond (by rfl) (fun h1 => by rw [beq_iff_eq] at h1; omega) (fun _ => ?_)
  repeat' (first | refine WK_go ?_ | refine W_seqL ?_ | refine W_seq ?_ | refine W_block ?_ | ((first | refine W_regL ?_ | refine W_skip ?_ | refine W_exit ?_); simp (maxSteps := 400000) (disch := omega) only [push_cast, ↓reduceIte, reduceCtorEq, Nat.reduceAdd, Nat.reduceSub, Nat.reduceEqDiff, Nat.reduceLeDiff, Nat.reduceLT, Nat.reduceBEq, Nat.reduceDiv, Nat.reduceMod, Nat.reducePow, Nat.reduceMul, Int.reduceToNat, Int.reduceLT, Int.reduceLE]) | refine And.intro (by omega) ?_ | refine And.intro (by intro hq; (try simp only [Bool.and_eq_true, Bool.or_eq_true, Bool.and_eq_false_iff, Bool.or_eq_false_iff, decide_eq_true_eq, decide_eq_false_iff_not, Bool.not_eq_true', Bool.not_eq_false', beq_iff_eq, beq_eq_false_iff_ne, ne_eq] at hq); omega) ?_ | fail)
  refine W_condD (by rfl) (fun h1 => by omega) (fun _ => ?_)
  repeat' (first | refine WK_go ?_ | refine W_seqL ?_ | refine W_seq ?_ | refine W_block ?_ | ((first | refine W_regL ?_ | refine W_skip ?_ | refine W_exit ?_); simp (maxSteps := 400000) (disch := omega) only [push_cast, ↓reduceIte, reduceCtorEq, Nat.reduceAdd, Nat.reduceSub, Nat.reduceEqDiff, Nat.reduceLeDiff, Nat.reduceLT, Nat.reduceBEq, Nat.reduceDiv, Nat.reduceMod, Nat.reducePow, Nat.reduceMul, Int.reduceToNat, Int.reduceLT, Int.reduceLE]) | refine And.intro (by omega) ?_ | refine And.intro (by intro hq; (try simp only [Bool.and_eq_true, Bool.or_eq_true, Bool.and_eq_false_iff, Bool.or_eq_false_iff, decide_eq_true_eq, decide_eq_false_iff_not, Bool.not_eq_true', Bool.not_eq_false', beq_iff_eq, beq_eq_false_iff_ne, ne_eq] at hq); omega) ?_ | fail)
  refine W_cond (by rfl) (fun h1 => ?_) (fun h1 => ?_)
  · rw [beq_iff_eq] at h1
    subst h1
    have e1 := Int.ediv_nonneg hl.1 (show 0 ≤ y by omega)
    have e2 : lo / y ≤ lo := Int.ediv_le_self _ hl.1
    repeat' (first | refine WK_go ?_ | refine W_seqL ?_ | refine W_seq ?_ | refine W_block ?_ | ((first | refine W_regL ?_ | refine W_skip ?_ | refine W_exit ?_); simp (maxSteps := 400000) (disch := omega) only [push_cast, ↓reduceIte, reduceCtorEq, Nat.reduceAdd, Nat.reduceSub, Nat.reduceEqDiff, Nat.reduceLeDiff, Nat.reduceLT, Nat.reduceBEq, Nat.reduceDiv, Nat.reduceMod, Nat.reducePow, Nat.reduceMul, Int.reduceToNat, Int.reduceLT, Int.reduceLE, Int.tdiv_eq_ediv_of_nonneg, Int.tmod_eq_emod_of_nonneg, wrapU]) | refine And.intro (by omega) ?_ | refine And.intro (by intro hq; (try simp only [Bool.and_eq_true, Bool.or_eq_true, Bool.and_eq_false_iff, Bool.or_eq_false_iff, decide_eq_true_eq, decide_eq_false_iff_not, Bool.not_eq_true', Bool.not_eq_false', beq_iff_eq, beq_eq_false_iff_ne, ne_eq] at hq); omega) ?_ | fail)
    exact W_ret ⟨[_, _], ⟨rfl, rfl, rfl⟩, by simp; rfl⟩
  have w1 : IntKind.u64.wrap (64 - (n : Int)) = 64 - n := wrapU ⟨by omega, by omega⟩
  have w2 : min (64 - (n : Int)).toNat IntKind.u64.bits = 64 - n := by show min _ 64 = _; omega
  have w3 : min n IntKind.u64.bits = n := by show min _ 64 = _; omega
  have w4 : IntKind.u64.wrap (n : Int) = n := wrapU ⟨by omega, by omega⟩
  have hk : (0 : Int) < 2 ^ (64 - n) := Int.pow_pos (by omega)
  have hh : 0 ≤ hi * 2 ^ (64 - n) := Int.mul_nonneg h.1 (Int.le_of_lt hk)
  have w5 : IntKind.u64.wrap (64 - (64 - (n : Int))) = n := by rw [show 64 - (64 - (n : Int)) = n by omega]; exact w4
  have w6 : IntKind.u64.wrap (y * 2 ^ (64 - n)) = y * 2 ^ (64 - n) := wrapU (by omega)
  have w7 : IntKind.u64.wrap (hi * 2 ^ (64 - n)) = hi * 2 ^ (64 - n) := wrapU (by omega)
  have w8 : lo.fdiv (2 ^ n) = lo / 2 ^ n := Int.fdiv_eq_ediv_of_nonneg _ (Int.le_of_lt (Int.pow_pos (by omega)))
  have w9 := or_add (a := hi) (b := lo / 2 ^ n) (k := 64 - n) h.1 hp4 hp5 (by omega)
  have w10 : IntKind.u64.wrap (lo * 2 ^ (64 - n)) = lo * 2 ^ (64 - n) % 18446744073709551616 := IntKind.wrap_u64 _
  have wm := maskI (a := y * 2 ^ (64 - n)) (by omega)
  have wm2 := maskI (a := lo * 2 ^ (64 - n) % 18446744073709551616) (by omega)
  have hld := fun d1 d0 => long_div (y := y) (P := 2 ^ (64 - n)) (N := hi * 18446744073709551616 + lo) (u := hi * 2 ^ (64 - n) + lo / 2 ^ n) (d1 := d1) (d0 := d0) (by omega) hk
  repeat' (first | refine WK_go ?_ | refine W_seqL ?_ | refine W_seq ?_ | refine W_block ?_ | ((first | refine W_regL ?_ | refine W_skip ?_ | refine W_exit ?_ | refine CallC.now (c) ?_); simp (maxSteps := 400000) (disch := omega) only [push_cast, ↓reduceIte, reduceCtorEq, Nat.reduceAdd, Nat.reduceSub, Nat.reduceEqDiff, Nat.reduceLeDiff, Nat.reduceLT, Nat.reduceBEq, Nat.reduceDiv, Nat.reduceMod, Nat.reducePow, Nat.reduceMul, Int.reduceToNat, Int.reduceLT, Int.reduceLE, w1, w2, w3, w4, w5, w6, w7, w8, w9, w10, wm, wm2, shr32]) | refine And.intro (by omega) ?_ | refine And.intro (by intro hq; (try simp only [Bool.and_eq_true, Bool.or_eq_true, Bool.and_eq_false_iff, Bool.or_eq_false_iff, decide_eq_true_eq, decide_eq_false_iff_not, Bool.not_eq_true', Bool.not_eq_false', beq_iff_eq, beq_eq_false_iff_ne, ne_eq] at hq); omega) ?_ | fail)
  generalize hD : y * 2 ^ (64 - n) = Y at *
  generalize hU : hi * 2 ^ (64 - n) + lo / 2 ^ n = u at *
  generalize hE : lo * 2 ^ (64 - n) % 18446744073709551616 = e at *
  have heb : 0 ≤ e ∧ e < 18446744073709551616 := by subst hE; omega
  have H1 : Half Y u (e / 4294967296) := ⟨hsu, ⟨hp2, hp3⟩, by omega⟩
  obtain ⟨s1, s2, s3, s4, s5⟩ := H1.start
  have v1 : u.tdiv (Y / 4294967296) = u / (Y / 4294967296) := Int.tdiv_eq_ediv_of_nonneg hp2
  have s0 : 0 ≤ u / (Y / 4294967296) := Int.ediv_nonneg hp2 (by omega)
  have v2 : IntKind.u64.wrap (u / (Y / 4294967296)) = u / (Y / 4294967296) := wrapU (by omega)
  have s00 : 0 ≤ u / (Y / 4294967296) * (Y / 4294967296) := Int.mul_nonneg s0 (by omega)
  have v3 : IntKind.u64.wrap (u / (Y / 4294967296) * (Y / 4294967296)) = u / (Y / 4294967296) * (Y / 4294967296) := wrapU (by omega)
  have v4 : IntKind.u64.wrap (u - u / (Y / 4294967296) * (Y / 4294967296)) = u % (Y / 4294967296) := by
    rw [show u - u / (Y / 4294967296) * (Y / 4294967296) = u % (Y / 4294967296) by omega]; exact wrapU (by omega)
  rw [v1, v2, v3, v4]
  generalize hq0 : u / (Y / 4294967296) = q0 at *
  generalize hr0 : u % (Y / 4294967296) = r0 at *
  generalize hQ : Half.q Y u (e / 4294967296) = Q1 at *
  have wd : 0 ≤ e / 4294967296 ∧ e / 4294967296 < 4294967296 := by omega
  have we : 0 ≤ e % 4294967296 ∧ e % 4294967296 < 4294967296 := by omega
  have hQb := H1.lt
  refine W_meetB [(15, uw Q1)] [] ?_ ?_
  · refine W_loopU (fun p : Int × Int => [(15, uw p.1), (16, uw p.2)]) (fun i => []) (fun p => p.1 * (Y / 4294967296) + p.2 = u ∧ Q1 ≤ p.1 ∧ p.1 ≤ 4294967297 ∧ 0 ≤ p.2 ∧ p.2 < 4294967296) (fun p => p.1.toNat) (q0, r0) ⟨s1, s2, s3, s4, s5⟩ (by rfl) (by rfl) (fun p hp => ?_)
    obtain ⟨q, r⟩ := p
    obtain ⟨i1, i2, i3, i4, i5⟩ := hp
    simp only at i1 i2 i3 i4 i5
    have m0 : 0 ≤ q * (Y % 4294967296) := Int.mul_nonneg (by omega) (by omega)
    have v5 : IntKind.u64.wrap (4294967296 * r) = 4294967296 * r := wrapU (by omega)
    have v6 : IntKind.u64.wrap (4294967296 * r + e / 4294967296) = 4294967296 * r + e / 4294967296 := wrapU (by omega)
    have m1 : q < 4294967296 → q * (Y % 4294967296) ≤ 4294967295 * 4294967295 := fun hq => Int.mul_le_mul (by omega) (by omega) (by omega) (by omega)
    have v7 : q < 4294967296 → IntKind.u64.wrap (q * (Y % 4294967296)) = q * (Y % 4294967296) := fun hq => wrapU ⟨m0, by have := m1 hq; omega⟩
    simp (maxSteps := 400000) (disch := omega) only [push_cast, ↓reduceIte, reduceCtorEq, Nat.reduceAdd, Nat.reduceSub, Nat.reduceEqDiff, Nat.reduceLeDiff, Nat.reduceLT, Nat.reduceBEq, Nat.reduceDiv, Nat.reduceMod, Nat.reducePow, Nat.reduceMul, Int.reduceToNat, Int.reduceLT, Int.reduceLE]
    repeat' (first | refine WK_go ?_ | refine W_seqL ?_ | refine W_seq ?_ | refine W_block ?_ | ((first | refine W_regL ?_ | refine W_skip ?_ | refine W_exit ?_); simp (maxSteps := 400000) (disch := omega) only [push_cast, ↓reduceIte, reduceCtorEq, Nat.reduceAdd, Nat.reduceSub, Nat.reduceEqDiff, Nat.reduceLeDiff, Nat.reduceLT, Nat.reduceBEq, Nat.reduceDiv, Nat.reduceMod, Nat.reducePow, Nat.reduceMul, Int.reduceToNat, Int.reduceLT, Int.reduceLE, v5, v6]) | refine And.intro (by omega) ?_ | refine And.intro (by intro hq; (try simp only [Bool.and_eq_true, Bool.or_eq_true, Bool.and_eq_false_iff, Bool.or_eq_false_iff, decide_eq_true_eq, decide_eq_false_iff_not, Bool.not_eq_true', Bool.not_eq_false', beq_iff_eq, beq_eq_false_iff_ne, ne_eq] at hq); omega) ?_ | fail)
    refine W_cond (by rfl) (fun hb => ?_) (fun hb => ?_)
    · have hc : 4294967296 ≤ q ∨ 4294967296 * r + e / 4294967296 < q * (Y % 4294967296) := by
        rw [Bool.or_eq_true, decide_eq_true_eq, decide_eq_true_eq] at hb
        by_cases hq : 4294967296 ≤ q
        · exact .inl hq
        · rw [v7 (by omega)] at hb
          exact .inr (hb.resolve_left hq)
      obtain ⟨t1, t2⟩ := H1.step i1 (by rw [hQ]; exact i2) hc
      rw [hQ] at t2
      have v8 : IntKind.u64.wrap (q - 1) = q - 1 := wrapU (by omega)
      have v9 : IntKind.u64.wrap (r + Y / 4294967296) = r + Y / 4294967296 := wrapU (by omega)
      repeat' (first | refine WK_go ?_ | refine W_seqL ?_ | refine W_seq ?_ | refine W_block ?_ | ((first | refine W_regL ?_ | refine W_skip ?_ | refine W_exit ?_); simp (maxSteps := 400000) (disch := omega) only [push_cast, ↓reduceIte, reduceCtorEq, Nat.reduceAdd, Nat.reduceSub, Nat.reduceEqDiff, Nat.reduceLeDiff, Nat.reduceLT, Nat.reduceBEq, Nat.reduceDiv, Nat.reduceMod, Nat.reducePow, Nat.reduceMul, Int.reduceToNat, Int.reduceLT, Int.reduceLE, v8, v9]) | refine And.intro (by omega) ?_ | refine And.intro (by intro hq; (try simp only [Bool.and_eq_true, Bool.or_eq_true, Bool.and_eq_false_iff, Bool.or_eq_false_iff, decide_eq_true_eq, decide_eq_false_iff_not, Bool.not_eq_true', Bool.not_eq_false', beq_iff_eq, beq_eq_false_iff_ne, ne_eq] at hq); omega) ?_ | fail)
      refine W_condD (by rfl) (fun hr => ?_) (fun hr => ?_)
      · have hbr := H1.break t1 (by rw [hQ]; exact t2) (by omega) hr
        rw [hQ] at hbr
        repeat' (first | refine WK_go ?_ | refine W_seqL ?_ | refine W_seq ?_ | refine W_block ?_ | ((first | refine W_regL ?_ | refine W_skip ?_ | refine W_exit ?_); simp (maxSteps := 400000) (disch := omega) only [push_cast, ↓reduceIte, reduceCtorEq, Nat.reduceAdd, Nat.reduceSub, Nat.reduceEqDiff, Nat.reduceLeDiff, Nat.reduceLT, Nat.reduceBEq, Nat.reduceDiv, Nat.reduceMod, Nat.reducePow, Nat.reduceMul, Int.reduceToNat, Int.reduceLT, Int.reduceLE]) | refine And.intro (by omega) ?_ | refine And.intro (by intro hq; (try simp only [Bool.and_eq_true, Bool.or_eq_true, Bool.and_eq_false_iff, Bool.or_eq_false_iff, decide_eq_true_eq, decide_eq_false_iff_not, Bool.not_eq_true', Bool.not_eq_false', beq_iff_eq, beq_eq_false_iff_ne, ne_eq] at hq); omega) ?_ | fail)
        refine ⟨by rfl, ?_⟩
        simp (maxSteps := 400000) (disch := omega) only [push_cast, ↓reduceIte, reduceCtorEq, Nat.reduceAdd, Nat.reduceSub, Nat.reduceEqDiff, Nat.reduceLeDiff, Nat.reduceLT, Nat.reduceBEq, Nat.reduceDiv, Nat.reduceMod, Nat.reducePow, Nat.reduceMul, Int.reduceToNat, Int.reduceLT, Int.reduceLE, S.mk.injEq, List.cons.injEq, Prod.mk.injEq, AV.v.injEq, Value.int.injEq, Value.bool.injEq, Blk.cells.injEq, hbr]
      · repeat' (first | refine WK_go ?_ | refine W_seqL ?_ | refine W_seq ?_ | refine W_block ?_ | ((first | refine W_regL ?_ | refine W_skip ?_ | refine W_exit ?_); simp (maxSteps := 400000) (disch := omega) only [push_cast, ↓reduceIte, reduceCtorEq, Nat.reduceAdd, Nat.reduceSub, Nat.reduceEqDiff, Nat.reduceLeDiff, Nat.reduceLT, Nat.reduceBEq, Nat.reduceDiv, Nat.reduceMod, Nat.reducePow, Nat.reduceMul, Int.reduceToNat, Int.reduceLT, Int.reduceLE]) | refine And.intro (by omega) ?_ | refine And.intro (by intro hq; (try simp only [Bool.and_eq_true, Bool.or_eq_true, Bool.and_eq_false_iff, Bool.or_eq_false_iff, decide_eq_true_eq, decide_eq_false_iff_not, Bool.not_eq_true', Bool.not_eq_false', beq_iff_eq, beq_eq_false_iff_ne, ne_eq] at hq); omega) ?_ | fail)
        refine ⟨(q - 1, r + Y / 4294967296), ⟨t1, t2, by simp only []; omega, by simp only []; omega, by simp only []; omega⟩, by simp only []; omega, by rfl, ?_⟩
        simp (maxSteps := 400000) (disch := omega) only [push_cast, ↓reduceIte, reduceCtorEq, Nat.reduceAdd, Nat.reduceSub, Nat.reduceEqDiff, Nat.reduceLeDiff, Nat.reduceLT, Nat.reduceBEq, Nat.reduceDiv, Nat.reduceMod, Nat.reducePow, Nat.reduceMul, Int.reduceToNat, Int.reduceLT, Int.reduceLE, S.mk.injEq, List.cons.injEq, Prod.mk.injEq, AV.v.injEq, Value.int.injEq, Value.bool.injEq, Blk.cells.injEq]
    · rw [Bool.or_eq_false_iff, decide_eq_false_iff_not, decide_eq_false_iff_not] at hb
      have hst := H1.stop i1 (by rw [hQ]; exact i2) (by rw [v7 (by omega)] at hb; omega)
      rw [hQ] at hst
      repeat' (first | refine WK_go ?_ | refine W_seqL ?_ | refine W_seq ?_ | refine W_block ?_ | ((first | refine W_regL ?_ | refine W_skip ?_ | refine W_exit ?_); simp (maxSteps := 400000) (disch := omega) only [push_cast, ↓reduceIte, reduceCtorEq, Nat.reduceAdd, Nat.reduceSub, Nat.reduceEqDiff, Nat.reduceLeDiff, Nat.reduceLT, Nat.reduceBEq, Nat.reduceDiv, Nat.reduceMod, Nat.reducePow, Nat.reduceMul, Int.reduceToNat, Int.reduceLT, Int.reduceLE]) | refine And.intro (by omega) ?_ | refine And.intro (by intro hq; (try simp only [Bool.and_eq_true, Bool.or_eq_true, Bool.and_eq_false_iff, Bool.or_eq_false_iff, decide_eq_true_eq, decide_eq_false_iff_not, Bool.not_eq_true', Bool.not_eq_false', beq_iff_eq, beq_eq_false_iff_ne, ne_eq] at hq); omega) ?_ | fail)
      refine ⟨by rfl, ?_⟩
      simp (maxSteps := 400000) (disch := omega) only [push_cast, ↓reduceIte, reduceCtorEq, Nat.reduceAdd, Nat.reduceSub, Nat.reduceEqDiff, Nat.reduceLeDiff, Nat.reduceLT, Nat.reduceBEq, Nat.reduceDiv, Nat.reduceMod, Nat.reducePow, Nat.reduceMul, Int.reduceToNat, Int.reduceLT, Int.reduceLE, S.mk.injEq, List.cons.injEq, Prod.mk.injEq, AV.v.injEq, Value.int.injEq, Value.bool.injEq, Blk.cells.injEq, hst]
  generalize hR : Half.r Y u (e / 4294967296) = R1 at *
  have hRb := H1.r_lt
  rw [hR] at hRb
  have H0 : Half Y R1 (e % 4294967296) := ⟨hsu, hRb, we⟩
  have hR' : u * 4294967296 + e / 4294967296 - Q1 * Y = R1 := by rw [← hR, ← hQ]; rfl
  have x1 : IntKind.u64.wrap (IntKind.u64.wrap (IntKind.u64.wrap (u * 4294967296) + e / 4294967296) - IntKind.u64.wrap (Q1 * Y)) = R1 := wrap_rem hR' (by omega)
  obtain ⟨s1', s2', s3', s4', s5'⟩ := H0.start
  have v1' : R1.tdiv (Y / 4294967296) = R1 / (Y / 4294967296) := Int.tdiv_eq_ediv_of_nonneg hRb.1
  have s0' : 0 ≤ R1 / (Y / 4294967296) := Int.ediv_nonneg hRb.1 (by omega)
  have v2' : IntKind.u64.wrap (R1 / (Y / 4294967296)) = R1 / (Y / 4294967296) := wrapU (by omega)
  have s00' : 0 ≤ R1 / (Y / 4294967296) * (Y / 4294967296) := Int.mul_nonneg s0' (by omega)
  have v3' : IntKind.u64.wrap (R1 / (Y / 4294967296) * (Y / 4294967296)) = R1 / (Y / 4294967296) * (Y / 4294967296) := wrapU (by omega)
  have v4' : IntKind.u64.wrap (R1 - R1 / (Y / 4294967296) * (Y / 4294967296)) = R1 % (Y / 4294967296) := by
    rw [show R1 - R1 / (Y / 4294967296) * (Y / 4294967296) = R1 % (Y / 4294967296) by omega]; exact wrapU (by omega)
  simp (maxSteps := 400000) (disch := omega) only [push_cast, ↓reduceIte, reduceCtorEq, Nat.reduceAdd, Nat.reduceSub, Nat.reduceEqDiff, Nat.reduceLeDiff, Nat.reduceLT, Nat.reduceBEq, Nat.reduceDiv, Nat.reduceMod, Nat.reducePow, Nat.reduceMul, Int.reduceToNat, Int.reduceLT, Int.reduceLE]
  repeat' (first | refine WK_go ?_ | refine W_seqL ?_ | refine W_seq ?_ | refine W_block ?_ | ((first | refine W_regL ?_ | refine W_skip ?_ | refine W_exit ?_); simp (maxSteps := 400000) (disch := omega) only [push_cast, ↓reduceIte, reduceCtorEq, Nat.reduceAdd, Nat.reduceSub, Nat.reduceEqDiff, Nat.reduceLeDiff, Nat.reduceLT, Nat.reduceBEq, Nat.reduceDiv, Nat.reduceMod, Nat.reducePow, Nat.reduceMul, Int.reduceToNat, Int.reduceLT, Int.reduceLE, x1, v1', v2', v3', v4']) | refine And.intro (by omega) ?_ | refine And.intro (by intro hq; (try simp only [Bool.and_eq_true, Bool.or_eq_true, Bool.and_eq_false_iff, Bool.or_eq_false_iff, decide_eq_true_eq, decide_eq_false_iff_not, Bool.not_eq_true', Bool.not_eq_false', beq_iff_eq, beq_eq_false_iff_ne, ne_eq] at hq); omega) ?_ | fail)
  generalize hq0' : R1 / (Y / 4294967296) = q0' at *
  generalize hr0' : R1 % (Y / 4294967296) = r0' at *
  generalize hQ' : Half.q Y R1 (e % 4294967296) = Q0 at *
  have hQb' := H0.lt
  rw [hQ] at hQb
  rw [hQ'] at hQb'
  refine W_meetB [(18, uw Q0)] [] ?_ ?_
  · refine W_loopU (fun p : Int × Int => [(18, uw p.1), (16, uw p.2)]) (fun i => []) (fun p => p.1 * (Y / 4294967296) + p.2 = R1 ∧ Q0 ≤ p.1 ∧ p.1 ≤ 4294967297 ∧ 0 ≤ p.2 ∧ p.2 < 4294967296) (fun p => p.1.toNat) (q0', r0') ⟨s1', s2', s3', s4', s5'⟩ (by rfl) (by rfl) (fun p hp => ?_)
    obtain ⟨q, r⟩ := p
    obtain ⟨i1, i2, i3, i4, i5⟩ := hp
    simp only at i1 i2 i3 i4 i5
    have m0 : 0 ≤ q * (Y % 4294967296) := Int.mul_nonneg (by omega) (by omega)
    have v5 : IntKind.u64.wrap (4294967296 * r) = 4294967296 * r := wrapU (by omega)
    have v6 : IntKind.u64.wrap (4294967296 * r + e % 4294967296) = 4294967296 * r + e % 4294967296 := wrapU (by omega)
    have m1 : q < 4294967296 → q * (Y % 4294967296) ≤ 4294967295 * 4294967295 := fun hq => Int.mul_le_mul (by omega) (by omega) (by omega) (by omega)
    have v7 : q < 4294967296 → IntKind.u64.wrap (q * (Y % 4294967296)) = q * (Y % 4294967296) := fun hq => wrapU ⟨m0, by have := m1 hq; omega⟩
    simp (maxSteps := 400000) (disch := omega) only [push_cast, ↓reduceIte, reduceCtorEq, Nat.reduceAdd, Nat.reduceSub, Nat.reduceEqDiff, Nat.reduceLeDiff, Nat.reduceLT, Nat.reduceBEq, Nat.reduceDiv, Nat.reduceMod, Nat.reducePow, Nat.reduceMul, Int.reduceToNat, Int.reduceLT, Int.reduceLE]
    repeat' (first | refine WK_go ?_ | refine W_seqL ?_ | refine W_seq ?_ | refine W_block ?_ | ((first | refine W_regL ?_ | refine W_skip ?_ | refine W_exit ?_); simp (maxSteps := 400000) (disch := omega) only [push_cast, ↓reduceIte, reduceCtorEq, Nat.reduceAdd, Nat.reduceSub, Nat.reduceEqDiff, Nat.reduceLeDiff, Nat.reduceLT, Nat.reduceBEq, Nat.reduceDiv, Nat.reduceMod, Nat.reducePow, Nat.reduceMul, Int.reduceToNat, Int.reduceLT, Int.reduceLE, v5, v6]) | refine And.intro (by omega) ?_ | refine And.intro (by intro hq; (try simp only [Bool.and_eq_true, Bool.or_eq_true, Bool.and_eq_false_iff, Bool.or_eq_false_iff, decide_eq_true_eq, decide_eq_false_iff_not, Bool.not_eq_true', Bool.not_eq_false', beq_iff_eq, beq_eq_false_iff_ne, ne_eq] at hq); omega) ?_ | fail)
    refine W_cond (by rfl) (fun hb => ?_) (fun hb => ?_)
    · have hc : 4294967296 ≤ q ∨ 4294967296 * r + e % 4294967296 < q * (Y % 4294967296) := by
        rw [Bool.or_eq_true, decide_eq_true_eq, decide_eq_true_eq] at hb
        by_cases hq : 4294967296 ≤ q
        · exact .inl hq
        · rw [v7 (by omega)] at hb
          exact .inr (hb.resolve_left hq)
      obtain ⟨t1, t2⟩ := H0.step i1 (by rw [hQ']; exact i2) hc
      rw [hQ'] at t2
      have v8 : IntKind.u64.wrap (q - 1) = q - 1 := wrapU (by omega)
      have v9 : IntKind.u64.wrap (r + Y / 4294967296) = r + Y / 4294967296 := wrapU (by omega)
      repeat' (first | refine WK_go ?_ | refine W_seqL ?_ | refine W_seq ?_ | refine W_block ?_ | ((first | refine W_regL ?_ | refine W_skip ?_ | refine W_exit ?_); simp (maxSteps := 400000) (disch := omega) only [push_cast, ↓reduceIte, reduceCtorEq, Nat.reduceAdd, Nat.reduceSub, Nat.reduceEqDiff, Nat.reduceLeDiff, Nat.reduceLT, Nat.reduceBEq, Nat.reduceDiv, Nat.reduceMod, Nat.reducePow, Nat.reduceMul, Int.reduceToNat, Int.reduceLT, Int.reduceLE, v8, v9]) | refine And.intro (by omega) ?_ | refine And.intro (by intro hq; (try simp only [Bool.and_eq_true, Bool.or_eq_true, Bool.and_eq_false_iff, Bool.or_eq_false_iff, decide_eq_true_eq, decide_eq_false_iff_not, Bool.not_eq_true', Bool.not_eq_false', beq_iff_eq, beq_eq_false_iff_ne, ne_eq] at hq); omega) ?_ | fail)
      refine W_condD (by rfl) (fun hr => ?_) (fun hr => ?_)
      · have hbr := H0.break t1 (by rw [hQ']; exact t2) (by omega) hr
        rw [hQ'] at hbr
        repeat' (first | refine WK_go ?_ | refine W_seqL ?_ | refine W_seq ?_ | refine W_block ?_ | ((first | refine W_regL ?_ | refine W_skip ?_ | refine W_exit ?_); simp (maxSteps := 400000) (disch := omega) only [push_cast, ↓reduceIte, reduceCtorEq, Nat.reduceAdd, Nat.reduceSub, Nat.reduceEqDiff, Nat.reduceLeDiff, Nat.reduceLT, Nat.reduceBEq, Nat.reduceDiv, Nat.reduceMod, Nat.reducePow, Nat.reduceMul, Int.reduceToNat, Int.reduceLT, Int.reduceLE]) | refine And.intro (by omega) ?_ | refine And.intro (by intro hq; (try simp only [Bool.and_eq_true, Bool.or_eq_true, Bool.and_eq_false_iff, Bool.or_eq_false_iff, decide_eq_true_eq, decide_eq_false_iff_not, Bool.not_eq_true', Bool.not_eq_false', beq_iff_eq, beq_eq_false_iff_ne, ne_eq] at hq); omega) ?_ | fail)
        refine ⟨by rfl, ?_⟩
        simp (maxSteps := 400000) (disch := omega) only [push_cast, ↓reduceIte, reduceCtorEq, Nat.reduceAdd, Nat.reduceSub, Nat.reduceEqDiff, Nat.reduceLeDiff, Nat.reduceLT, Nat.reduceBEq, Nat.reduceDiv, Nat.reduceMod, Nat.reducePow, Nat.reduceMul, Int.reduceToNat, Int.reduceLT, Int.reduceLE, S.mk.injEq, List.cons.injEq, Prod.mk.injEq, AV.v.injEq, Value.int.injEq, Value.bool.injEq, Blk.cells.injEq, hbr]
      · repeat' (first | refine WK_go ?_ | refine W_seqL ?_ | refine W_seq ?_ | refine W_block ?_ | ((first | refine W_regL ?_ | refine W_skip ?_ | refine W_exit ?_); simp (maxSteps := 400000) (disch := omega) only [push_cast, ↓reduceIte, reduceCtorEq, Nat.reduceAdd, Nat.reduceSub, Nat.reduceEqDiff, Nat.reduceLeDiff, Nat.reduceLT, Nat.reduceBEq, Nat.reduceDiv, Nat.reduceMod, Nat.reducePow, Nat.reduceMul, Int.reduceToNat, Int.reduceLT, Int.reduceLE]) | refine And.intro (by omega) ?_ | refine And.intro (by intro hq; (try simp only [Bool.and_eq_true, Bool.or_eq_true, Bool.and_eq_false_iff, Bool.or_eq_false_iff, decide_eq_true_eq, decide_eq_false_iff_not, Bool.not_eq_true', Bool.not_eq_false', beq_iff_eq, beq_eq_false_iff_ne, ne_eq] at hq); omega) ?_ | fail)
        refine ⟨(q - 1, r + Y / 4294967296), ⟨t1, t2, by simp only []; omega, by simp only []; omega, by simp only []; omega⟩, by simp only []; omega, by rfl, ?_⟩
        simp (maxSteps := 400000) (disch := omega) only [push_cast, ↓reduceIte, reduceCtorEq, Nat.reduceAdd, Nat.reduceSub, Nat.reduceEqDiff, Nat.reduceLeDiff, Nat.reduceLT, Nat.reduceBEq, Nat.reduceDiv, Nat.reduceMod, Nat.reducePow, Nat.reduceMul, Int.reduceToNat, Int.reduceLT, Int.reduceLE, S.mk.injEq, List.cons.injEq, Prod.mk.injEq, AV.v.injEq, Value.int.injEq, Value.bool.injEq, Blk.cells.injEq]
    · rw [Bool.or_eq_false_iff, decide_eq_false_iff_not, decide_eq_false_iff_not] at hb
      have hst := H0.stop i1 (by rw [hQ']; exact i2) (by rw [v7 (by omega)] at hb; omega)
      rw [hQ'] at hst
      repeat' (first | refine WK_go ?_ | refine W_seqL ?_ | refine W_seq ?_ | refine W_block ?_ | ((first | refine W_regL ?_ | refine W_skip ?_ | refine W_exit ?_); simp (maxSteps := 400000) (disch := omega) only [push_cast, ↓reduceIte, reduceCtorEq, Nat.reduceAdd, Nat.reduceSub, Nat.reduceEqDiff, Nat.reduceLeDiff, Nat.reduceLT, Nat.reduceBEq, Nat.reduceDiv, Nat.reduceMod, Nat.reducePow, Nat.reduceMul, Int.reduceToNat, Int.reduceLT, Int.reduceLE]) | refine And.intro (by omega) ?_ | refine And.intro (by intro hq; (try simp only [Bool.and_eq_true, Bool.or_eq_true, Bool.and_eq_false_iff, Bool.or_eq_false_iff, decide_eq_true_eq, decide_eq_false_iff_not, Bool.not_eq_true', Bool.not_eq_false', beq_iff_eq, beq_eq_false_iff_ne, ne_eq] at hq); omega) ?_ | fail)
      refine ⟨by rfl, ?_⟩
      simp (maxSteps := 400000) (disch := omega) only [push_cast, ↓reduceIte, reduceCtorEq, Nat.reduceAdd, Nat.reduceSub, Nat.reduceEqDiff, Nat.reduceLeDiff, Nat.reduceLT, Nat.reduceBEq, Nat.reduceDiv, Nat.reduceMod, Nat.reducePow, Nat.reduceMul, Int.reduceToNat, Int.reduceLT, Int.reduceLE, S.mk.injEq, List.cons.injEq, Prod.mk.injEq, AV.v.injEq, Value.int.injEq, Value.bool.injEq, Blk.cells.injEq, hst]
  have hQR := hld (e / 4294967296) (e % 4294967296) (by omega) H1 (by rw [hR]; exact H0)
  rw [hR, hQ, hQ'] at hQR
  have hR0 : R1 * 4294967296 + e % 4294967296 - Q0 * Y = Half.r Y R1 (e % 4294967296) := by rw [← hQ']; rfl
  have hRb0 := H0.r_lt
  have x2 := wrap_rem hR0 (by omega)
  have x3 : IntKind.u64.wrap (Q1 * 4294967296) = Q1 * 4294967296 := wrapU (by omega)
  have x4 : IntKind.u64.wrap (Q1 * 4294967296 + Q0) = Q1 * 4294967296 + Q0 := wrapU (by omega)
  have x5 : (Half.r Y R1 (e % 4294967296)).fdiv (2 ^ (64 - n)) = Half.r Y R1 (e % 4294967296) / 2 ^ (64 - n) := Int.fdiv_eq_ediv_of_nonneg _ (Int.le_of_lt hk)
  simp (maxSteps := 400000) (disch := omega) only [push_cast, ↓reduceIte, reduceCtorEq, Nat.reduceAdd, Nat.reduceSub, Nat.reduceEqDiff, Nat.reduceLeDiff, Nat.reduceLT, Nat.reduceBEq, Nat.reduceDiv, Nat.reduceMod, Nat.reducePow, Nat.reduceMul, Int.reduceToNat, Int.reduceLT, Int.reduceLE]
  repeat' (first | refine WK_go ?_ | refine W_seqL ?_ | refine W_seq ?_ | refine W_block ?_ | ((first | refine W_regL ?_ | refine W_skip ?_ | refine W_exit ?_); simp (maxSteps := 400000) (disch := omega) only [push_cast, ↓reduceIte, reduceCtorEq, Nat.reduceAdd, Nat.reduceSub, Nat.reduceEqDiff, Nat.reduceLeDiff, Nat.reduceLT, Nat.reduceBEq, Nat.reduceDiv, Nat.reduceMod, Nat.reducePow, Nat.reduceMul, Int.reduceToNat, Int.reduceLT, Int.reduceLE, x2, x3, x4, w2, x5]) | refine And.intro (by omega) ?_ | refine And.intro (by intro hq; (try simp only [Bool.and_eq_true, Bool.or_eq_true, Bool.and_eq_false_iff, Bool.or_eq_false_iff, decide_eq_true_eq, decide_eq_false_iff_not, Bool.not_eq_true', Bool.not_eq_false', beq_iff_eq, beq_eq_false_iff_ne, ne_eq] at hq); omega) ?_ | fail)
  rw [hQR.1, hQR.2]
  exact W_ret ⟨[_, _], ⟨rfl, rfl, rfl⟩, rfl⟩
end Go.Proofs.Ytbdnnicodailcaa

/- Division, rounded up. -/
namespace Go.Proofs.Ytbdnnicodailcaa
set_option linter.unusedVariables false
def cdiv (n d : Int) : Int := -(-n / d)
theorem lt_mul {a b w : Int} (hw : 0 < w) (h : a * w < b * w) : a < b := Int.lt_of_mul_lt_mul_right h (Int.le_of_lt hw)
theorem cdiv_le {n d : Int} (hd : 0 < d) : n ≤ cdiv n d * d ∧ cdiv n d * d < n + d := by
  unfold cdiv
  have a1 := Int.ediv_mul_add_emod (-n) d
  have a2 := Int.emod_nonneg (-n) (Int.ne_of_gt hd)
  have a3 := Int.emod_lt_of_pos (-n) hd
  rw [Int.neg_mul]
  omega
theorem cdiv_mono {n m d : Int} (hd : 0 < d) (h : n ≤ m) : cdiv n d ≤ cdiv m d := by
  unfold cdiv
  have := Int.ediv_le_ediv hd (show -m ≤ -n by omega)
  omega
/-- it is the least that is enough -/
theorem cdiv_iff {n d q : Int} (hd : 0 < d) : cdiv n d ≤ q ↔ n ≤ q * d := by
  obtain ⟨h1, h2⟩ := cdiv_le (n := n) hd
  constructor
  · intro h
    have := Int.mul_le_mul_of_nonneg_right h (Int.le_of_lt hd)
    omega
  · intro h
    have : cdiv n d * d < (q + 1) * d := by rw [Int.add_mul]; omega
    have := lt_mul hd this
    omega
theorem cdiv_nn {n d : Int} (hd : 0 < d) (h : 0 ≤ n) : 0 ≤ cdiv n d := by
  obtain ⟨h1, h2⟩ := cdiv_le (n := n) hd
  have : (-1) * d < cdiv n d * d := by omega
  have := lt_mul hd this
  omega
theorem cdiv_top {n d M : Int} (hd : 0 < d) (h : 0 ≤ n) (hM : n ≤ M) (hM0 : 0 ≤ M) : cdiv n d ≤ M := (cdiv_iff hd).2 (by
  have : M * 1 ≤ M * d := Int.mul_le_mul_of_nonneg_left (by omega) hM0
  omega)
theorem up_eq {a n : Int} (ha : 0 ≤ a) (hn : 0 < n) : (a + n - 1).tdiv n = cdiv a n := by
  rw [Int.tdiv_eq_ediv_of_nonneg (by omega)]
  obtain ⟨h1, h2⟩ := cdiv_le (n := a) hn
  have b1 := Int.ediv_mul_add_emod (a + n - 1) n
  have b2 := Int.emod_nonneg (a + n - 1) (Int.ne_of_gt hn)
  have b3 := Int.emod_lt_of_pos (a + n - 1) hn
  generalize cdiv a n = c at *
  generalize (a + n - 1) / n = q at *
  generalize (a + n - 1) % n = r at *
  have d1 := lt_mul (a := c) (b := q + 1) hn (by rw [Int.add_mul]; omega)
  have d2 := lt_mul (a := q) (b := c + 1) hn (by rw [Int.add_mul]; omega)
  omega
/-- by quotient and rest -/
theorem cdiv_qr {a n : Int} (ha : 0 ≤ a) (hn : 0 < n) : (if 0 < a % n then a / n + 1 else a / n) = cdiv a n := by
  obtain ⟨h1, h2⟩ := cdiv_le (n := a) hn
  have b1 := Int.ediv_mul_add_emod a n
  have b2 := Int.emod_nonneg a (Int.ne_of_gt hn)
  have b3 := Int.emod_lt_of_pos a hn
  generalize cdiv a n = c at *
  generalize a / n = q at *
  generalize a % n = r at *
  split
  · have d1 := lt_mul (a := c) (b := q + 2) hn (by rw [Int.add_mul]; omega)
    have d2 := lt_mul (a := q) (b := c) hn (by omega)
    omega
  · have d1 := lt_mul (a := c) (b := q + 1) hn (by rw [Int.add_mul]; omega)
    have d2 := Int.mul_le_mul_of_nonneg_right (show q ≤ q by omega) (Int.le_of_lt hn)
    have d3 := lt_mul (a := q - 1) (b := c) hn (by rw [Int.sub_mul]; omega)
    omega
end Go.Proofs.Ytbdnnicodailcaa

/- Bridges: lines of influence, effects, the worst ones: plain. -/
namespace Go.Proofs.Ytbdnnicodailcaa
set_option linter.unusedVariables false
structure Frc where
  x : Int
  p : Int
def dF : Frc := ⟨0, 0⟩
abbrev sf (t : List Frc) (i : Nat) : Frc := t.getD i dF
/-- the line of a moment -/
def momF (l x a : Int) : Int := if a < 0 ∨ l < a then 0 else if a ≤ x then a * (l - x) else x * (l - a)
/-- the line of an end -/
def endF (l : Int) (r : Bool) (a : Int) : Int := if a < 0 ∨ l < a then 0 else if r = true then a else l - a
/-- what the first n axles do -/
def effN (f : Int → Int) (t : List Frc) (s : Int) : Nat → Int
  | 0 => 0
  | n + 1 => effN f t s n + (sf t n).p * f (s - (sf t n).x)
def eff (f : Int → Int) (t : List Frc) (s : Int) : Int := effN f t s t.length
/-- the next place -/
def wstep (e : Int → Int) (o : Option Int) (s : Int) : Option Int :=
  match o with
  | none => some s
  | some a => if e a < e s ∨ (e s = e a ∧ s < a) then some s else some a
/-- behind i axles, and j kinks -/
def wJ (e : Int → Int) (t : List Frc) (ks : List Int) (o : Option Int) (i : Nat) : Nat → Option Int
  | 0 => o
  | j + 1 => wstep e (wJ e t ks o i j) (ks.getD j 0 + (sf t i).x)
def wI (e : Int → Int) (t : List Frc) (ks : List Int) : Nat → Option Int
  | 0 => none
  | i + 1 => wJ e t ks (wI e t ks i) i ks.length
/-- the place of the worst effect -/
def wst (e : Int → Int) (t : List Frc) (ks : List Int) : Option Int := wI e t ks t.length
/-- what is said of the best place -/
def Best (e : Int → Int) (B : Int → Prop) (a : Int) : Prop := B a ∧ ∀ s, B s → e s < e a ∨ (e s = e a ∧ a ≤ s)
def BestO (e : Int → Int) (B : Int → Prop) : Option Int → Prop
  | none => ∀ s, ¬ B s
  | some a => Best e B a
theorem wstep_best {e : Int → Int} {B : Int → Prop} {o : Option Int} {s : Int} (h : BestO e B o) : BestO e (fun y => B y ∨ y = s) (wstep e o s) := by
  cases o with
  | none =>
    refine ⟨.inr rfl, ?_⟩
    rintro y (hy | rfl)
    · exact absurd hy (h y)
    · exact .inr ⟨rfl, Int.le_refl _⟩
  | some a =>
    obtain ⟨h1, h2⟩ := h
    unfold wstep
    split
    · rename_i heq; cases heq
    · rename_i b heq
      cases heq
      split
      · rename_i hc
        refine ⟨.inr rfl, ?_⟩
        rintro y (hy | rfl)
        · have := h2 y hy; omega
        · exact .inr ⟨rfl, Int.le_refl _⟩
      · rename_i hc
        refine ⟨.inl h1, ?_⟩
        rintro y (hy | rfl)
        · exact h2 y hy
        · omega
theorem BestO.congr {e : Int → Int} {B C : Int → Prop} {o : Option Int} (h : BestO e B o) (hc : ∀ s, B s ↔ C s) : BestO e C o := by
  cases o with
  | none => exact fun s hs => h s ((hc s).2 hs)
  | some a => exact ⟨(hc a).1 h.1, fun s hs => h.2 s ((hc s).2 hs)⟩
theorem wJ_best {e : Int → Int} {t : List Frc} {ks : List Int} {B : Int → Prop} {o : Option Int} (h : BestO e B o) (i : Nat) : ∀ n, BestO e (fun y => B y ∨ ∃ j, j < n ∧ y = ks.getD j 0 + (sf t i).x) (wJ e t ks o i n)
  | 0 => h.congr (fun s => ⟨.inl, fun q => q.elim id (fun ⟨j, hj, _⟩ => by omega)⟩)
  | n + 1 => (wstep_best (wJ_best h i n)).congr (fun s => by
    constructor
    · rintro ((q | ⟨j, hj, q⟩) | q)
      · exact .inl q
      · exact .inr ⟨j, by omega, q⟩
      · exact .inr ⟨n, by omega, q⟩
    · rintro (q | ⟨j, hj, q⟩)
      · exact .inl (.inl q)
      · by_cases e : j = n
        · subst e; exact .inr q
        · exact .inl (.inr ⟨j, by omega, q⟩))
/-- a break -/
def Brk (t : List Frc) (ks : List Int) (n : Nat) (y : Int) : Prop := ∃ i, i < n ∧ ∃ j, j < ks.length ∧ y = ks.getD j 0 + (sf t i).x
theorem wI_best {e : Int → Int} {t : List Frc} {ks : List Int} : ∀ n, BestO e (Brk t ks n) (wI e t ks n)
  | 0 => fun s ⟨i, hi, _⟩ => by omega
  | n + 1 => (wJ_best (wI_best n) n ks.length).congr (fun s => by
    constructor
    · rintro (⟨i, hi, q⟩ | ⟨j, hj, q⟩)
      · exact ⟨i, by omega, q⟩
      · exact ⟨n, by omega, j, hj, q⟩
    · rintro ⟨i, hi, j, hj, q⟩
      by_cases e : i = n
      · subst e; exact .inr ⟨j, hj, q⟩
      · exact .inl ⟨i, by omega, j, hj, q⟩)
theorem wst_best (e : Int → Int) {t : List Frc} {ks : List Int} (ht : 0 < t.length) (hk : 0 < ks.length) : ∃ a, wst e t ks = some a ∧ Best e (Brk t ks t.length) a := by
  have h := wI_best (e := e) (t := t) (ks := ks) t.length
  unfold wst
  cases q : wI e t ks t.length with
  | none => rw [q] at h; exact absurd ⟨0, ht, 0, hk, rfl⟩ (h _)
  | some a => rw [q] at h; exact ⟨a, rfl, h⟩
/-- between neighbouring kinks a line lies below its chord, and nothing is outside -/
structure Line (f : Int → Int) (ks : List Int) : Prop where
  nn : ∀ a, 0 ≤ f a
  lo : ∀ a, (∀ k ∈ ks, a < k) → f a = 0
  hi : ∀ a, (∀ k ∈ ks, k < a) → f a = 0
  mid : ∀ a b s, a ≤ s → s ≤ b → (∀ k ∈ ks, k ≤ a ∨ b ≤ k) → f s * (b - a) ≤ f a * (b - s) + f b * (s - a)
theorem effN_nn {f : Int → Int} {t : List Frc} {s : Int} (hf : ∀ a, 0 ≤ f a) : ∀ {n : Nat}, (∀ i, i < n → 0 ≤ (sf t i).p) → 0 ≤ effN f t s n
  | 0, _ => Int.le_refl _
  | n + 1, h => by
    simp only [effN]
    have h1 := effN_nn (s := s) hf (fun i hi => h i (Nat.lt_succ_of_lt hi))
    have h2 := Int.mul_nonneg (h n (by omega)) (hf (s - (sf t n).x))
    omega
theorem Line.shift {f : Int → Int} {ks : List Int} (h : Line f ks) (d : Int) : Line (fun a => f (a - d)) (ks.map (fun k => d + k)) where
  nn := fun a => h.nn _
  lo := fun a ha => h.lo _ (fun k hk => by have := ha _ (List.mem_map.2 ⟨k, hk, rfl⟩); omega)
  hi := fun a ha => h.hi _ (fun k hk => by have := ha _ (List.mem_map.2 ⟨k, hk, rfl⟩); omega)
  mid := fun a b s h1 h2 h3 => by
    have := h.mid (a - d) (b - d) (s - d) (by omega) (by omega) (fun k hk => by have := h3 _ (List.mem_map.2 ⟨k, hk, rfl⟩); omega)
    have e1 : b - d - (a - d) = b - a := by omega
    have e2 : b - d - (s - d) = b - s := by omega
    have e3 : s - d - (a - d) = s - a := by omega
    rw [e1, e2, e3] at this
    exact this
end Go.Proofs.Ytbdnnicodailcaa

/- Pavements: plain. -/
namespace Go.Proofs.Ytbdnnicodailcaa
set_option linter.unusedVariables false
structure Pav where
  load : Int
  life : Int
  power : Int
/-- the wear of an axle, behind k steps -/
def wN (r : Int) : Nat → Int
  | 0 => r
  | k + 1 => if wN r k ≤ 1073741824 then cdiv (wN r k * r) 1000 else wN r k
def wR (p : Pav) (f : Frc) : Int := cdiv (f.p * 1000) p.load
def wA (p : Pav) (f : Frc) : Int := wN (wR p f) (p.power - 1).toNat
/-- the wears of the first n axles -/
def wS (p : Pav) (t : List Frc) : Nat → Int
  | 0 => 0
  | n + 1 => wS p t n + wA p (sf t n)
def wB (p : Pav) (t : List Frc) (i : Nat) : Bool := decide (wA p (sf t i) ≤ 1073741824) && decide (wS p t (i + 1) ≤ 1073741824)
def wOK (p : Pav) (t : List Frc) : Bool := (List.range t.length).all (wB p t)
theorem wOK_iff {p : Pav} {t : List Frc} : wOK p t = true ↔ ∀ i, i < t.length → wA p (sf t i) ≤ 1073741824 ∧ wS p t (i + 1) ≤ 1073741824 := by
  unfold wOK wB
  simp only [List.all_eq_true, List.mem_range, Bool.and_eq_true, decide_eq_true_eq]
theorem wN_nn {r : Int} (h : 0 ≤ r) : ∀ k, 0 ≤ wN r k
  | 0 => h
  | k + 1 => by
    simp only [wN]
    have := wN_nn h k
    split
    · exact cdiv_nn (by omega) (Int.mul_nonneg this h)
    · exact this
theorem wN_le {r : Int} (h : 0 ≤ r ∧ r ≤ 1073741824) : ∀ k, wN r k ≤ 1152921504606846976
  | 0 => by simp only [wN]; omega
  | k + 1 => by
    simp only [wN]
    have h1 := wN_nn h.1 k
    split
    · rename_i q
      have h2 : wN r k * r ≤ 1073741824 * 1073741824 := Int.mul_le_mul q h.2 h.1 (by omega)
      exact cdiv_top (by omega) (Int.mul_nonneg h1 h.1) (by omega) (by omega)
    · exact wN_le h k
theorem wS_nn {p : Pav} {t : List Frc} (h : ∀ i, i < t.length → 0 ≤ wR p (sf t i)) : ∀ n, n ≤ t.length → 0 ≤ wS p t n
  | 0, _ => Int.le_refl _
  | n + 1, hn => by
    have h1 := wS_nn h n (by omega)
    have h2 : 0 ≤ wA p (sf t n) := wN_nn (h n hn) _
    simp only [wS]; omega
end Go.Proofs.Ytbdnnicodailcaa

