/- Part 3 of the proof of: ClaimLogs: for all logs, claims, minutes and histories, CheckLog, CheckClaim, Minutes, Spans, Fits and Damages of the program return what the reference returns; no conditions -/
import Derived.Test.YtgijpimjfoabjaaP2
import Derived.Test.YtgijpimjfoabjaaChecked
/- Print of my own generator (wip/sy/gen2.lean). -/
namespace Go.Proofs.Ytgijpimjfoabjaa
open Go Sy
set_option maxRecDepth 100000
/- carried: [19] -/
/- carried: [23] -/
/- carried: [13] -/
/- carried: [10, 11, 14, 15] -/
/- carried: [19] -/
/- carried: [20] -/
/- carried: [16] -/
/- carried: [27] -/
/- carried: [22] -/
def Xn9_1 : C := regL [2, 4, 5, 7] none [⟨some 4, .box true 25 (.tmp 0), none⟩, ⟨some 5, .box true 27 (.tmp 1), none⟩, ⟨some 7, .box true 34 (.tmp 3), none⟩, ⟨some 8, .mv (.const (.bool false)), none⟩]
def Xn9_4 : C := regL [2, 4, 5, 7, 26] none [⟨some 21, .ld 25 5 true (.tmp 4), none⟩, ⟨some 22, .call 18 [.tmp 21], none⟩, ⟨some 23, .mv (.tmp 22), none⟩, ⟨some 24, .ld 34 2 true (.tmp 7), some (23, false)⟩, ⟨some 25, .call 29 [.tmp 24], some (23, false)⟩, ⟨some 26, .pick 23 (.const (.bool true)) (.tmp 25), none⟩]
def Xn9_7 : C := regL [8] none [⟨some 27, .call 12 [], none⟩, ⟨some 8, .mv (.tmp 27), none⟩]
def Xn9_6 : C := .seq Xn9_7 .ret
def Xn9_5 : C := .cond (.tmp 26) Xn9_6 .skip
def Xn9_3 : C := .seq Xn9_4 Xn9_5
def Xn9_11 : C := regL [2, 4, 5, 7, 9, 10] none [⟨some 29, .ld 25 5 true (.tmp 4), none⟩, ⟨some 30, .call 23 [.tmp 29], none⟩, ⟨some 28, .mv (.tmp 30), none⟩, ⟨some 31, .ext 0 (.tmp 28), none⟩, ⟨some 32, .ext 1 (.tmp 28), none⟩, ⟨some 9, .mv (.tmp 31), none⟩, ⟨some 10, .mv (.tmp 32), none⟩]
def Xn9_13 : C := regL [2, 4, 5, 7, 9, 10, 11, 12] none [⟨some 34, .ld 25 5 true (.tmp 4), none⟩, ⟨some 35, .call 30 [.tmp 34], none⟩, ⟨some 33, .mv (.tmp 35), none⟩, ⟨some 36, .ext 0 (.tmp 33), none⟩, ⟨some 37, .ext 1 (.tmp 33), none⟩, ⟨some 11, .mv (.tmp 36), none⟩, ⟨some 12, .mv (.tmp 37), none⟩]
def Xn9_16 : C := regL [2, 4, 5, 7, 59] (some [0, 1, 0, 7, 15, 31, 63, 127, 63, 511, 1023, 2047, 4095, 8191, 8191, 32767, 65535, 131071, 262143, 262143, 1048575, 2097151]) [⟨some 38, .ld 25 5 true (.tmp 4), none⟩, ⟨some 39, .call 31 [.tmp 38], none⟩, ⟨some 40, .ld 25 5 true (.tmp 4), none⟩, ⟨some 41, .call 21 [.tmp 40], none⟩, ⟨some 42, .bin 36 .neq (.tmp 39) (.tmp 41), none⟩, ⟨some 43, .mv (.tmp 42), none⟩, ⟨some 44, .ld 27 7 true (.tmp 5), some (43, false)⟩, ⟨some 45, .call 32 [.tmp 44], some (43, false)⟩, ⟨some 46, .ld 27 7 true (.tmp 5), some (43, false)⟩, ⟨some 47, .call 33 [.tmp 46], some (43, false)⟩, ⟨some 48, .bin 36 .neq (.tmp 45) (.tmp 47), some (43, false)⟩, ⟨some 49, .pick 43 (.const (.bool true)) (.tmp 48), none⟩, ⟨some 50, .mv (.tmp 49), none⟩, ⟨some 51, .mv (.tmp 9), some (50, false)⟩, ⟨some 52, .mv (.tmp 11), some (50, false)⟩, ⟨some 53, .bin 3 .neq (.tmp 51) (.tmp 52), some (50, false)⟩, ⟨some 54, .pick 50 (.const (.bool true)) (.tmp 53), none⟩, ⟨some 55, .mv (.tmp 54), none⟩, ⟨some 56, .mv (.tmp 10), some (55, false)⟩, ⟨some 57, .mv (.tmp 12), some (55, false)⟩, ⟨some 58, .bin 36 .neq (.tmp 56) (.tmp 57), some (55, false)⟩, ⟨some 59, .pick 55 (.const (.bool true)) (.tmp 58), none⟩]
def Xn9_19 : C := regL [8] none [⟨some 8, .mv (.const (.bool false)), none⟩]
def Xn9_18 : C := .seq Xn9_19 .ret
def Xn9_17 : C := .cond (.tmp 59) Xn9_18 .skip
def Xn9_15 : C := .seq Xn9_16 Xn9_17
def Xn9_23 : C := regL [2, 4, 5, 7, 10, 13, 14] none [⟨some 61, .ld 25 5 true (.tmp 4), none⟩, ⟨some 62, .mv (.tmp 2), none⟩, ⟨some 63, .call 24 [.tmp 61, .tmp 62], none⟩, ⟨some 60, .mv (.tmp 63), none⟩, ⟨some 64, .ext 0 (.tmp 60), none⟩, ⟨some 65, .ext 1 (.tmp 60), none⟩, ⟨some 66, .ext 2 (.tmp 60), none⟩, ⟨some 13, .alc 40 (.agg #[.int .i64 0, .int .i64 0]), none⟩, ⟨some 14, .alc 41 (.agg #[.int .i64 0, .int .i64 0, .int .i64 0, .int .i64 0, .int .i64 0, .int .i64 0, .int .i64 0, .int .i64 0]), none⟩, ⟨none, .st 40 2 (.tmp 13) (.tmp 64), none⟩, ⟨none, .st 41 8 (.tmp 14) (.tmp 65), none⟩, ⟨some 10, .mv (.tmp 66), none⟩]
def Xn9_25 : C := regL [4, 5, 7, 10, 12, 13, 14, 15, 16] none [⟨some 68, .ld 25 5 true (.tmp 4), none⟩, ⟨some 69, .mv (.tmp 2), none⟩, ⟨some 70, .call 34 [.tmp 68, .tmp 69], none⟩, ⟨some 67, .mv (.tmp 70), none⟩, ⟨some 71, .ext 0 (.tmp 67), none⟩, ⟨some 72, .ext 1 (.tmp 67), none⟩, ⟨some 73, .ext 2 (.tmp 67), none⟩, ⟨some 15, .alc 40 (.agg #[.int .i64 0, .int .i64 0]), none⟩, ⟨some 16, .alc 41 (.agg #[.int .i64 0, .int .i64 0, .int .i64 0, .int .i64 0, .int .i64 0, .int .i64 0, .int .i64 0, .int .i64 0]), none⟩, ⟨none, .st 40 2 (.tmp 15) (.tmp 71), none⟩, ⟨none, .st 41 8 (.tmp 16) (.tmp 72), none⟩, ⟨some 12, .mv (.tmp 73), none⟩]
def Xn9_27 : C := regL [4, 5, 7, 10, 12, 13, 14, 15, 16, 17, 18] none [⟨some 75, .ld 25 5 true (.tmp 4), none⟩, ⟨some 76, .ld 34 2 true (.tmp 7), none⟩, ⟨some 77, .call 22 [.tmp 75, .tmp 76], none⟩, ⟨some 74, .mv (.tmp 77), none⟩, ⟨some 78, .ext 0 (.tmp 74), none⟩, ⟨some 79, .ext 1 (.tmp 74), none⟩, ⟨some 17, .mv (.tmp 78), none⟩, ⟨some 18, .mv (.tmp 79), none⟩]
def Xn9_29 : C := regL [4, 5, 7, 10, 12, 13, 14, 15, 16, 17, 18, 19, 20] none [⟨some 81, .ld 25 5 true (.tmp 4), none⟩, ⟨some 82, .ld 34 2 true (.tmp 7), none⟩, ⟨some 83, .call 35 [.tmp 81, .tmp 82], none⟩, ⟨some 80, .mv (.tmp 83), none⟩, ⟨some 84, .ext 0 (.tmp 80), none⟩, ⟨some 85, .ext 1 (.tmp 80), none⟩, ⟨some 19, .mv (.tmp 84), none⟩, ⟨some 20, .mv (.tmp 85), none⟩]
def Xn9_32 : C := regL [4, 5, 7, 108] none [⟨some 86, .ld 40 2 true (.tmp 13), none⟩, ⟨some 87, .ld 40 2 true (.tmp 15), none⟩, ⟨some 88, .eqb 5 true (.tmp 86) (.tmp 87), none⟩, ⟨some 89, .mv (.tmp 88), none⟩, ⟨some 90, .ld 41 8 true (.tmp 14), some (89, false)⟩, ⟨some 91, .ld 41 8 true (.tmp 16), some (89, false)⟩, ⟨some 92, .eqb 21845 true (.tmp 90) (.tmp 91), some (89, false)⟩, ⟨some 93, .pick 89 (.const (.bool true)) (.tmp 92), none⟩, ⟨some 94, .mv (.tmp 93), none⟩, ⟨some 95, .mv (.tmp 10), some (94, false)⟩, ⟨some 96, .mv (.tmp 12), some (94, false)⟩, ⟨some 97, .bin 36 .neq (.tmp 95) (.tmp 96), some (94, false)⟩, ⟨some 98, .pick 94 (.const (.bool true)) (.tmp 97), none⟩, ⟨some 99, .mv (.tmp 98), none⟩, ⟨some 100, .mv (.tmp 17), some (99, false)⟩, ⟨some 101, .mv (.tmp 19), some (99, false)⟩, ⟨some 102, .eqb 4 true (.tmp 100) (.tmp 101), some (99, false)⟩, ⟨some 103, .pick 99 (.const (.bool true)) (.tmp 102), none⟩, ⟨some 104, .mv (.tmp 103), none⟩, ⟨some 105, .mv (.tmp 18), some (104, false)⟩, ⟨some 106, .mv (.tmp 20), some (104, false)⟩, ⟨some 107, .bin 36 .neq (.tmp 105) (.tmp 106), some (104, false)⟩, ⟨some 108, .pick 104 (.const (.bool true)) (.tmp 107), none⟩]
def Xn9_35 : C := regL [8] none [⟨some 8, .mv (.const (.bool false)), none⟩]
def Xn9_34 : C := .seq Xn9_35 .ret
def Xn9_33 : C := .cond (.tmp 108) Xn9_34 .skip
def Xn9_31 : C := .seq Xn9_32 Xn9_33
def Xn9_39 : C := regL [4, 5, 7, 17, 18] none [⟨some 110, .ld 25 5 true (.tmp 4), none⟩, ⟨some 111, .ld 27 7 true (.tmp 5), none⟩, ⟨some 112, .ld 34 2 true (.tmp 7), none⟩, ⟨some 113, .call 36 [.tmp 110, .tmp 111, .tmp 112], none⟩, ⟨some 109, .mv (.tmp 113), none⟩, ⟨some 114, .ext 0 (.tmp 109), none⟩, ⟨some 115, .ext 1 (.tmp 109), none⟩, ⟨some 17, .mv (.tmp 114), none⟩, ⟨some 18, .mv (.tmp 115), none⟩]
def Xn9_41 : C := regL [17, 18, 19, 20] none [⟨some 117, .ld 25 5 true (.tmp 4), none⟩, ⟨some 118, .ld 27 7 true (.tmp 5), none⟩, ⟨some 119, .ld 34 2 true (.tmp 7), none⟩, ⟨some 120, .call 37 [.tmp 117, .tmp 118, .tmp 119], none⟩, ⟨some 116, .mv (.tmp 120), none⟩, ⟨some 121, .ext 0 (.tmp 116), none⟩, ⟨some 122, .ext 1 (.tmp 116), none⟩, ⟨some 19, .mv (.tmp 121), none⟩, ⟨some 20, .mv (.tmp 122), none⟩]
def Xn9_43 : C := regL [8] none [⟨some 123, .mv (.tmp 17), none⟩, ⟨some 124, .mv (.tmp 19), none⟩, ⟨some 125, .eqb 4 false (.tmp 123) (.tmp 124), none⟩, ⟨some 126, .mv (.tmp 125), none⟩, ⟨some 127, .mv (.tmp 18), some (126, true)⟩, ⟨some 128, .mv (.tmp 20), some (126, true)⟩, ⟨some 129, .bin 36 .eql (.tmp 127) (.tmp 128), some (126, true)⟩, ⟨some 130, .pick 126 (.tmp 129) (.const (.bool false)), none⟩, ⟨some 131, .mv (.tmp 130), none⟩, ⟨some 132, .call 12 [], some (131, true)⟩, ⟨some 133, .pick 131 (.tmp 132) (.const (.bool false)), none⟩, ⟨some 8, .mv (.tmp 133), none⟩]
def Xn9_42 : C := .seq Xn9_43 .ret
def Xn9_40 : C := .seq Xn9_41 Xn9_42
def Xn9_38 : C := .seq Xn9_39 Xn9_40
def Xn9_30 : C := seqL [4, 5, 7] Xn9_31 Xn9_38
def Xn9_28 : C := .seq Xn9_29 Xn9_30
def Xn9_26 : C := .seq Xn9_27 Xn9_28
def Xn9_24 : C := .seq Xn9_25 Xn9_26
def Xn9_22 : C := .seq Xn9_23 Xn9_24
def Xn9_14 : C := seqL [2, 4, 5, 7] Xn9_15 Xn9_22
def Xn9_12 : C := .seq Xn9_13 Xn9_14
def Xn9_10 : C := .seq Xn9_11 Xn9_12
def Xn9_2 : C := seqL [2, 4, 5, 7] Xn9_3 Xn9_10
def Xn9_0 : C := .seq Xn9_1 Xn9_2
theorem Xt9 : Text Try.prog 9 Xn9_0 134 4 [.t 8] := ⟨⟨Try.f9, [4, 5, 7], Try.func9, by kernel_rfl, by kernel_rfl, by kernel_rfl, by kernel_rfl⟩⟩
def Xn12_1 : C := regL [] none [⟨some 0, .mv (.const (.bool false)), none⟩]
def Xn12_3 : C := regL [1, 2] none [⟨some 6, .call 40 [], none⟩, ⟨some 7, .bld (.agg #[.int .i64 0, .int .i64 0, .int .i64 0, .int .i64 0, .int .i64 0, .int .i64 0, .int .i64 0]) [(0, 1, .const (.int .i64 40)), (1, 1, .const (.int .i64 50)), (3, 1, .const (.int .i64 4)), (5, 1, .const (.int .i64 1000))], none⟩, ⟨some 8, .call 14 [.tmp 6, .tmp 7], none⟩, ⟨some 5, .mv (.tmp 8), none⟩, ⟨some 9, .ext 0 (.tmp 5), none⟩, ⟨some 10, .ext 1 (.tmp 5), none⟩, ⟨some 1, .mv (.tmp 9), none⟩, ⟨some 2, .mv (.tmp 10), none⟩]
def Xn12_5 : C := regL [1, 2, 3, 4] none [⟨some 12, .call 40 [], none⟩, ⟨some 13, .call 23 [.tmp 12], none⟩, ⟨some 11, .mv (.tmp 13), none⟩, ⟨some 14, .ext 0 (.tmp 11), none⟩, ⟨some 15, .ext 1 (.tmp 11), none⟩, ⟨some 3, .mv (.tmp 14), none⟩, ⟨some 4, .mv (.tmp 15), none⟩]
def Xn12_7 : C := regL [0] none [⟨some 16, .mv (.tmp 2), none⟩, ⟨some 17, .bin 36 .eql (.tmp 16) (.const (.int .i64 0)), none⟩, ⟨some 18, .mv (.tmp 17), none⟩, ⟨some 19, .mv (.tmp 4), some (18, true)⟩, ⟨some 20, .bin 36 .eql (.tmp 19) (.const (.int .i64 0)), some (18, true)⟩, ⟨some 21, .pick 18 (.tmp 20) (.const (.bool false)), none⟩, ⟨some 22, .mv (.tmp 21), none⟩, ⟨some 23, .mv (.tmp 1), some (22, true)⟩, ⟨some 24, .bin 3 .eql (.tmp 23) (.const (.int .i64 1)), some (22, true)⟩, ⟨some 25, .pick 22 (.tmp 24) (.const (.bool false)), none⟩, ⟨some 26, .mv (.tmp 25), none⟩, ⟨some 27, .mv (.tmp 3), some (26, true)⟩, ⟨some 28, .bin 3 .eql (.tmp 27) (.const (.int .i64 5)), some (26, true)⟩, ⟨some 29, .pick 26 (.tmp 28) (.const (.bool false)), none⟩, ⟨some 0, .mv (.tmp 29), none⟩]
def Xn12_6 : C := .seq Xn12_7 .ret
def Xn12_4 : C := .seq Xn12_5 Xn12_6
def Xn12_2 : C := .seq Xn12_3 Xn12_4
def Xn12_0 : C := .seq Xn12_1 Xn12_2
theorem Xt12 : Text Try.prog 12 Xn12_0 30 0 [.t 0] := ⟨⟨Try.f12, [], Try.func12, by kernel_rfl, by kernel_rfl, by kernel_rfl, by kernel_rfl⟩⟩
/- carried: [11] -/
/- carried: [8] -/
def Xn14_1 : C := regL [2, 3] none [⟨some 2, .box true 25 (.tmp 0), none⟩, ⟨some 3, .box true 27 (.tmp 1), none⟩, ⟨some 4, .mv (.const (.int .i64 0)), none⟩, ⟨some 5, .mv (.const (.int .i64 0)), none⟩]
def Xn14_3 : C := regL [3, 6, 7] none [⟨some 9, .ld 25 5 true (.tmp 2), none⟩, ⟨some 10, .ld 27 7 true (.tmp 3), none⟩, ⟨some 11, .call 43 [.tmp 9, .tmp 10], none⟩, ⟨some 8, .mv (.tmp 11), none⟩, ⟨some 12, .ext 0 (.tmp 8), none⟩, ⟨some 13, .ext 1 (.tmp 8), none⟩, ⟨some 6, .mv (.tmp 12), none⟩, ⟨some 7, .mv (.tmp 13), none⟩]
def Xn14_6 : C := regL [3, 6, 7, 15] none [⟨some 14, .mv (.tmp 7), none⟩, ⟨some 15, .bin 36 .neq (.tmp 14) (.const (.int .i64 0)), none⟩]
def Xn14_9 : C := regL [4, 5] none [⟨some 16, .mv (.tmp 7), none⟩, ⟨some 4, .mv (.const (.int .i64 0)), none⟩, ⟨some 5, .mv (.tmp 16), none⟩]
def Xn14_8 : C := .seq Xn14_9 .ret
def Xn14_7 : C := .cond (.tmp 15) Xn14_8 .skip
def Xn14_5 : C := .seq Xn14_6 Xn14_7
def Xn14_13 : C := regL [4, 5] none [⟨some 17, .mv (.tmp 6), none⟩, ⟨some 18, .ld 27 7 true (.tmp 3), none⟩, ⟨some 19, .call 44 [.tmp 17, .tmp 18], none⟩, ⟨some 4, .mv (.tmp 19), none⟩, ⟨some 5, .mv (.const (.int .i64 0)), none⟩]
def Xn14_12 : C := .seq Xn14_13 .ret
def Xn14_4 : C := seqL [3, 6] Xn14_5 Xn14_12
def Xn14_2 : C := .seq Xn14_3 Xn14_4
def Xn14_0 : C := .seq Xn14_1 Xn14_2
theorem Xt14 : Text Try.prog 14 Xn14_0 20 2 [.t 4, .t 5] := ⟨⟨Try.f14, [2, 3], Try.func14, by kernel_rfl, by kernel_rfl, by kernel_rfl, by kernel_rfl⟩⟩
def Xn16_1 : C := regL [1, 2, 4] none [⟨some 2, .box true 25 (.tmp 0), none⟩, ⟨some 4, .alc 40 (.agg #[.int .i64 0, .int .i64 0]), none⟩]
def Xn16_3 : C := regL [1, 2, 4, 5] none [⟨some 8, .bld (.agg #[.int .i64 0, .int .i64 0]) [(0, 1, .const (.int .i64 (-1099511627776))), (1, 1, .const (.int .i64 1099511627776))], none⟩, ⟨some 5, .alc 40 (.agg #[.int .i64 0, .int .i64 0]), none⟩, ⟨none, .st 40 2 (.tmp 5) (.tmp 8), none⟩]
def Xn16_6 : C := regL [1, 2, 4, 5, 6] none [⟨some 6, .mv (.const (.int .i64 0)), none⟩]
def Xn16_11 : C := regL [1, 2, 4, 5, 6, 13] none [⟨some 9, .mv (.tmp 6), none⟩, ⟨some 10, .fa 0 (.tmp 2), none⟩, ⟨some 11, .ld 22 1 false (.tmp 10), none⟩, ⟨some 12, .len (.tmp 11), none⟩, ⟨some 13, .bin 3 .lss (.tmp 9) (.tmp 12), none⟩]
def Xn16_12 : C := .cond (.tmp 13) .skip (.exit 0)
def Xn16_10 : C := .seq Xn16_11 Xn16_12
def Xn16_18 : C := regL [1, 2, 4, 5, 6, 7] none [⟨some 16, .fa 0 (.tmp 2), none⟩, ⟨some 17, .ld 22 1 false (.tmp 16), none⟩, ⟨some 18, .mv (.tmp 6), none⟩, ⟨some 19, .ia 11 (.tmp 17) (.tmp 18), none⟩, ⟨some 20, .ld 43 11 true (.tmp 19), none⟩, ⟨some 7, .alc 43 (.agg #[.int .i64 0, .int .i64 0, .int .i64 0, .int .i64 0, .int .i64 0, .int .i64 0, .int .i64 0, .int .i64 0, .int .i64 0, .int .i64 0, .int .i64 0]), none⟩, ⟨none, .st 43 11 (.tmp 7) (.tmp 20), none⟩]
def Xn16_21 : C := regL [1, 2, 4, 5, 6, 7, 26] (some [0, 1, 0, 0, 12, 31]) [⟨some 21, .fa 0 (.tmp 7), none⟩, ⟨some 22, .ld 2 1 false (.tmp 21), none⟩, ⟨some 23, .ld 25 5 true (.tmp 2), none⟩, ⟨some 24, .mv (.tmp 1), none⟩, ⟨some 25, .call 45 [.tmp 23, .tmp 24], none⟩, ⟨some 26, .bin 2 .leq (.tmp 22) (.tmp 25), none⟩]
def Xn16_23 : C := regL [1, 2, 4, 5, 6, 7] none [⟨some 27, .fa 0 (.tmp 5), none⟩, ⟨some 28, .ld 2 1 false (.tmp 27), none⟩, ⟨some 29, .fa 1 (.tmp 7), none⟩, ⟨some 30, .fa 0 (.tmp 29), none⟩, ⟨some 31, .ld 2 1 false (.tmp 30), none⟩, ⟨some 32, .mx [.tmp 28, .tmp 31], none⟩, ⟨some 33, .fa 0 (.tmp 5), none⟩, ⟨none, .st 2 1 (.tmp 33) (.tmp 32), none⟩]
def Xn16_22 : C := .cond (.tmp 26) Xn16_23 .skip
def Xn16_20 : C := .seq Xn16_21 Xn16_22
def Xn16_26 : C := regL [1, 2, 4, 5, 6, 7, 39] (some [0, 1, 0, 0, 12, 31]) [⟨some 34, .fa 0 (.tmp 7), none⟩, ⟨some 35, .ld 2 1 false (.tmp 34), none⟩, ⟨some 36, .ld 25 5 true (.tmp 2), none⟩, ⟨some 37, .mv (.tmp 1), none⟩, ⟨some 38, .call 45 [.tmp 36, .tmp 37], none⟩, ⟨some 39, .bin 2 .geq (.tmp 35) (.tmp 38), none⟩]
def Xn16_28 : C := regL [1, 2, 4, 5, 6] none [⟨some 40, .fa 1 (.tmp 5), none⟩, ⟨some 41, .ld 2 1 false (.tmp 40), none⟩, ⟨some 42, .fa 1 (.tmp 7), none⟩, ⟨some 43, .fa 1 (.tmp 42), none⟩, ⟨some 44, .ld 2 1 false (.tmp 43), none⟩, ⟨some 45, .mn [.tmp 41, .tmp 44], none⟩, ⟨some 46, .fa 1 (.tmp 5), none⟩, ⟨none, .st 2 1 (.tmp 46) (.tmp 45), none⟩]
def Xn16_27 : C := .cond (.tmp 39) Xn16_28 .skip
def Xn16_25 : C := .seq Xn16_26 Xn16_27
def Xn16_19 : C := seqL [1, 2, 4, 5, 6, 7] Xn16_20 Xn16_25
def Xn16_17 : C := .seq Xn16_18 Xn16_19
def Xn16_16 : C := .block 1 Xn16_17
def Xn16_30 : C := regL [1, 2, 4, 5, 6] none [⟨some 14, .mv (.tmp 6), none⟩, ⟨some 15, .bin 3 .add (.tmp 14) (.const (.int .i64 1)), none⟩, ⟨some 6, .mv (.tmp 15), none⟩]
def Xn16_15 : C := seqL [1, 2, 4, 5, 6] Xn16_16 Xn16_30
def Xn16_9 : C := seqL [1, 2, 4, 5, 6] Xn16_10 Xn16_15
/- carried: [6] -/
def Xn16_8 : C := loopL [1, 2, 4, 5, 6] Xn16_9
def Xn16_7 : C := .block 0 Xn16_8
def Xn16_5 : C := .seq Xn16_6 Xn16_7
def Xn16_32 : C := regL [4] none [⟨some 47, .ld 40 2 true (.tmp 5), none⟩, ⟨none, .st 40 2 (.tmp 4) (.tmp 47), none⟩]
def Xn16_31 : C := .seq Xn16_32 .ret
def Xn16_4 : C := seqL [4, 5] Xn16_5 Xn16_31
def Xn16_2 : C := .seq Xn16_3 Xn16_4
def Xn16_0 : C := .seq Xn16_1 Xn16_2
theorem Xt16 : Text Try.prog 16 Xn16_0 48 2 [.c 4 2 true] := ⟨⟨Try.f16, [2], Try.func16, by kernel_rfl, by kernel_rfl, by kernel_rfl, by kernel_rfl⟩⟩
def Xn17_1 : C := regL [1, 2, 3, 6] none [⟨some 3, .box true 25 (.tmp 0), none⟩, ⟨some 6, .alc 40 (.agg #[.int .i64 0, .int .i64 0]), none⟩]
def Xn17_3 : C := regL [1, 2, 3, 6, 7] none [⟨some 11, .bld (.agg #[.int .i64 0, .int .i64 0]) [(0, 1, .const (.int .i64 (-1125899906842624))), (1, 1, .const (.int .i64 1125899906842624))], none⟩, ⟨some 7, .alc 40 (.agg #[.int .i64 0, .int .i64 0]), none⟩, ⟨none, .st 40 2 (.tmp 7) (.tmp 11), none⟩]
def Xn17_6 : C := regL [1, 2, 3, 6, 7, 8] none [⟨some 8, .mv (.const (.int .i64 0)), none⟩]
def Xn17_11 : C := regL [1, 2, 3, 6, 7, 8, 16] none [⟨some 12, .mv (.tmp 8), none⟩, ⟨some 13, .fa 0 (.tmp 3), none⟩, ⟨some 14, .ld 22 1 false (.tmp 13), none⟩, ⟨some 15, .len (.tmp 14), none⟩, ⟨some 16, .bin 3 .lss (.tmp 12) (.tmp 15), none⟩]
def Xn17_12 : C := .cond (.tmp 16) .skip (.exit 0)
def Xn17_10 : C := .seq Xn17_11 Xn17_12
def Xn17_18 : C := regL [1, 2, 3, 6, 7, 8, 9] none [⟨some 19, .fa 0 (.tmp 3), none⟩, ⟨some 20, .ld 22 1 false (.tmp 19), none⟩, ⟨some 21, .mv (.tmp 8), none⟩, ⟨some 22, .ia 11 (.tmp 20) (.tmp 21), none⟩, ⟨some 23, .ld 43 11 true (.tmp 22), none⟩, ⟨some 9, .alc 43 (.agg #[.int .i64 0, .int .i64 0, .int .i64 0, .int .i64 0, .int .i64 0, .int .i64 0, .int .i64 0, .int .i64 0, .int .i64 0, .int .i64 0, .int .i64 0]), none⟩, ⟨none, .st 43 11 (.tmp 9) (.tmp 23), none⟩]
def Xn17_20 : C := regL [1, 2, 3, 6, 7, 8, 9, 10] (some [0, 1, 0, 0, 12, 31, 0, 0, 220, 0, 512, 2012, 4095, 8191]) [⟨some 24, .fa 0 (.tmp 9), none⟩, ⟨some 25, .ld 2 1 false (.tmp 24), none⟩, ⟨some 26, .ld 25 5 true (.tmp 3), none⟩, ⟨some 27, .mv (.tmp 1), none⟩, ⟨some 28, .call 45 [.tmp 26, .tmp 27], none⟩, ⟨some 29, .bin 2 .sub (.tmp 25) (.tmp 28), none⟩, ⟨some 30, .ld 25 5 true (.tmp 3), none⟩, ⟨some 31, .mv (.tmp 1), none⟩, ⟨some 32, .call 45 [.tmp 30, .tmp 31], none⟩, ⟨some 33, .fa 0 (.tmp 9), none⟩, ⟨some 34, .ld 2 1 false (.tmp 33), none⟩, ⟨some 35, .bin 2 .sub (.tmp 32) (.tmp 34), none⟩, ⟨some 36, .mx [.tmp 29, .tmp 35], none⟩, ⟨some 10, .mv (.tmp 36), none⟩]
def Xn17_22 : C := regL [1, 2, 3, 6, 7, 8, 9, 10] (some [0, 1, 0, 0, 12, 28, 60, 0, 0, 384, 896, 0, 3968, 8188, 16383, 32767, 65535]) [⟨some 37, .fa 0 (.tmp 7), none⟩, ⟨some 38, .ld 2 1 false (.tmp 37), none⟩, ⟨some 39, .mv (.tmp 2), none⟩, ⟨some 40, .fa 3 (.tmp 9), none⟩, ⟨some 41, .iaa 4 2 (.tmp 40) (.tmp 39), none⟩, ⟨some 42, .fa 0 (.tmp 41), none⟩, ⟨some 43, .ld 2 1 false (.tmp 42), none⟩, ⟨some 44, .mv (.tmp 2), none⟩, ⟨some 45, .fa 1 (.tmp 3), none⟩, ⟨some 46, .iaa 4 1 (.tmp 45) (.tmp 44), none⟩, ⟨some 47, .ld 2 1 false (.tmp 46), none⟩, ⟨some 48, .mv (.tmp 10), none⟩, ⟨some 49, .bin 2 .mul (.tmp 47) (.tmp 48), none⟩, ⟨some 50, .bin 2 .sub (.tmp 43) (.tmp 49), none⟩, ⟨some 51, .mx [.tmp 38, .tmp 50], none⟩, ⟨some 52, .fa 0 (.tmp 7), none⟩, ⟨none, .st 2 1 (.tmp 52) (.tmp 51), none⟩]
def Xn17_23 : C := regL [1, 2, 3, 6, 7, 8] (some [0, 1, 0, 0, 12, 28, 60, 0, 0, 384, 896, 0, 3968, 8188, 16383, 32767, 65535]) [⟨some 53, .fa 1 (.tmp 7), none⟩, ⟨some 54, .ld 2 1 false (.tmp 53), none⟩, ⟨some 55, .mv (.tmp 2), none⟩, ⟨some 56, .fa 3 (.tmp 9), none⟩, ⟨some 57, .iaa 4 2 (.tmp 56) (.tmp 55), none⟩, ⟨some 58, .fa 1 (.tmp 57), none⟩, ⟨some 59, .ld 2 1 false (.tmp 58), none⟩, ⟨some 60, .mv (.tmp 2), none⟩, ⟨some 61, .fa 1 (.tmp 3), none⟩, ⟨some 62, .iaa 4 1 (.tmp 61) (.tmp 60), none⟩, ⟨some 63, .ld 2 1 false (.tmp 62), none⟩, ⟨some 64, .mv (.tmp 10), none⟩, ⟨some 65, .bin 2 .mul (.tmp 63) (.tmp 64), none⟩, ⟨some 66, .bin 2 .add (.tmp 59) (.tmp 65), none⟩, ⟨some 67, .mn [.tmp 54, .tmp 66], none⟩, ⟨some 68, .fa 1 (.tmp 7), none⟩, ⟨none, .st 2 1 (.tmp 68) (.tmp 67), none⟩]
def Xn17_21 : C := .seq Xn17_22 Xn17_23
def Xn17_19 : C := .seq Xn17_20 Xn17_21
def Xn17_17 : C := .seq Xn17_18 Xn17_19
def Xn17_16 : C := .block 1 Xn17_17
def Xn17_24 : C := regL [1, 2, 3, 6, 7, 8] none [⟨some 17, .mv (.tmp 8), none⟩, ⟨some 18, .bin 3 .add (.tmp 17) (.const (.int .i64 1)), none⟩, ⟨some 8, .mv (.tmp 18), none⟩]
def Xn17_15 : C := seqL [1, 2, 3, 6, 7, 8] Xn17_16 Xn17_24
def Xn17_9 : C := seqL [1, 2, 3, 6, 7, 8] Xn17_10 Xn17_15
/- carried: [8] -/
def Xn17_8 : C := loopL [1, 2, 3, 6, 7, 8] Xn17_9
def Xn17_7 : C := .block 0 Xn17_8
def Xn17_5 : C := .seq Xn17_6 Xn17_7
def Xn17_26 : C := regL [6] none [⟨some 69, .ld 40 2 true (.tmp 7), none⟩, ⟨none, .st 40 2 (.tmp 6) (.tmp 69), none⟩]
def Xn17_25 : C := .seq Xn17_26 .ret
def Xn17_4 : C := seqL [6, 7] Xn17_5 Xn17_25
def Xn17_2 : C := .seq Xn17_3 Xn17_4
def Xn17_0 : C := .seq Xn17_1 Xn17_2
theorem Xt17 : Text Try.prog 17 Xn17_0 70 3 [.c 6 2 true] := ⟨⟨Try.f17, [3], Try.func17, by kernel_rfl, by kernel_rfl, by kernel_rfl, by kernel_rfl⟩⟩
def Xn18_1 : C := regL [1] none [⟨some 1, .box true 25 (.tmp 0), none⟩, ⟨some 2, .mv (.const (.bool false)), none⟩]
def Xn18_3 : C := regL [1, 3] none [⟨some 4, .fa 0 (.tmp 1), none⟩, ⟨some 5, .ld 22 1 false (.tmp 4), none⟩, ⟨some 6, .len (.tmp 5), none⟩, ⟨some 3, .mv (.tmp 6), none⟩]
def Xn18_6 : C := regL [1, 3, 16] none [⟨some 7, .mv (.tmp 3), none⟩, ⟨some 8, .bin 3 .gtr (.tmp 7) (.const (.int .i64 100)), none⟩, ⟨some 9, .mv (.tmp 8), none⟩, ⟨some 10, .mv (.tmp 3), some (9, false)⟩, ⟨some 11, .bin 3 .gtr (.tmp 10) (.const (.int .i64 20)), some (9, false)⟩, ⟨some 12, .mv (.tmp 11), some (9, false)⟩, ⟨some 13, .mv (.tmp 3), some (12, true)⟩, ⟨some 14, .bin 3 .leq (.tmp 13) (.const (.int .i64 64)), some (12, true)⟩, ⟨some 15, .pick 12 (.tmp 14) (.const (.bool false)), some (9, false)⟩, ⟨some 16, .pick 9 (.const (.bool true)) (.tmp 15), none⟩]
def Xn18_9 : C := regL [2] none [⟨some 2, .mv (.const (.bool true)), none⟩]
def Xn18_8 : C := .seq Xn18_9 .ret
def Xn18_7 : C := .cond (.tmp 16) Xn18_8 .skip
def Xn18_5 : C := .seq Xn18_6 Xn18_7
def Xn18_13 : C := regL [2] (some [0, 1, 3, 7, 15, 7, 39, 127, 255, 511, 7, 1031, 3079, 7175, 15367, 32767, 65535, 131071, 262143, 524287, 262143, 1310719, 4194303, 8388607, 16777215, 262143, 33816575, 100925439, 235143167, 503578623, 1073741823, 2147483647, 4294967295, 8589934591, 17179869183, 34359738367, 17179869183, 85899345919, 274877906943, 549755813887, 1099511627775, 17179869183, 2216203124735, 6614249635839, 15410342658047, 33002528702463, 70368744177663, 140737488355327, 281474976710655, 562949953421311]) [⟨some 17, .mv (.tmp 3), none⟩, ⟨some 18, .bin 3 .gtr (.tmp 17) (.const (.int .i64 1)), none⟩, ⟨some 19, .mv (.tmp 18), none⟩, ⟨some 20, .fa 0 (.tmp 1), some (19, true)⟩, ⟨some 21, .ld 22 1 false (.tmp 20), some (19, true)⟩, ⟨some 22, .mv (.tmp 3), some (19, true)⟩, ⟨some 23, .bin 3 .sub (.tmp 22) (.const (.int .i64 1)), some (19, true)⟩, ⟨some 24, .ia 11 (.tmp 21) (.tmp 23), some (19, true)⟩, ⟨some 25, .fa 0 (.tmp 24), some (19, true)⟩, ⟨some 26, .ld 2 1 false (.tmp 25), some (19, true)⟩, ⟨some 27, .fa 0 (.tmp 1), some (19, true)⟩, ⟨some 28, .ld 22 1 false (.tmp 27), some (19, true)⟩, ⟨some 29, .ia 11 (.tmp 28) (.const (.int .i64 0)), some (19, true)⟩, ⟨some 30, .fa 0 (.tmp 29), some (19, true)⟩, ⟨some 31, .ld 2 1 false (.tmp 30), some (19, true)⟩, ⟨some 32, .bin 2 .gtr (.tmp 26) (.tmp 31), some (19, true)⟩, ⟨some 33, .pick 19 (.tmp 32) (.const (.bool false)), none⟩, ⟨some 34, .mv (.tmp 33), none⟩, ⟨some 35, .fa 0 (.tmp 1), some (34, true)⟩, ⟨some 36, .ld 22 1 false (.tmp 35), some (34, true)⟩, ⟨some 37, .mv (.tmp 3), some (34, true)⟩, ⟨some 38, .bin 3 .sub (.tmp 37) (.const (.int .i64 1)), some (34, true)⟩, ⟨some 39, .ia 11 (.tmp 36) (.tmp 38), some (34, true)⟩, ⟨some 40, .fa 0 (.tmp 39), some (34, true)⟩, ⟨some 41, .ld 2 1 false (.tmp 40), some (34, true)⟩, ⟨some 42, .fa 0 (.tmp 1), some (34, true)⟩, ⟨some 43, .ld 22 1 false (.tmp 42), some (34, true)⟩, ⟨some 44, .ia 11 (.tmp 43) (.const (.int .i64 0)), some (34, true)⟩, ⟨some 45, .fa 0 (.tmp 44), some (34, true)⟩, ⟨some 46, .ld 2 1 false (.tmp 45), some (34, true)⟩, ⟨some 47, .bin 2 .sub (.tmp 41) (.tmp 46), some (34, true)⟩, ⟨some 48, .bin 2 .gtr (.tmp 47) (.const (.int .i64 120)), some (34, true)⟩, ⟨some 49, .pick 34 (.tmp 48) (.const (.bool false)), none⟩, ⟨some 50, .mv (.tmp 49), none⟩, ⟨some 51, .fa 0 (.tmp 1), some (50, true)⟩, ⟨some 52, .ld 22 1 false (.tmp 51), some (50, true)⟩, ⟨some 53, .mv (.tmp 3), some (50, true)⟩, ⟨some 54, .bin 3 .sub (.tmp 53) (.const (.int .i64 1)), some (50, true)⟩, ⟨some 55, .ia 11 (.tmp 52) (.tmp 54), some (50, true)⟩, ⟨some 56, .fa 0 (.tmp 55), some (50, true)⟩, ⟨some 57, .ld 2 1 false (.tmp 56), some (50, true)⟩, ⟨some 58, .fa 0 (.tmp 1), some (50, true)⟩, ⟨some 59, .ld 22 1 false (.tmp 58), some (50, true)⟩, ⟨some 60, .ia 11 (.tmp 59) (.const (.int .i64 0)), some (50, true)⟩, ⟨some 61, .fa 0 (.tmp 60), some (50, true)⟩, ⟨some 62, .ld 2 1 false (.tmp 61), some (50, true)⟩, ⟨some 63, .bin 2 .sub (.tmp 57) (.tmp 62), some (50, true)⟩, ⟨some 64, .bin 2 .leq (.tmp 63) (.const (.int .i64 2000)), some (50, true)⟩, ⟨some 65, .pick 50 (.tmp 64) (.const (.bool false)), none⟩, ⟨some 2, .mv (.tmp 65), none⟩]
def Xn18_12 : C := .seq Xn18_13 .ret
def Xn18_4 : C := seqL [1, 3] Xn18_5 Xn18_12
def Xn18_2 : C := .seq Xn18_3 Xn18_4
def Xn18_0 : C := .seq Xn18_1 Xn18_2
theorem Xt18 : Text Try.prog 18 Xn18_0 66 1 [.t 2] := ⟨⟨Try.f18, [1], Try.func18, by kernel_rfl, by kernel_rfl, by kernel_rfl, by kernel_rfl⟩⟩
/- carried: [14, 52] -/
/- carried: [18, 86] -/
/- carried: [18, 108] -/
/- carried: [11] -/
/- carried: [12, 13, 14] -/
/- carried: [16, 17, 18] -/
/- carried: [17, 20] -/
def Xn21_1 : C := regL [1] none [⟨some 1, .box true 25 (.tmp 0), none⟩, ⟨some 2, .mv (.const (.int .i64 0)), none⟩]
def Xn21_3 : C := regL [1, 3] none [⟨some 12, .fa 0 (.tmp 1), none⟩, ⟨some 13, .ld 22 1 false (.tmp 12), none⟩, ⟨some 14, .len (.tmp 13), none⟩, ⟨some 3, .mv (.tmp 14), none⟩]
def Xn21_6 : C := regL [1, 3, 16] none [⟨some 15, .mv (.tmp 3), none⟩, ⟨some 16, .bin 3 .gtr (.tmp 15) (.const (.int .i64 64)), none⟩]
def Xn21_9 : C := regL [2] none [⟨some 2, .mv (.const (.int .i64 6)), none⟩]
def Xn21_8 : C := .seq Xn21_9 .ret
def Xn21_7 : C := .cond (.tmp 16) Xn21_8 .skip
def Xn21_5 : C := .seq Xn21_6 Xn21_7
def Xn21_14 : C := regL [1, 3, 18] none [⟨some 17, .mv (.tmp 3), none⟩, ⟨some 18, .bin 3 .lss (.tmp 17) (.const (.int .i64 2)), none⟩]
def Xn21_17 : C := regL [2] none [⟨some 2, .mv (.const (.int .i64 2)), none⟩]
def Xn21_16 : C := .seq Xn21_17 .ret
def Xn21_15 : C := .cond (.tmp 18) Xn21_16 .skip
def Xn21_13 : C := .seq Xn21_14 Xn21_15
def Xn21_22 : C := regL [1, 3, 4] none [⟨some 4, .mv (.const (.int .i64 0)), none⟩]
def Xn21_27 : C := regL [1, 3, 4, 21] none [⟨some 19, .mv (.tmp 4), none⟩, ⟨some 20, .mv (.tmp 3), none⟩, ⟨some 21, .bin 3 .lss (.tmp 19) (.tmp 20), none⟩]
def Xn21_28 : C := .cond (.tmp 21) .skip (.exit 0)
def Xn21_26 : C := .seq Xn21_27 Xn21_28
def Xn21_34 : C := regL [1, 3, 4, 5] none [⟨some 24, .fa 0 (.tmp 1), none⟩, ⟨some 25, .ld 22 1 false (.tmp 24), none⟩, ⟨some 26, .mv (.tmp 4), none⟩, ⟨some 27, .ia 11 (.tmp 25) (.tmp 26), none⟩, ⟨some 28, .ld 43 11 true (.tmp 27), none⟩, ⟨some 5, .alc 43 (.agg #[.int .i64 0, .int .i64 0, .int .i64 0, .int .i64 0, .int .i64 0, .int .i64 0, .int .i64 0, .int .i64 0, .int .i64 0, .int .i64 0, .int .i64 0]), none⟩, ⟨none, .st 43 11 (.tmp 5) (.tmp 28), none⟩]
def Xn21_37 : C := regL [1, 3, 4, 5, 54] (some [0, 1, 3, 7, 15, 31, 63, 127, 255, 511, 255, 1279, 255, 4351, 15615, 31999, 64767, 131071, 262143, 524287, 1048575, 2097151, 4194303, 8388607, 16777215, 33554431]) [⟨some 29, .fa 0 (.tmp 5), none⟩, ⟨some 30, .ld 2 1 false (.tmp 29), none⟩, ⟨some 31, .call 50 [.tmp 30, .const (.int .i64 0), .const (.int .i64 1099511627776)], none⟩, ⟨some 32, .un .not (.tmp 31), none⟩, ⟨some 33, .mv (.tmp 32), none⟩, ⟨some 34, .mv (.tmp 4), some (33, false)⟩, ⟨some 35, .bin 3 .gtr (.tmp 34) (.const (.int .i64 0)), some (33, false)⟩, ⟨some 36, .mv (.tmp 35), some (33, false)⟩, ⟨some 37, .fa 0 (.tmp 5), some (36, true)⟩, ⟨some 38, .ld 2 1 false (.tmp 37), some (36, true)⟩, ⟨some 39, .fa 0 (.tmp 1), some (36, true)⟩, ⟨some 40, .ld 22 1 false (.tmp 39), some (36, true)⟩, ⟨some 41, .mv (.tmp 4), some (36, true)⟩, ⟨some 42, .bin 3 .sub (.tmp 41) (.const (.int .i64 1)), some (36, true)⟩, ⟨some 43, .ia 11 (.tmp 40) (.tmp 42), some (36, true)⟩, ⟨some 44, .fa 0 (.tmp 43), some (36, true)⟩, ⟨some 45, .ld 2 1 false (.tmp 44), some (36, true)⟩, ⟨some 46, .bin 2 .leq (.tmp 38) (.tmp 45), some (36, true)⟩, ⟨some 47, .pick 36 (.tmp 46) (.const (.bool false)), some (33, false)⟩, ⟨some 48, .pick 33 (.const (.bool true)) (.tmp 47), none⟩, ⟨some 49, .mv (.tmp 48), none⟩, ⟨some 50, .fa 1 (.tmp 5), some (49, false)⟩, ⟨some 51, .ld 40 2 true (.tmp 50), some (49, false)⟩, ⟨some 52, .call 52 [.tmp 51], some (49, false)⟩, ⟨some 53, .un .not (.tmp 52), some (49, false)⟩, ⟨some 54, .pick 49 (.const (.bool true)) (.tmp 53), none⟩]
def Xn21_40 : C := regL [2] none [⟨some 2, .mv (.const (.int .i64 2)), none⟩]
def Xn21_39 : C := .seq Xn21_40 .ret
def Xn21_38 : C := .cond (.tmp 54) Xn21_39 .skip
def Xn21_36 : C := .seq Xn21_37 Xn21_38
def Xn21_44 : C := regL [1, 3, 4, 5, 6] none [⟨some 6, .mv (.const (.int .i64 0)), none⟩]
def Xn21_49 : C := regL [1, 3, 4, 5, 6, 56] none [⟨some 55, .mv (.tmp 6), none⟩, ⟨some 56, .bin 3 .lss (.tmp 55) (.const (.int .i64 4)), none⟩]
def Xn21_50 : C := .cond (.tmp 56) .skip (.exit 2)
def Xn21_48 : C := .seq Xn21_49 Xn21_50
def Xn21_56 : C := regL [1, 3, 4, 5, 6, 64] none [⟨some 59, .mv (.tmp 6), none⟩, ⟨some 60, .fa 3 (.tmp 5), none⟩, ⟨some 61, .iaa 4 2 (.tmp 60) (.tmp 59), none⟩, ⟨some 62, .ld 40 2 true (.tmp 61), none⟩, ⟨some 63, .call 52 [.tmp 62], none⟩, ⟨some 64, .un .not (.tmp 63), none⟩]
def Xn21_59 : C := regL [2] none [⟨some 2, .mv (.const (.int .i64 2)), none⟩]
def Xn21_58 : C := .seq Xn21_59 .ret
def Xn21_57 : C := .cond (.tmp 64) Xn21_58 .skip
def Xn21_55 : C := .seq Xn21_56 Xn21_57
def Xn21_54 : C := .block 3 Xn21_55
def Xn21_62 : C := regL [1, 3, 4, 5, 6] none [⟨some 57, .mv (.tmp 6), none⟩, ⟨some 58, .bin 3 .add (.tmp 57) (.const (.int .i64 1)), none⟩, ⟨some 6, .mv (.tmp 58), none⟩]
def Xn21_53 : C := seqL [1, 3, 4, 5, 6] Xn21_54 Xn21_62
def Xn21_47 : C := seqL [1, 3, 4, 5, 6] Xn21_48 Xn21_53
/- carried: [6] -/
def Xn21_46 : C := loopL [1, 3, 4, 5, 6] Xn21_47
def Xn21_45 : C := .block 2 Xn21_46
def Xn21_43 : C := .seq Xn21_44 Xn21_45
def Xn21_35 : C := seqL [1, 3, 4, 5] Xn21_36 Xn21_43
def Xn21_33 : C := .seq Xn21_34 Xn21_35
def Xn21_32 : C := .block 1 Xn21_33
def Xn21_63 : C := regL [1, 3, 4] none [⟨some 22, .mv (.tmp 4), none⟩, ⟨some 23, .bin 3 .add (.tmp 22) (.const (.int .i64 1)), none⟩, ⟨some 4, .mv (.tmp 23), none⟩]
def Xn21_31 : C := seqL [1, 3, 4] Xn21_32 Xn21_63
def Xn21_25 : C := seqL [1, 3, 4] Xn21_26 Xn21_31
/- carried: [4] -/
def Xn21_24 : C := loopL [1, 3, 4] Xn21_25
def Xn21_23 : C := .block 0 Xn21_24
def Xn21_21 : C := .seq Xn21_22 Xn21_23
def Xn21_66 : C := regL [1, 78] (some [0, 1, 0, 4, 15, 31, 63, 0, 128, 384, 896, 1920, 4095, 8191]) [⟨some 65, .fa 0 (.tmp 1), none⟩, ⟨some 66, .ld 22 1 false (.tmp 65), none⟩, ⟨some 67, .mv (.tmp 3), none⟩, ⟨some 68, .bin 3 .sub (.tmp 67) (.const (.int .i64 1)), none⟩, ⟨some 69, .ia 11 (.tmp 66) (.tmp 68), none⟩, ⟨some 70, .fa 0 (.tmp 69), none⟩, ⟨some 71, .ld 2 1 false (.tmp 70), none⟩, ⟨some 72, .fa 0 (.tmp 1), none⟩, ⟨some 73, .ld 22 1 false (.tmp 72), none⟩, ⟨some 74, .ia 11 (.tmp 73) (.const (.int .i64 0)), none⟩, ⟨some 75, .fa 0 (.tmp 74), none⟩, ⟨some 76, .ld 2 1 false (.tmp 75), none⟩, ⟨some 77, .bin 2 .sub (.tmp 71) (.tmp 76), none⟩, ⟨some 78, .bin 2 .gtr (.tmp 77) (.const (.int .i64 2000)), none⟩]
def Xn21_69 : C := regL [2] none [⟨some 2, .mv (.const (.int .i64 2)), none⟩]
def Xn21_68 : C := .seq Xn21_69 .ret
def Xn21_67 : C := .cond (.tmp 78) Xn21_68 .skip
def Xn21_65 : C := .seq Xn21_66 Xn21_67
def Xn21_74 : C := regL [1, 7] none [⟨some 7, .mv (.const (.int .i64 0)), none⟩]
def Xn21_79 : C := regL [1, 7, 80] none [⟨some 79, .mv (.tmp 7), none⟩, ⟨some 80, .bin 3 .lss (.tmp 79) (.const (.int .i64 4)), none⟩]
def Xn21_80 : C := .cond (.tmp 80) .skip (.exit 4)
def Xn21_78 : C := .seq Xn21_79 Xn21_80
def Xn21_86 : C := regL [1, 7, 88] none [⟨some 83, .mv (.tmp 7), none⟩, ⟨some 84, .fa 1 (.tmp 1), none⟩, ⟨some 85, .iaa 4 1 (.tmp 84) (.tmp 83), none⟩, ⟨some 86, .ld 2 1 false (.tmp 85), none⟩, ⟨some 87, .call 50 [.tmp 86, .const (.int .i64 0), .const (.int .i64 1048576)], none⟩, ⟨some 88, .un .not (.tmp 87), none⟩]
def Xn21_89 : C := regL [2] none [⟨some 2, .mv (.const (.int .i64 2)), none⟩]
def Xn21_88 : C := .seq Xn21_89 .ret
def Xn21_87 : C := .cond (.tmp 88) Xn21_88 .skip
def Xn21_85 : C := .seq Xn21_86 Xn21_87
def Xn21_84 : C := .block 5 Xn21_85
def Xn21_92 : C := regL [1, 7] none [⟨some 81, .mv (.tmp 7), none⟩, ⟨some 82, .bin 3 .add (.tmp 81) (.const (.int .i64 1)), none⟩, ⟨some 7, .mv (.tmp 82), none⟩]
def Xn21_83 : C := seqL [1, 7] Xn21_84 Xn21_92
def Xn21_77 : C := seqL [1, 7] Xn21_78 Xn21_83
/- carried: [7] -/
def Xn21_76 : C := loopL [1, 7] Xn21_77
def Xn21_75 : C := .block 4 Xn21_76
def Xn21_73 : C := .seq Xn21_74 Xn21_75
def Xn21_95 : C := regL [1, 8] none [⟨some 8, .mv (.const (.int .i64 0)), none⟩]
def Xn21_100 : C := regL [1, 8, 92] none [⟨some 89, .mv (.tmp 8), none⟩, ⟨some 90, .ld 25 5 true (.tmp 1), none⟩, ⟨some 91, .call 53 [.tmp 90], none⟩, ⟨some 92, .bin 3 .leq (.tmp 89) (.tmp 91), none⟩]
def Xn21_101 : C := .cond (.tmp 92) .skip (.exit 6)
def Xn21_99 : C := .seq Xn21_100 Xn21_101
def Xn21_107 : C := regL [1, 8, 9] none [⟨some 95, .ld 25 5 true (.tmp 1), none⟩, ⟨some 96, .mv (.tmp 8), none⟩, ⟨some 97, .call 16 [.tmp 95, .tmp 96], none⟩, ⟨some 9, .alc 40 (.agg #[.int .i64 0, .int .i64 0]), none⟩, ⟨none, .st 40 2 (.tmp 9) (.tmp 97), none⟩]
def Xn21_110 : C := regL [1, 8, 102] none [⟨some 98, .fa 0 (.tmp 9), none⟩, ⟨some 99, .ld 2 1 false (.tmp 98), none⟩, ⟨some 100, .fa 1 (.tmp 9), none⟩, ⟨some 101, .ld 2 1 false (.tmp 100), none⟩, ⟨some 102, .bin 2 .gtr (.tmp 99) (.tmp 101), none⟩]
def Xn21_113 : C := regL [2] none [⟨some 2, .mv (.const (.int .i64 16)), none⟩]
def Xn21_112 : C := .seq Xn21_113 .ret
def Xn21_111 : C := .cond (.tmp 102) Xn21_112 .skip
def Xn21_109 : C := .seq Xn21_110 Xn21_111
def Xn21_117 : C := regL [1, 8, 10] none [⟨some 10, .mv (.const (.int .i64 0)), none⟩]
def Xn21_122 : C := regL [1, 8, 10, 104] none [⟨some 103, .mv (.tmp 10), none⟩, ⟨some 104, .bin 3 .lss (.tmp 103) (.const (.int .i64 4)), none⟩]
def Xn21_123 : C := .cond (.tmp 104) .skip (.exit 8)
def Xn21_121 : C := .seq Xn21_122 Xn21_123
def Xn21_129 : C := regL [1, 8, 10, 11] none [⟨some 107, .ld 25 5 true (.tmp 1), none⟩, ⟨some 108, .mv (.tmp 8), none⟩, ⟨some 109, .mv (.tmp 10), none⟩, ⟨some 110, .call 17 [.tmp 107, .tmp 108, .tmp 109], none⟩, ⟨some 11, .alc 40 (.agg #[.int .i64 0, .int .i64 0]), none⟩, ⟨none, .st 40 2 (.tmp 11) (.tmp 110), none⟩]
def Xn21_131 : C := regL [1, 8, 10, 115] none [⟨some 111, .fa 0 (.tmp 11), none⟩, ⟨some 112, .ld 2 1 false (.tmp 111), none⟩, ⟨some 113, .fa 1 (.tmp 11), none⟩, ⟨some 114, .ld 2 1 false (.tmp 113), none⟩, ⟨some 115, .bin 2 .gtr (.tmp 112) (.tmp 114), none⟩]
def Xn21_134 : C := regL [2] none [⟨some 2, .mv (.const (.int .i64 16)), none⟩]
def Xn21_133 : C := .seq Xn21_134 .ret
def Xn21_132 : C := .cond (.tmp 115) Xn21_133 .skip
def Xn21_130 : C := .seq Xn21_131 Xn21_132
def Xn21_128 : C := .seq Xn21_129 Xn21_130
def Xn21_127 : C := .block 9 Xn21_128
def Xn21_137 : C := regL [1, 8, 10] none [⟨some 105, .mv (.tmp 10), none⟩, ⟨some 106, .bin 3 .add (.tmp 105) (.const (.int .i64 1)), none⟩, ⟨some 10, .mv (.tmp 106), none⟩]
def Xn21_126 : C := seqL [1, 8, 10] Xn21_127 Xn21_137
def Xn21_120 : C := seqL [1, 8, 10] Xn21_121 Xn21_126
/- carried: [10] -/
def Xn21_119 : C := loopL [1, 8, 10] Xn21_120
def Xn21_118 : C := .block 8 Xn21_119
def Xn21_116 : C := .seq Xn21_117 Xn21_118
def Xn21_108 : C := seqL [1, 8] Xn21_109 Xn21_116
def Xn21_106 : C := .seq Xn21_107 Xn21_108
def Xn21_105 : C := .block 7 Xn21_106
def Xn21_138 : C := regL [1, 8] none [⟨some 93, .mv (.tmp 8), none⟩, ⟨some 94, .bin 3 .add (.tmp 93) (.const (.int .i64 1)), none⟩, ⟨some 8, .mv (.tmp 94), none⟩]
def Xn21_104 : C := seqL [1, 8] Xn21_105 Xn21_138
def Xn21_98 : C := seqL [1, 8] Xn21_99 Xn21_104
/- carried: [8] -/
def Xn21_97 : C := loopL [1, 8] Xn21_98
def Xn21_96 : C := .block 6 Xn21_97
def Xn21_94 : C := .seq Xn21_95 Xn21_96
def Xn21_140 : C := regL [2] none [⟨some 2, .mv (.const (.int .i64 0)), none⟩]
def Xn21_139 : C := .seq Xn21_140 .ret
def Xn21_93 : C := seqL [] Xn21_94 Xn21_139
def Xn21_72 : C := seqL [1] Xn21_73 Xn21_93
def Xn21_64 : C := seqL [1] Xn21_65 Xn21_72
def Xn21_20 : C := seqL [1, 3] Xn21_21 Xn21_64
def Xn21_12 : C := seqL [1, 3] Xn21_13 Xn21_20
def Xn21_4 : C := seqL [1, 3] Xn21_5 Xn21_12
def Xn21_2 : C := .seq Xn21_3 Xn21_4
def Xn21_0 : C := .seq Xn21_1 Xn21_2
theorem Xt21 : Text Try.prog 21 Xn21_0 116 1 [.t 2] := ⟨⟨Try.f21, [1], Try.func21, by kernel_rfl, by kernel_rfl, by kernel_rfl, by kernel_rfl⟩⟩
def Xn22_1 : C := regL [2, 3] none [⟨some 2, .box true 25 (.tmp 0), none⟩, ⟨some 3, .box true 34 (.tmp 1), none⟩, ⟨some 4, .mv (.const (.bool false)), none⟩, ⟨some 5, .mv (.const (.int .i64 0)), none⟩]
def Xn22_3 : C := regL [2, 3, 6, 7] none [⟨some 14, .ld 25 5 true (.tmp 2), none⟩, ⟨some 15, .call 46 [.tmp 14], none⟩, ⟨some 13, .mv (.tmp 15), none⟩, ⟨some 16, .ext 0 (.tmp 13), none⟩, ⟨some 17, .ext 1 (.tmp 13), none⟩, ⟨some 6, .mv (.tmp 16), none⟩, ⟨some 7, .mv (.tmp 17), none⟩]
def Xn22_6 : C := regL [2, 3, 6, 7, 19] none [⟨some 18, .mv (.tmp 7), none⟩, ⟨some 19, .bin 36 .neq (.tmp 18) (.const (.int .i64 0)), none⟩]
def Xn22_9 : C := regL [4, 5] none [⟨some 20, .mv (.tmp 7), none⟩, ⟨some 4, .mv (.const (.bool false)), none⟩, ⟨some 5, .mv (.tmp 20), none⟩]
def Xn22_8 : C := .seq Xn22_9 .ret
def Xn22_7 : C := .cond (.tmp 19) Xn22_8 .skip
def Xn22_5 : C := .seq Xn22_6 Xn22_7
def Xn22_14 : C := regL [2, 3, 6, 24] none [⟨some 21, .mv (.tmp 6), none⟩, ⟨some 22, .ld 34 2 true (.tmp 3), none⟩, ⟨some 23, .call 54 [.tmp 21, .tmp 22], none⟩, ⟨some 24, .un .not (.tmp 23), none⟩]
def Xn22_17 : C := regL [4, 5] none [⟨some 4, .mv (.const (.bool false)), none⟩, ⟨some 5, .mv (.const (.int .i64 0)), none⟩]
def Xn22_16 : C := .seq Xn22_17 .ret
def Xn22_15 : C := .cond (.tmp 24) Xn22_16 .skip
def Xn22_13 : C := .seq Xn22_14 Xn22_15
def Xn22_22 : C := regL [2, 3, 6, 26, 27, 28] none [⟨some 25, .fa 0 (.tmp 3), none⟩, ⟨some 26, .ld 31 1 false (.tmp 25), none⟩, ⟨some 27, .len (.tmp 26), none⟩, ⟨some 28, .mv (.const (.int .i64 0)), none⟩]
def Xn22_26 : C := regL [2, 3, 6, 26, 27, 28, 29] none [⟨some 29, .bin 3 .lss (.tmp 28) (.tmp 27), none⟩]
def Xn22_28 : C := .cond (.tmp 29) .skip (.exit 0)
def Xn22_34 : C := regL [2, 3, 6, 8, 9, 26, 27, 28] none [⟨some 30, .mv (.tmp 28), none⟩, ⟨some 31, .ia 1 (.tmp 26) (.tmp 28), none⟩, ⟨some 32, .ld 2 1 false (.tmp 31), none⟩, ⟨some 8, .mv (.tmp 30), none⟩, ⟨some 9, .mv (.tmp 32), none⟩]
def Xn22_37 : C := regL [2, 3, 6, 8, 26, 27, 28, 65] (some [0, 0, 2, 6, 14, 0, 62, 126, 254, 0, 512, 1536, 3584, 0, 15872, 32256, 65024, 131071, 262143, 524287, 1048575, 2097151, 4194303, 8388607, 8388607, 25165823, 8388607, 75497471, 260046847, 528482303, 1073741823, 2147483647, 4294967295]) [⟨some 33, .mv (.tmp 9), none⟩, ⟨some 34, .mv (.tmp 6), none⟩, ⟨some 35, .nilc (.tmp 34), none⟩, ⟨some 36, .fa 6 (.tmp 35), none⟩, ⟨some 37, .ld 92 1 false (.tmp 36), none⟩, ⟨some 38, .mv (.tmp 8), none⟩, ⟨some 39, .ia 2 (.tmp 37) (.tmp 38), none⟩, ⟨some 40, .fa 0 (.tmp 39), none⟩, ⟨some 41, .ld 2 1 false (.tmp 40), none⟩, ⟨some 42, .mv (.tmp 6), none⟩, ⟨some 43, .nilc (.tmp 42), none⟩, ⟨some 44, .fa 6 (.tmp 43), none⟩, ⟨some 45, .ld 92 1 false (.tmp 44), none⟩, ⟨some 46, .mv (.tmp 8), none⟩, ⟨some 47, .ia 2 (.tmp 45) (.tmp 46), none⟩, ⟨some 48, .fa 1 (.tmp 47), none⟩, ⟨some 49, .ld 2 1 false (.tmp 48), none⟩, ⟨some 50, .call 49 [.tmp 33, .tmp 41, .tmp 49], none⟩, ⟨some 51, .un .not (.tmp 50), none⟩, ⟨some 52, .mv (.tmp 51), none⟩, ⟨some 53, .mv (.tmp 8), some (52, false)⟩, ⟨some 54, .bin 3 .gtr (.tmp 53) (.const (.int .i64 0)), some (52, false)⟩, ⟨some 55, .mv (.tmp 54), some (52, false)⟩, ⟨some 56, .mv (.tmp 9), some (55, true)⟩, ⟨some 57, .fa 0 (.tmp 3), some (55, true)⟩, ⟨some 58, .ld 31 1 false (.tmp 57), some (55, true)⟩, ⟨some 59, .mv (.tmp 8), some (55, true)⟩, ⟨some 60, .bin 3 .sub (.tmp 59) (.const (.int .i64 1)), some (55, true)⟩, ⟨some 61, .ia 1 (.tmp 58) (.tmp 60), some (55, true)⟩, ⟨some 62, .ld 2 1 false (.tmp 61), some (55, true)⟩, ⟨some 63, .bin 2 .lss (.tmp 56) (.tmp 62), some (55, true)⟩, ⟨some 64, .pick 55 (.tmp 63) (.const (.bool false)), some (52, false)⟩, ⟨some 65, .pick 52 (.const (.bool true)) (.tmp 64), none⟩]
def Xn22_40 : C := regL [4, 5] none [⟨some 4, .mv (.const (.bool false)), none⟩, ⟨some 5, .mv (.const (.int .i64 0)), none⟩]
def Xn22_39 : C := .seq Xn22_40 .ret
def Xn22_38 : C := .cond (.tmp 65) Xn22_39 .skip
def Xn22_36 : C := .seq Xn22_37 Xn22_38
def Xn22_44 : C := regL [2, 3, 6, 8, 26, 27, 28, 70, 71] none [⟨some 66, .fa 1 (.tmp 3), none⟩, ⟨some 67, .ld 32 1 false (.tmp 66), none⟩, ⟨some 68, .mv (.tmp 8), none⟩, ⟨some 69, .ia 4 (.tmp 67) (.tmp 68), none⟩, ⟨some 70, .ld 23 4 true (.tmp 69), none⟩, ⟨some 71, .mv (.const (.int .i64 0)), none⟩]
def Xn22_48 : C := regL [2, 3, 6, 8, 26, 27, 28, 70, 71, 72] none [⟨some 72, .bin 3 .lss (.tmp 71) (.const (.int .i64 4)), none⟩]
def Xn22_50 : C := .cond (.tmp 72) .skip (.exit 2)
def Xn22_56 : C := regL [2, 3, 6, 8, 10, 11, 26, 27, 28, 70, 71] none [⟨some 73, .mv (.tmp 71), none⟩, ⟨some 74, .idx 4 1 false (.tmp 70) (.tmp 71), none⟩, ⟨some 10, .mv (.tmp 73), none⟩, ⟨some 11, .mv (.tmp 74), none⟩]
def Xn22_59 : C := regL [2, 3, 6, 8, 10, 11, 12, 26, 27, 28, 70, 71] none [⟨some 75, .mv (.tmp 6), none⟩, ⟨some 76, .mv (.tmp 10), none⟩, ⟨some 77, .nilc (.tmp 75), none⟩, ⟨some 78, .fa 7 (.tmp 77), none⟩, ⟨some 79, .iaa 4 1 (.tmp 78) (.tmp 76), none⟩, ⟨some 80, .ld 92 1 false (.tmp 79), none⟩, ⟨some 81, .mv (.tmp 8), none⟩, ⟨some 82, .ia 2 (.tmp 80) (.tmp 81), none⟩, ⟨some 83, .ld 40 2 true (.tmp 82), none⟩, ⟨some 12, .alc 40 (.agg #[.int .i64 0, .int .i64 0]), none⟩, ⟨none, .st 40 2 (.tmp 12) (.tmp 83), none⟩]
def Xn22_61 : C := regL [2, 3, 6, 8, 10, 11, 26, 27, 28, 70, 71, 90] none [⟨some 84, .mv (.tmp 11), none⟩, ⟨some 85, .fa 0 (.tmp 12), none⟩, ⟨some 86, .ld 2 1 false (.tmp 85), none⟩, ⟨some 87, .fa 1 (.tmp 12), none⟩, ⟨some 88, .ld 2 1 false (.tmp 87), none⟩, ⟨some 89, .call 49 [.tmp 84, .tmp 86, .tmp 88], none⟩, ⟨some 90, .un .not (.tmp 89), none⟩]
def Xn22_64 : C := regL [4, 5] none [⟨some 4, .mv (.const (.bool false)), none⟩, ⟨some 5, .mv (.const (.int .i64 0)), none⟩]
def Xn22_63 : C := .seq Xn22_64 .ret
def Xn22_62 : C := .cond (.tmp 90) Xn22_63 .skip
def Xn22_60 : C := .seq Xn22_61 Xn22_62
def Xn22_58 : C := .seq Xn22_59 Xn22_60
def Xn22_68 : C := regL [2, 3, 6, 8, 26, 27, 28, 70, 71, 123] (some [0, 1, 3, 7, 7, 23, 7, 71, 7, 247, 1015, 2039, 7, 7, 12295, 28679, 65527, 7, 131079, 7, 524295, 7, 1966087, 8257543, 16646151, 7, 7, 100663303, 234881031, 536739847, 1073741823, 2147483647, 4294967295]) [⟨some 91, .mv (.tmp 8), none⟩, ⟨some 92, .bin 3 .gtr (.tmp 91) (.const (.int .i64 0)), none⟩, ⟨some 93, .mv (.tmp 92), none⟩, ⟨some 94, .mv (.tmp 11), some (93, true)⟩, ⟨some 95, .fa 1 (.tmp 3), some (93, true)⟩, ⟨some 96, .ld 32 1 false (.tmp 95), some (93, true)⟩, ⟨some 97, .mv (.tmp 8), some (93, true)⟩, ⟨some 98, .bin 3 .sub (.tmp 97) (.const (.int .i64 1)), some (93, true)⟩, ⟨some 99, .mv (.tmp 10), some (93, true)⟩, ⟨some 100, .ia 4 (.tmp 96) (.tmp 98), some (93, true)⟩, ⟨some 101, .iaa 4 1 (.tmp 100) (.tmp 99), some (93, true)⟩, ⟨some 102, .ld 2 1 false (.tmp 101), some (93, true)⟩, ⟨some 103, .mv (.tmp 10), some (93, true)⟩, ⟨some 104, .fa 1 (.tmp 2), some (93, true)⟩, ⟨some 105, .iaa 4 1 (.tmp 104) (.tmp 103), some (93, true)⟩, ⟨some 106, .ld 2 1 false (.tmp 105), some (93, true)⟩, ⟨some 107, .bin 2 .sub (.tmp 102) (.tmp 106), some (93, true)⟩, ⟨some 108, .fa 1 (.tmp 3), some (93, true)⟩, ⟨some 109, .ld 32 1 false (.tmp 108), some (93, true)⟩, ⟨some 110, .mv (.tmp 8), some (93, true)⟩, ⟨some 111, .bin 3 .sub (.tmp 110) (.const (.int .i64 1)), some (93, true)⟩, ⟨some 112, .mv (.tmp 10), some (93, true)⟩, ⟨some 113, .ia 4 (.tmp 109) (.tmp 111), some (93, true)⟩, ⟨some 114, .iaa 4 1 (.tmp 113) (.tmp 112), some (93, true)⟩, ⟨some 115, .ld 2 1 false (.tmp 114), some (93, true)⟩, ⟨some 116, .mv (.tmp 10), some (93, true)⟩, ⟨some 117, .fa 1 (.tmp 2), some (93, true)⟩, ⟨some 118, .iaa 4 1 (.tmp 117) (.tmp 116), some (93, true)⟩, ⟨some 119, .ld 2 1 false (.tmp 118), some (93, true)⟩, ⟨some 120, .bin 2 .add (.tmp 115) (.tmp 119), some (93, true)⟩, ⟨some 121, .call 49 [.tmp 94, .tmp 107, .tmp 120], some (93, true)⟩, ⟨some 122, .un .not (.tmp 121), some (93, true)⟩, ⟨some 123, .pick 93 (.tmp 122) (.const (.bool false)), none⟩]
def Xn22_71 : C := regL [4, 5] none [⟨some 4, .mv (.const (.bool false)), none⟩, ⟨some 5, .mv (.const (.int .i64 0)), none⟩]
def Xn22_70 : C := .seq Xn22_71 .ret
def Xn22_69 : C := .cond (.tmp 123) Xn22_70 .skip
def Xn22_67 : C := .seq Xn22_68 Xn22_69
def Xn22_57 : C := seqL [2, 3, 6, 8, 10, 11, 26, 27, 28, 70, 71] Xn22_58 Xn22_67
def Xn22_55 : C := .seq Xn22_56 Xn22_57
def Xn22_54 : C := .block 3 Xn22_55
def Xn22_74 : C := regL [2, 3, 6, 8, 26, 27, 28, 70, 71] none [⟨some 124, .bin 3 .add (.tmp 71) (.const (.int .i64 1)), none⟩, ⟨some 71, .mv (.tmp 124), none⟩]
def Xn22_53 : C := seqL [2, 3, 6, 8, 26, 27, 28, 70, 71] Xn22_54 Xn22_74
def Xn22_49 : C := seqL [2, 3, 6, 8, 26, 27, 28, 70, 71] Xn22_50 Xn22_53
def Xn22_47 : C := .seq Xn22_48 Xn22_49
/- carried: [71] -/
def Xn22_46 : C := loopL [2, 3, 6, 8, 26, 27, 28, 70, 71] Xn22_47
def Xn22_45 : C := .block 2 Xn22_46
def Xn22_43 : C := .seq Xn22_44 Xn22_45
def Xn22_35 : C := seqL [2, 3, 6, 8, 26, 27, 28] Xn22_36 Xn22_43
def Xn22_33 : C := .seq Xn22_34 Xn22_35
def Xn22_32 : C := .block 1 Xn22_33
def Xn22_75 : C := regL [2, 3, 6, 26, 27, 28] none [⟨some 125, .bin 3 .add (.tmp 28) (.const (.int .i64 1)), none⟩, ⟨some 28, .mv (.tmp 125), none⟩]
def Xn22_31 : C := seqL [2, 3, 6, 26, 27, 28] Xn22_32 Xn22_75
def Xn22_27 : C := seqL [2, 3, 6, 26, 27, 28] Xn22_28 Xn22_31
def Xn22_25 : C := .seq Xn22_26 Xn22_27
/- carried: [28] -/
def Xn22_24 : C := loopL [2, 3, 6, 26, 27, 28] Xn22_25
def Xn22_23 : C := .block 0 Xn22_24
def Xn22_21 : C := .seq Xn22_22 Xn22_23
def Xn22_77 : C := regL [4, 5] none [⟨some 4, .mv (.const (.bool true)), none⟩, ⟨some 5, .mv (.const (.int .i64 0)), none⟩]
def Xn22_76 : C := .seq Xn22_77 .ret
def Xn22_20 : C := seqL [] Xn22_21 Xn22_76
def Xn22_12 : C := seqL [2, 3, 6] Xn22_13 Xn22_20
def Xn22_4 : C := seqL [2, 3, 6] Xn22_5 Xn22_12
def Xn22_2 : C := .seq Xn22_3 Xn22_4
def Xn22_0 : C := .seq Xn22_1 Xn22_2
theorem Xt22 : Text Try.prog 22 Xn22_0 126 2 [.t 4, .t 5] := ⟨⟨Try.f22, [2, 3], Try.func22, by kernel_rfl, by kernel_rfl, by kernel_rfl, by kernel_rfl⟩⟩
def Xn23_1 : C := regL [1] none [⟨some 1, .box true 25 (.tmp 0), none⟩, ⟨some 2, .mv (.const (.int .i64 0)), none⟩, ⟨some 3, .mv (.const (.int .i64 0)), none⟩]
def Xn23_3 : C := regL [4, 5] none [⟨some 7, .ld 25 5 true (.tmp 1), none⟩, ⟨some 8, .call 46 [.tmp 7], none⟩, ⟨some 6, .mv (.tmp 8), none⟩, ⟨some 9, .ext 0 (.tmp 6), none⟩, ⟨some 10, .ext 1 (.tmp 6), none⟩, ⟨some 4, .mv (.tmp 9), none⟩, ⟨some 5, .mv (.tmp 10), none⟩]
def Xn23_6 : C := regL [4, 5, 12] none [⟨some 11, .mv (.tmp 5), none⟩, ⟨some 12, .bin 36 .neq (.tmp 11) (.const (.int .i64 0)), none⟩]
def Xn23_9 : C := regL [2, 3] none [⟨some 13, .mv (.tmp 5), none⟩, ⟨some 2, .mv (.const (.int .i64 0)), none⟩, ⟨some 3, .mv (.tmp 13), none⟩]
def Xn23_8 : C := .seq Xn23_9 .ret
def Xn23_7 : C := .cond (.tmp 12) Xn23_8 .skip
def Xn23_5 : C := .seq Xn23_6 Xn23_7
def Xn23_13 : C := regL [2, 3] none [⟨some 14, .mv (.tmp 4), none⟩, ⟨some 15, .nilc (.tmp 14), none⟩, ⟨some 16, .fa 6 (.tmp 15), none⟩, ⟨some 17, .ld 92 1 false (.tmp 16), none⟩, ⟨some 18, .len (.tmp 17), none⟩, ⟨some 2, .mv (.tmp 18), none⟩, ⟨some 3, .mv (.const (.int .i64 0)), none⟩]
def Xn23_12 : C := .seq Xn23_13 .ret
def Xn23_4 : C := seqL [4] Xn23_5 Xn23_12
def Xn23_2 : C := .seq Xn23_3 Xn23_4
def Xn23_0 : C := .seq Xn23_1 Xn23_2
theorem Xt23 : Text Try.prog 23 Xn23_0 19 1 [.t 2, .t 3] := ⟨⟨Try.f23, [1], Try.func23, by kernel_rfl, by kernel_rfl, by kernel_rfl, by kernel_rfl⟩⟩
def Xn24_1 : C := regL [1, 2, 4, 5] none [⟨some 2, .box true 25 (.tmp 0), none⟩, ⟨some 4, .alc 40 (.agg #[.int .i64 0, .int .i64 0]), none⟩, ⟨some 5, .alc 41 (.agg #[.int .i64 0, .int .i64 0, .int .i64 0, .int .i64 0, .int .i64 0, .int .i64 0, .int .i64 0, .int .i64 0]), none⟩, ⟨some 6, .mv (.const (.int .i64 0)), none⟩]
def Xn24_3 : C := regL [1, 4, 5, 7, 8] none [⟨some 12, .ld 25 5 true (.tmp 2), none⟩, ⟨some 13, .call 46 [.tmp 12], none⟩, ⟨some 11, .mv (.tmp 13), none⟩, ⟨some 14, .ext 0 (.tmp 11), none⟩, ⟨some 15, .ext 1 (.tmp 11), none⟩, ⟨some 7, .mv (.tmp 14), none⟩, ⟨some 8, .mv (.tmp 15), none⟩]
def Xn24_6 : C := regL [1, 4, 5, 7, 8, 17] none [⟨some 16, .mv (.tmp 8), none⟩, ⟨some 17, .bin 36 .neq (.tmp 16) (.const (.int .i64 0)), none⟩]
def Xn24_9 : C := regL [4, 5, 6] none [⟨some 18, .bld (.agg #[.int .i64 0, .int .i64 0]) [], none⟩, ⟨some 19, .bld (.agg #[.int .i64 0, .int .i64 0, .int .i64 0, .int .i64 0, .int .i64 0, .int .i64 0, .int .i64 0, .int .i64 0]) [], none⟩, ⟨some 20, .mv (.tmp 8), none⟩, ⟨none, .st 40 2 (.tmp 4) (.tmp 18), none⟩, ⟨none, .st 41 8 (.tmp 5) (.tmp 19), none⟩, ⟨some 6, .mv (.tmp 20), none⟩]
def Xn24_8 : C := .seq Xn24_9 .ret
def Xn24_7 : C := .cond (.tmp 17) Xn24_8 .skip
def Xn24_5 : C := .seq Xn24_6 Xn24_7
def Xn24_14 : C := regL [1, 4, 5, 7, 31] none [⟨some 21, .mv (.tmp 1), none⟩, ⟨some 22, .bin 3 .lss (.tmp 21) (.const (.int .i64 0)), none⟩, ⟨some 23, .mv (.tmp 22), none⟩, ⟨some 24, .mv (.tmp 1), some (23, false)⟩, ⟨some 25, .mv (.tmp 7), some (23, false)⟩, ⟨some 26, .nilc (.tmp 25), some (23, false)⟩, ⟨some 27, .fa 6 (.tmp 26), some (23, false)⟩, ⟨some 28, .ld 92 1 false (.tmp 27), some (23, false)⟩, ⟨some 29, .len (.tmp 28), some (23, false)⟩, ⟨some 30, .bin 3 .geq (.tmp 24) (.tmp 29), some (23, false)⟩, ⟨some 31, .pick 23 (.const (.bool true)) (.tmp 30), none⟩]
def Xn24_17 : C := regL [4, 5, 6] none [⟨some 32, .bld (.agg #[.int .i64 0, .int .i64 0]) [], none⟩, ⟨some 33, .bld (.agg #[.int .i64 0, .int .i64 0, .int .i64 0, .int .i64 0, .int .i64 0, .int .i64 0, .int .i64 0, .int .i64 0]) [], none⟩, ⟨none, .st 40 2 (.tmp 4) (.tmp 32), none⟩, ⟨none, .st 41 8 (.tmp 5) (.tmp 33), none⟩, ⟨some 6, .mv (.const (.int .i64 3)), none⟩]
def Xn24_16 : C := .seq Xn24_17 .ret
def Xn24_15 : C := .cond (.tmp 31) Xn24_16 .skip
def Xn24_13 : C := .seq Xn24_14 Xn24_15
def Xn24_21 : C := regL [1, 4, 5, 7, 9] none [⟨some 9, .alc 41 (.agg #[.int .i64 0, .int .i64 0, .int .i64 0, .int .i64 0, .int .i64 0, .int .i64 0, .int .i64 0, .int .i64 0]), none⟩]
def Xn24_24 : C := regL [1, 4, 5, 7, 9, 34] none [⟨some 34, .mv (.const (.int .i64 0)), none⟩]
def Xn24_28 : C := regL [1, 4, 5, 7, 9, 34, 35] none [⟨some 35, .bin 3 .lss (.tmp 34) (.const (.int .i64 4)), none⟩]
def Xn24_30 : C := .cond (.tmp 35) .skip (.exit 0)
def Xn24_36 : C := regL [1, 4, 5, 7, 9, 10, 34] none [⟨some 36, .mv (.tmp 34), none⟩, ⟨some 10, .mv (.tmp 36), none⟩]
def Xn24_37 : C := regL [1, 4, 5, 7, 9, 34] none [⟨some 37, .mv (.tmp 10), none⟩, ⟨some 38, .mv (.tmp 7), none⟩, ⟨some 39, .mv (.tmp 10), none⟩, ⟨some 40, .nilc (.tmp 38), none⟩, ⟨some 41, .fa 7 (.tmp 40), none⟩, ⟨some 42, .iaa 4 1 (.tmp 41) (.tmp 39), none⟩, ⟨some 43, .ld 92 1 false (.tmp 42), none⟩, ⟨some 44, .mv (.tmp 1), none⟩, ⟨some 45, .ia 2 (.tmp 43) (.tmp 44), none⟩, ⟨some 46, .ld 40 2 true (.tmp 45), none⟩, ⟨some 47, .iaa 4 2 (.tmp 9) (.tmp 37), none⟩, ⟨none, .st 40 2 (.tmp 47) (.tmp 46), none⟩]
def Xn24_35 : C := .seq Xn24_36 Xn24_37
def Xn24_34 : C := .block 1 Xn24_35
def Xn24_38 : C := regL [1, 4, 5, 7, 9, 34] none [⟨some 48, .bin 3 .add (.tmp 34) (.const (.int .i64 1)), none⟩, ⟨some 34, .mv (.tmp 48), none⟩]
def Xn24_33 : C := seqL [1, 4, 5, 7, 9, 34] Xn24_34 Xn24_38
def Xn24_29 : C := seqL [1, 4, 5, 7, 9, 34] Xn24_30 Xn24_33
def Xn24_27 : C := .seq Xn24_28 Xn24_29
/- carried: [34] -/
def Xn24_26 : C := loopL [1, 4, 5, 7, 9, 34] Xn24_27
def Xn24_25 : C := .block 0 Xn24_26
def Xn24_23 : C := .seq Xn24_24 Xn24_25
def Xn24_40 : C := regL [4, 5, 6] (some [0, 1, 3, 7, 0, 31, 63, 0, 127, 511, 1023]) [⟨some 49, .mv (.tmp 7), none⟩, ⟨some 50, .nilc (.tmp 49), none⟩, ⟨some 51, .fa 6 (.tmp 50), none⟩, ⟨some 52, .ld 92 1 false (.tmp 51), none⟩, ⟨some 53, .mv (.tmp 1), none⟩, ⟨some 54, .ia 2 (.tmp 52) (.tmp 53), none⟩, ⟨some 55, .ld 40 2 true (.tmp 54), none⟩, ⟨some 56, .ld 41 8 true (.tmp 9), none⟩, ⟨none, .st 40 2 (.tmp 4) (.tmp 55), none⟩, ⟨none, .st 41 8 (.tmp 5) (.tmp 56), none⟩, ⟨some 6, .mv (.const (.int .i64 0)), none⟩]
def Xn24_39 : C := .seq Xn24_40 .ret
def Xn24_22 : C := seqL [1, 4, 5, 7, 9] Xn24_23 Xn24_39
def Xn24_20 : C := .seq Xn24_21 Xn24_22
def Xn24_12 : C := seqL [1, 4, 5, 7] Xn24_13 Xn24_20
def Xn24_4 : C := seqL [1, 4, 5, 7] Xn24_5 Xn24_12
def Xn24_2 : C := .seq Xn24_3 Xn24_4
def Xn24_0 : C := .seq Xn24_1 Xn24_2
theorem Xt24 : Text Try.prog 24 Xn24_0 57 2 [.c 4 2 true, .c 5 8 true, .t 6] := ⟨⟨Try.f24, [2], Try.func24, by kernel_rfl, by kernel_rfl, by kernel_rfl, by kernel_rfl⟩⟩
/- carried: [10, 32] -/
/- carried: [9] -/
/- carried: [9, 10] -/
def Xn29_1 : C := regL [1] none [⟨some 1, .box true 34 (.tmp 0), none⟩, ⟨some 2, .mv (.const (.bool false)), none⟩]
def Xn29_3 : C := regL [2] none [⟨some 3, .fa 0 (.tmp 1), none⟩, ⟨some 4, .ld 31 1 false (.tmp 3), none⟩, ⟨some 5, .len (.tmp 4), none⟩, ⟨some 6, .bin 3 .gtr (.tmp 5) (.const (.int .i64 300)), none⟩, ⟨some 7, .mv (.tmp 6), none⟩, ⟨some 8, .fa 1 (.tmp 1), some (7, false)⟩, ⟨some 9, .ld 32 1 false (.tmp 8), some (7, false)⟩, ⟨some 10, .len (.tmp 9), some (7, false)⟩, ⟨some 11, .bin 3 .gtr (.tmp 10) (.const (.int .i64 300)), some (7, false)⟩, ⟨some 12, .pick 7 (.const (.bool true)) (.tmp 11), none⟩, ⟨some 2, .mv (.tmp 12), none⟩]
def Xn29_2 : C := .seq Xn29_3 .ret
def Xn29_0 : C := .seq Xn29_1 Xn29_2
theorem Xt29 : Text Try.prog 29 Xn29_0 13 1 [.t 2] := ⟨⟨Try.f29, [1], Try.func29, by kernel_rfl, by kernel_rfl, by kernel_rfl, by kernel_rfl⟩⟩
def Xn30_1 : C := regL [1] none [⟨some 1, .box true 25 (.tmp 0), none⟩, ⟨some 2, .mv (.const (.int .i64 0)), none⟩, ⟨some 3, .mv (.const (.int .i64 0)), none⟩]
def Xn30_3 : C := regL [1, 4] none [⟨some 5, .ld 25 5 true (.tmp 1), none⟩, ⟨some 6, .call 21 [.tmp 5], none⟩, ⟨some 4, .mv (.tmp 6), none⟩]
def Xn30_6 : C := regL [1, 4, 8] none [⟨some 7, .mv (.tmp 4), none⟩, ⟨some 8, .bin 36 .neq (.tmp 7) (.const (.int .i64 0)), none⟩]
def Xn30_9 : C := regL [2, 3] none [⟨some 9, .mv (.tmp 4), none⟩, ⟨some 2, .mv (.const (.int .i64 0)), none⟩, ⟨some 3, .mv (.tmp 9), none⟩]
def Xn30_8 : C := .seq Xn30_9 .ret
def Xn30_7 : C := .cond (.tmp 8) Xn30_8 .skip
def Xn30_5 : C := .seq Xn30_6 Xn30_7
def Xn30_13 : C := regL [2, 3] none [⟨some 10, .ld 25 5 true (.tmp 1), none⟩, ⟨some 11, .call 53 [.tmp 10], none⟩, ⟨some 12, .bin 3 .add (.tmp 11) (.const (.int .i64 1)), none⟩, ⟨some 2, .mv (.tmp 12), none⟩, ⟨some 3, .mv (.const (.int .i64 0)), none⟩]
def Xn30_12 : C := .seq Xn30_13 .ret
def Xn30_4 : C := seqL [1] Xn30_5 Xn30_12
def Xn30_2 : C := .seq Xn30_3 Xn30_4
def Xn30_0 : C := .seq Xn30_1 Xn30_2
theorem Xt30 : Text Try.prog 30 Xn30_0 13 1 [.t 2, .t 3] := ⟨⟨Try.f30, [1], Try.func30, by kernel_rfl, by kernel_rfl, by kernel_rfl, by kernel_rfl⟩⟩
def Xn31_1 : C := regL [1] none [⟨some 1, .box true 25 (.tmp 0), none⟩, ⟨some 2, .mv (.const (.int .i64 0)), none⟩]
def Xn31_3 : C := regL [4] none [⟨some 6, .ld 25 5 true (.tmp 1), none⟩, ⟨some 7, .call 46 [.tmp 6], none⟩, ⟨some 5, .mv (.tmp 7), none⟩, ⟨some 8, .ext 0 (.tmp 5), none⟩, ⟨some 9, .ext 1 (.tmp 5), none⟩, ⟨some 3, .mv (.tmp 8), none⟩, ⟨some 4, .mv (.tmp 9), none⟩]
def Xn31_5 : C := regL [2] none [⟨some 10, .mv (.tmp 4), none⟩, ⟨some 2, .mv (.tmp 10), none⟩]
def Xn31_4 : C := .seq Xn31_5 .ret
def Xn31_2 : C := .seq Xn31_3 Xn31_4
def Xn31_0 : C := .seq Xn31_1 Xn31_2
theorem Xt31 : Text Try.prog 31 Xn31_0 11 1 [.t 2] := ⟨⟨Try.f31, [1], Try.func31, by kernel_rfl, by kernel_rfl, by kernel_rfl, by kernel_rfl⟩⟩
def Xn32_1 : C := regL [1] none [⟨some 1, .box true 27 (.tmp 0), none⟩, ⟨some 2, .mv (.const (.int .i64 0)), none⟩]
def Xn32_3 : C := regL [1, 3] none [⟨some 4, .fa 0 (.tmp 1), none⟩, ⟨some 5, .ld 2 1 false (.tmp 4), none⟩, ⟨some 6, .fa 1 (.tmp 1), none⟩, ⟨some 7, .ld 2 1 false (.tmp 6), none⟩, ⟨some 8, .bld (.agg #[.int .i64 0, .int .i64 0]) [(0, 1, .tmp 5), (1, 1, .tmp 7)], none⟩, ⟨some 9, .call 61 [.tmp 8], none⟩, ⟨some 10, .mv (.tmp 9), none⟩, ⟨some 11, .fa 3 (.tmp 1), some (10, true)⟩, ⟨some 12, .ld 2 1 false (.tmp 11), some (10, true)⟩, ⟨some 13, .call 49 [.tmp 12, .const (.int .i64 (-1073741824)), .const (.int .i64 1073741824)], some (10, true)⟩, ⟨some 14, .pick 10 (.tmp 13) (.const (.bool false)), none⟩, ⟨some 15, .mv (.tmp 14), none⟩, ⟨some 16, .fa 2 (.tmp 1), some (15, true)⟩, ⟨some 17, .ld 3 1 false (.tmp 16), some (15, true)⟩, ⟨some 18, .bin 3 .geq (.tmp 17) (.const (.int .i64 0)), some (15, true)⟩, ⟨some 19, .pick 15 (.tmp 18) (.const (.bool false)), none⟩, ⟨some 20, .mv (.tmp 19), none⟩, ⟨some 21, .fa 2 (.tmp 1), some (20, true)⟩, ⟨some 22, .ld 3 1 false (.tmp 21), some (20, true)⟩, ⟨some 23, .bin 3 .lss (.tmp 22) (.const (.int .i64 4)), some (20, true)⟩, ⟨some 24, .pick 20 (.tmp 23) (.const (.bool false)), none⟩, ⟨some 3, .mv (.tmp 24), none⟩]
def Xn32_6 : C := regL [45] none [⟨some 25, .mv (.tmp 3), none⟩, ⟨some 26, .un .not (.tmp 25), none⟩, ⟨some 27, .mv (.tmp 26), none⟩, ⟨some 28, .fa 4 (.tmp 1), some (27, false)⟩, ⟨some 29, .ld 2 1 false (.tmp 28), some (27, false)⟩, ⟨some 30, .fa 5 (.tmp 1), some (27, false)⟩, ⟨some 31, .ld 2 1 false (.tmp 30), some (27, false)⟩, ⟨some 32, .call 49 [.tmp 29, .const (.int .i64 0), .tmp 31], some (27, false)⟩, ⟨some 33, .un .not (.tmp 32), some (27, false)⟩, ⟨some 34, .pick 27 (.const (.bool true)) (.tmp 33), none⟩, ⟨some 35, .mv (.tmp 34), none⟩, ⟨some 36, .fa 5 (.tmp 1), some (35, false)⟩, ⟨some 37, .ld 2 1 false (.tmp 36), some (35, false)⟩, ⟨some 38, .bin 2 .gtr (.tmp 37) (.const (.int .i64 1099511627776)), some (35, false)⟩, ⟨some 39, .pick 35 (.const (.bool true)) (.tmp 38), none⟩, ⟨some 40, .mv (.tmp 39), none⟩, ⟨some 41, .fa 6 (.tmp 1), some (40, false)⟩, ⟨some 42, .ld 2 1 false (.tmp 41), some (40, false)⟩, ⟨some 43, .call 49 [.tmp 42, .const (.int .i64 0), .const (.int .i64 67108864)], some (40, false)⟩, ⟨some 44, .un .not (.tmp 43), some (40, false)⟩, ⟨some 45, .pick 40 (.const (.bool true)) (.tmp 44), none⟩]
def Xn32_9 : C := regL [2] none [⟨some 2, .mv (.const (.int .i64 2)), none⟩]
def Xn32_8 : C := .seq Xn32_9 .ret
def Xn32_7 : C := .cond (.tmp 45) Xn32_8 .skip
def Xn32_5 : C := .seq Xn32_6 Xn32_7
def Xn32_13 : C := regL [2] none [⟨some 2, .mv (.const (.int .i64 0)), none⟩]
def Xn32_12 : C := .seq Xn32_13 .ret
def Xn32_4 : C := seqL [] Xn32_5 Xn32_12
def Xn32_2 : C := .seq Xn32_3 Xn32_4
def Xn32_0 : C := .seq Xn32_1 Xn32_2
theorem Xt32 : Text Try.prog 32 Xn32_0 46 1 [.t 2] := ⟨⟨Try.f32, [1], Try.func32, by kernel_rfl, by kernel_rfl, by kernel_rfl, by kernel_rfl⟩⟩
def Xn33_1 : C := regL [1] none [⟨some 1, .box true 27 (.tmp 0), none⟩, ⟨some 2, .mv (.const (.int .i64 0)), none⟩]
def Xn33_4 : C := regL [60] none [⟨some 3, .fa 0 (.tmp 1), none⟩, ⟨some 4, .ld 2 1 false (.tmp 3), none⟩, ⟨some 5, .fa 1 (.tmp 1), none⟩, ⟨some 6, .ld 2 1 false (.tmp 5), none⟩, ⟨some 7, .bin 2 .gtr (.tmp 4) (.tmp 6), none⟩, ⟨some 8, .mv (.tmp 7), none⟩, ⟨some 9, .fa 0 (.tmp 1), some (8, false)⟩, ⟨some 10, .ld 2 1 false (.tmp 9), some (8, false)⟩, ⟨some 11, .call 50 [.tmp 10, .const (.int .i64 (-1073741824)), .const (.int .i64 1073741824)], some (8, false)⟩, ⟨some 12, .un .not (.tmp 11), some (8, false)⟩, ⟨some 13, .pick 8 (.const (.bool true)) (.tmp 12), none⟩, ⟨some 14, .mv (.tmp 13), none⟩, ⟨some 15, .fa 1 (.tmp 1), some (14, false)⟩, ⟨some 16, .ld 2 1 false (.tmp 15), some (14, false)⟩, ⟨some 17, .call 50 [.tmp 16, .const (.int .i64 (-1073741824)), .const (.int .i64 1073741824)], some (14, false)⟩, ⟨some 18, .un .not (.tmp 17), some (14, false)⟩, ⟨some 19, .pick 14 (.const (.bool true)) (.tmp 18), none⟩, ⟨some 20, .mv (.tmp 19), none⟩, ⟨some 21, .fa 3 (.tmp 1), some (20, false)⟩, ⟨some 22, .ld 2 1 false (.tmp 21), some (20, false)⟩, ⟨some 23, .call 50 [.tmp 22, .const (.int .i64 (-1073741824)), .const (.int .i64 1073741824)], some (20, false)⟩, ⟨some 24, .un .not (.tmp 23), some (20, false)⟩, ⟨some 25, .pick 20 (.const (.bool true)) (.tmp 24), none⟩, ⟨some 26, .mv (.tmp 25), none⟩, ⟨some 27, .fa 2 (.tmp 1), some (26, false)⟩, ⟨some 28, .ld 3 1 false (.tmp 27), some (26, false)⟩, ⟨some 29, .bin 3 .lss (.tmp 28) (.const (.int .i64 0)), some (26, false)⟩, ⟨some 30, .pick 26 (.const (.bool true)) (.tmp 29), none⟩, ⟨some 31, .mv (.tmp 30), none⟩, ⟨some 32, .fa 2 (.tmp 1), some (31, false)⟩, ⟨some 33, .ld 3 1 false (.tmp 32), some (31, false)⟩, ⟨some 34, .bin 3 .gtr (.tmp 33) (.const (.int .i64 3)), some (31, false)⟩, ⟨some 35, .pick 31 (.const (.bool true)) (.tmp 34), none⟩, ⟨some 36, .mv (.tmp 35), none⟩, ⟨some 37, .fa 4 (.tmp 1), some (36, false)⟩, ⟨some 38, .ld 2 1 false (.tmp 37), some (36, false)⟩, ⟨some 39, .fa 5 (.tmp 1), some (36, false)⟩, ⟨some 40, .ld 2 1 false (.tmp 39), some (36, false)⟩, ⟨some 41, .bin 2 .gtr (.tmp 38) (.tmp 40), some (36, false)⟩, ⟨some 42, .pick 36 (.const (.bool true)) (.tmp 41), none⟩, ⟨some 43, .mv (.tmp 42), none⟩, ⟨some 44, .fa 4 (.tmp 1), some (43, false)⟩, ⟨some 45, .ld 2 1 false (.tmp 44), some (43, false)⟩, ⟨some 46, .call 50 [.tmp 45, .const (.int .i64 0), .const (.int .i64 1099511627776)], some (43, false)⟩, ⟨some 47, .un .not (.tmp 46), some (43, false)⟩, ⟨some 48, .pick 43 (.const (.bool true)) (.tmp 47), none⟩, ⟨some 49, .mv (.tmp 48), none⟩, ⟨some 50, .fa 5 (.tmp 1), some (49, false)⟩, ⟨some 51, .ld 2 1 false (.tmp 50), some (49, false)⟩, ⟨some 52, .call 50 [.tmp 51, .const (.int .i64 0), .const (.int .i64 1099511627776)], some (49, false)⟩, ⟨some 53, .un .not (.tmp 52), some (49, false)⟩, ⟨some 54, .pick 49 (.const (.bool true)) (.tmp 53), none⟩, ⟨some 55, .mv (.tmp 54), none⟩, ⟨some 56, .fa 6 (.tmp 1), some (55, false)⟩, ⟨some 57, .ld 2 1 false (.tmp 56), some (55, false)⟩, ⟨some 58, .call 50 [.tmp 57, .const (.int .i64 0), .const (.int .i64 67108864)], some (55, false)⟩, ⟨some 59, .un .not (.tmp 58), some (55, false)⟩, ⟨some 60, .pick 55 (.const (.bool true)) (.tmp 59), none⟩]
def Xn33_7 : C := regL [2] none [⟨some 2, .mv (.const (.int .i64 2)), none⟩]
def Xn33_6 : C := .seq Xn33_7 .ret
def Xn33_5 : C := .cond (.tmp 60) Xn33_6 .skip
def Xn33_3 : C := .seq Xn33_4 Xn33_5
def Xn33_11 : C := regL [2] none [⟨some 2, .mv (.const (.int .i64 0)), none⟩]
def Xn33_10 : C := .seq Xn33_11 .ret
def Xn33_2 : C := seqL [] Xn33_3 Xn33_10
def Xn33_0 : C := .seq Xn33_1 Xn33_2
theorem Xt33 : Text Try.prog 33 Xn33_0 61 1 [.t 2] := ⟨⟨Try.f33, [1], Try.func33, by kernel_rfl, by kernel_rfl, by kernel_rfl, by kernel_rfl⟩⟩
def Xn34_1 : C := regL [1, 2, 4, 5] none [⟨some 2, .box true 25 (.tmp 0), none⟩, ⟨some 4, .alc 40 (.agg #[.int .i64 0, .int .i64 0]), none⟩, ⟨some 5, .alc 41 (.agg #[.int .i64 0, .int .i64 0, .int .i64 0, .int .i64 0, .int .i64 0, .int .i64 0, .int .i64 0, .int .i64 0]), none⟩, ⟨some 6, .mv (.const (.int .i64 0)), none⟩]
def Xn34_3 : C := regL [1, 2, 4, 5, 7] none [⟨some 10, .ld 25 5 true (.tmp 2), none⟩, ⟨some 11, .call 21 [.tmp 10], none⟩, ⟨some 7, .mv (.tmp 11), none⟩]
def Xn34_6 : C := regL [1, 2, 4, 5, 7, 13] none [⟨some 12, .mv (.tmp 7), none⟩, ⟨some 13, .bin 36 .neq (.tmp 12) (.const (.int .i64 0)), none⟩]
def Xn34_9 : C := regL [4, 5, 6] none [⟨some 14, .bld (.agg #[.int .i64 0, .int .i64 0]) [], none⟩, ⟨some 15, .bld (.agg #[.int .i64 0, .int .i64 0, .int .i64 0, .int .i64 0, .int .i64 0, .int .i64 0, .int .i64 0, .int .i64 0]) [], none⟩, ⟨some 16, .mv (.tmp 7), none⟩, ⟨none, .st 40 2 (.tmp 4) (.tmp 14), none⟩, ⟨none, .st 41 8 (.tmp 5) (.tmp 15), none⟩, ⟨some 6, .mv (.tmp 16), none⟩]
def Xn34_8 : C := .seq Xn34_9 .ret
def Xn34_7 : C := .cond (.tmp 13) Xn34_8 .skip
def Xn34_5 : C := .seq Xn34_6 Xn34_7
def Xn34_14 : C := regL [1, 2, 4, 5, 24] none [⟨some 17, .mv (.tmp 1), none⟩, ⟨some 18, .bin 3 .lss (.tmp 17) (.const (.int .i64 0)), none⟩, ⟨some 19, .mv (.tmp 18), none⟩, ⟨some 20, .mv (.tmp 1), some (19, false)⟩, ⟨some 21, .ld 25 5 true (.tmp 2), some (19, false)⟩, ⟨some 22, .call 53 [.tmp 21], some (19, false)⟩, ⟨some 23, .bin 3 .gtr (.tmp 20) (.tmp 22), some (19, false)⟩, ⟨some 24, .pick 19 (.const (.bool true)) (.tmp 23), none⟩]
def Xn34_17 : C := regL [4, 5, 6] none [⟨some 25, .bld (.agg #[.int .i64 0, .int .i64 0]) [], none⟩, ⟨some 26, .bld (.agg #[.int .i64 0, .int .i64 0, .int .i64 0, .int .i64 0, .int .i64 0, .int .i64 0, .int .i64 0, .int .i64 0]) [], none⟩, ⟨none, .st 40 2 (.tmp 4) (.tmp 25), none⟩, ⟨none, .st 41 8 (.tmp 5) (.tmp 26), none⟩, ⟨some 6, .mv (.const (.int .i64 3)), none⟩]
def Xn34_16 : C := .seq Xn34_17 .ret
def Xn34_15 : C := .cond (.tmp 24) Xn34_16 .skip
def Xn34_13 : C := .seq Xn34_14 Xn34_15
def Xn34_21 : C := regL [1, 2, 4, 5, 8] none [⟨some 8, .alc 41 (.agg #[.int .i64 0, .int .i64 0, .int .i64 0, .int .i64 0, .int .i64 0, .int .i64 0, .int .i64 0, .int .i64 0]), none⟩]
def Xn34_24 : C := regL [1, 2, 4, 5, 8, 9] none [⟨some 9, .mv (.const (.int .i64 0)), none⟩]
def Xn34_29 : C := regL [1, 2, 4, 5, 8, 9, 28] none [⟨some 27, .mv (.tmp 9), none⟩, ⟨some 28, .bin 3 .lss (.tmp 27) (.const (.int .i64 4)), none⟩]
def Xn34_30 : C := .cond (.tmp 28) .skip (.exit 0)
def Xn34_28 : C := .seq Xn34_29 Xn34_30
def Xn34_35 : C := regL [1, 2, 4, 5, 8, 9] none [⟨some 31, .mv (.tmp 9), none⟩, ⟨some 32, .ld 25 5 true (.tmp 2), none⟩, ⟨some 33, .mv (.tmp 1), none⟩, ⟨some 34, .mv (.tmp 9), none⟩, ⟨some 35, .call 17 [.tmp 32, .tmp 33, .tmp 34], none⟩, ⟨some 36, .iaa 4 2 (.tmp 8) (.tmp 31), none⟩, ⟨none, .st 40 2 (.tmp 36) (.tmp 35), none⟩]
def Xn34_34 : C := .block 1 Xn34_35
def Xn34_36 : C := regL [1, 2, 4, 5, 8, 9] none [⟨some 29, .mv (.tmp 9), none⟩, ⟨some 30, .bin 3 .add (.tmp 29) (.const (.int .i64 1)), none⟩, ⟨some 9, .mv (.tmp 30), none⟩]
def Xn34_33 : C := seqL [1, 2, 4, 5, 8, 9] Xn34_34 Xn34_36
def Xn34_27 : C := seqL [1, 2, 4, 5, 8, 9] Xn34_28 Xn34_33
/- carried: [9] -/
def Xn34_26 : C := loopL [1, 2, 4, 5, 8, 9] Xn34_27
def Xn34_25 : C := .block 0 Xn34_26
def Xn34_23 : C := .seq Xn34_24 Xn34_25
def Xn34_38 : C := regL [4, 5, 6] (some [0, 0, 3, 0, 7, 31, 63]) [⟨some 37, .ld 25 5 true (.tmp 2), none⟩, ⟨some 38, .mv (.tmp 1), none⟩, ⟨some 39, .call 16 [.tmp 37, .tmp 38], none⟩, ⟨some 40, .ld 41 8 true (.tmp 8), none⟩, ⟨none, .st 40 2 (.tmp 4) (.tmp 39), none⟩, ⟨none, .st 41 8 (.tmp 5) (.tmp 40), none⟩, ⟨some 6, .mv (.const (.int .i64 0)), none⟩]
def Xn34_37 : C := .seq Xn34_38 .ret
def Xn34_22 : C := seqL [1, 2, 4, 5, 8] Xn34_23 Xn34_37
def Xn34_20 : C := .seq Xn34_21 Xn34_22
def Xn34_12 : C := seqL [1, 2, 4, 5] Xn34_13 Xn34_20
def Xn34_4 : C := seqL [1, 2, 4, 5] Xn34_5 Xn34_12
def Xn34_2 : C := .seq Xn34_3 Xn34_4
def Xn34_0 : C := .seq Xn34_1 Xn34_2
theorem Xt34 : Text Try.prog 34 Xn34_0 41 2 [.c 4 2 true, .c 5 8 true, .t 6] := ⟨⟨Try.f34, [2], Try.func34, by kernel_rfl, by kernel_rfl, by kernel_rfl, by kernel_rfl⟩⟩
def Xn35_1 : C := regL [2, 3] none [⟨some 2, .box true 25 (.tmp 0), none⟩, ⟨some 3, .box true 34 (.tmp 1), none⟩, ⟨some 4, .mv (.const (.bool false)), none⟩, ⟨some 5, .mv (.const (.int .i64 0)), none⟩]
def Xn35_3 : C := regL [2, 3, 6] none [⟨some 14, .ld 25 5 true (.tmp 2), none⟩, ⟨some 15, .call 21 [.tmp 14], none⟩, ⟨some 6, .mv (.tmp 15), none⟩]
def Xn35_6 : C := regL [2, 3, 6, 17] none [⟨some 16, .mv (.tmp 6), none⟩, ⟨some 17, .bin 36 .neq (.tmp 16) (.const (.int .i64 0)), none⟩]
def Xn35_9 : C := regL [4, 5] none [⟨some 18, .mv (.tmp 6), none⟩, ⟨some 4, .mv (.const (.bool false)), none⟩, ⟨some 5, .mv (.tmp 18), none⟩]
def Xn35_8 : C := .seq Xn35_9 .ret
def Xn35_7 : C := .cond (.tmp 17) Xn35_8 .skip
def Xn35_5 : C := .seq Xn35_6 Xn35_7
def Xn35_14 : C := regL [2, 3, 22] none [⟨some 19, .ld 25 5 true (.tmp 2), none⟩, ⟨some 20, .ld 34 2 true (.tmp 3), none⟩, ⟨some 21, .call 62 [.tmp 19, .tmp 20], none⟩, ⟨some 22, .un .not (.tmp 21), none⟩]
def Xn35_17 : C := regL [4, 5] none [⟨some 4, .mv (.const (.bool false)), none⟩, ⟨some 5, .mv (.const (.int .i64 0)), none⟩]
def Xn35_16 : C := .seq Xn35_17 .ret
def Xn35_15 : C := .cond (.tmp 22) Xn35_16 .skip
def Xn35_13 : C := .seq Xn35_14 Xn35_15
def Xn35_22 : C := regL [2, 3, 7] none [⟨some 7, .mv (.const (.int .i64 1)), none⟩]
def Xn35_27 : C := regL [2, 3, 7, 26] none [⟨some 23, .mv (.tmp 7), none⟩, ⟨some 24, .ld 25 5 true (.tmp 2), none⟩, ⟨some 25, .call 53 [.tmp 24], none⟩, ⟨some 26, .bin 3 .leq (.tmp 23) (.tmp 25), none⟩]
def Xn35_28 : C := .cond (.tmp 26) .skip (.exit 0)
def Xn35_26 : C := .seq Xn35_27 Xn35_28
def Xn35_35 : C := regL [2, 3, 7, 40] (some [0, 1, 0, 7, 15, 0, 32, 0, 128, 480, 992, 2047]) [⟨some 29, .fa 0 (.tmp 3), none⟩, ⟨some 30, .ld 31 1 false (.tmp 29), none⟩, ⟨some 31, .mv (.tmp 7), none⟩, ⟨some 32, .ia 1 (.tmp 30) (.tmp 31), none⟩, ⟨some 33, .ld 2 1 false (.tmp 32), none⟩, ⟨some 34, .fa 0 (.tmp 3), none⟩, ⟨some 35, .ld 31 1 false (.tmp 34), none⟩, ⟨some 36, .mv (.tmp 7), none⟩, ⟨some 37, .bin 3 .sub (.tmp 36) (.const (.int .i64 1)), none⟩, ⟨some 38, .ia 1 (.tmp 35) (.tmp 37), none⟩, ⟨some 39, .ld 2 1 false (.tmp 38), none⟩, ⟨some 40, .bin 2 .lss (.tmp 33) (.tmp 39), none⟩]
def Xn35_38 : C := regL [4, 5] none [⟨some 4, .mv (.const (.bool false)), none⟩, ⟨some 5, .mv (.const (.int .i64 0)), none⟩]
def Xn35_37 : C := .seq Xn35_38 .ret
def Xn35_36 : C := .cond (.tmp 40) Xn35_37 .skip
def Xn35_34 : C := .seq Xn35_35 Xn35_36
def Xn35_42 : C := regL [2, 3, 7, 8] none [⟨some 8, .mv (.const (.int .i64 0)), none⟩]
def Xn35_47 : C := regL [2, 3, 7, 8, 42] none [⟨some 41, .mv (.tmp 8), none⟩, ⟨some 42, .bin 3 .lss (.tmp 41) (.const (.int .i64 4)), none⟩]
def Xn35_48 : C := .cond (.tmp 42) .skip (.exit 2)
def Xn35_46 : C := .seq Xn35_47 Xn35_48
def Xn35_54 : C := regL [2, 3, 7, 8, 9] none [⟨some 45, .fa 1 (.tmp 3), none⟩, ⟨some 46, .ld 32 1 false (.tmp 45), none⟩, ⟨some 47, .mv (.tmp 7), none⟩, ⟨some 48, .bin 3 .sub (.tmp 47) (.const (.int .i64 1)), none⟩, ⟨some 49, .mv (.tmp 8), none⟩, ⟨some 50, .ia 4 (.tmp 46) (.tmp 48), none⟩, ⟨some 51, .iaa 4 1 (.tmp 50) (.tmp 49), none⟩, ⟨some 52, .ld 2 1 false (.tmp 51), none⟩, ⟨some 9, .mv (.tmp 52), none⟩]
def Xn35_56 : C := regL [2, 3, 7, 8, 87] (some [0, 1, 3, 7, 15, 31, 15, 15, 127, 511, 1023, 15, 15, 15, 12303, 28687, 63503, 131071, 262143, 524287, 1048575, 2097151, 1048575, 1048575, 8388607, 33554431, 67108863, 1048575, 1048575, 1048575, 806354943, 1880096767, 4161798143, 8589934591, 17179869183]) [⟨some 53, .mv (.tmp 9), none⟩, ⟨some 54, .call 50 [.tmp 53, .const (.int .i64 (-1152921504606846976)), .const (.int .i64 1152921504606846976)], none⟩, ⟨some 55, .un .not (.tmp 54), none⟩, ⟨some 56, .mv (.tmp 55), none⟩, ⟨some 57, .fa 1 (.tmp 3), some (56, false)⟩, ⟨some 58, .ld 32 1 false (.tmp 57), some (56, false)⟩, ⟨some 59, .mv (.tmp 7), some (56, false)⟩, ⟨some 60, .mv (.tmp 8), some (56, false)⟩, ⟨some 61, .ia 4 (.tmp 58) (.tmp 59), some (56, false)⟩, ⟨some 62, .iaa 4 1 (.tmp 61) (.tmp 60), some (56, false)⟩, ⟨some 63, .ld 2 1 false (.tmp 62), some (56, false)⟩, ⟨some 64, .mv (.tmp 9), some (56, false)⟩, ⟨some 65, .mv (.tmp 8), some (56, false)⟩, ⟨some 66, .fa 1 (.tmp 2), some (56, false)⟩, ⟨some 67, .iaa 4 1 (.tmp 66) (.tmp 65), some (56, false)⟩, ⟨some 68, .ld 2 1 false (.tmp 67), some (56, false)⟩, ⟨some 69, .bin 2 .sub (.tmp 64) (.tmp 68), some (56, false)⟩, ⟨some 70, .bin 2 .lss (.tmp 63) (.tmp 69), some (56, false)⟩, ⟨some 71, .pick 56 (.const (.bool true)) (.tmp 70), none⟩, ⟨some 72, .mv (.tmp 71), none⟩, ⟨some 73, .fa 1 (.tmp 3), some (72, false)⟩, ⟨some 74, .ld 32 1 false (.tmp 73), some (72, false)⟩, ⟨some 75, .mv (.tmp 7), some (72, false)⟩, ⟨some 76, .mv (.tmp 8), some (72, false)⟩, ⟨some 77, .ia 4 (.tmp 74) (.tmp 75), some (72, false)⟩, ⟨some 78, .iaa 4 1 (.tmp 77) (.tmp 76), some (72, false)⟩, ⟨some 79, .ld 2 1 false (.tmp 78), some (72, false)⟩, ⟨some 80, .mv (.tmp 9), some (72, false)⟩, ⟨some 81, .mv (.tmp 8), some (72, false)⟩, ⟨some 82, .fa 1 (.tmp 2), some (72, false)⟩, ⟨some 83, .iaa 4 1 (.tmp 82) (.tmp 81), some (72, false)⟩, ⟨some 84, .ld 2 1 false (.tmp 83), some (72, false)⟩, ⟨some 85, .bin 2 .add (.tmp 80) (.tmp 84), some (72, false)⟩, ⟨some 86, .bin 2 .gtr (.tmp 79) (.tmp 85), some (72, false)⟩, ⟨some 87, .pick 72 (.const (.bool true)) (.tmp 86), none⟩]
def Xn35_59 : C := regL [4, 5] none [⟨some 4, .mv (.const (.bool false)), none⟩, ⟨some 5, .mv (.const (.int .i64 0)), none⟩]
def Xn35_58 : C := .seq Xn35_59 .ret
def Xn35_57 : C := .cond (.tmp 87) Xn35_58 .skip
def Xn35_55 : C := .seq Xn35_56 Xn35_57
def Xn35_53 : C := .seq Xn35_54 Xn35_55
def Xn35_52 : C := .block 3 Xn35_53
def Xn35_62 : C := regL [2, 3, 7, 8] none [⟨some 43, .mv (.tmp 8), none⟩, ⟨some 44, .bin 3 .add (.tmp 43) (.const (.int .i64 1)), none⟩, ⟨some 8, .mv (.tmp 44), none⟩]
def Xn35_51 : C := seqL [2, 3, 7, 8] Xn35_52 Xn35_62
def Xn35_45 : C := seqL [2, 3, 7, 8] Xn35_46 Xn35_51
/- carried: [8] -/
def Xn35_44 : C := loopL [2, 3, 7, 8] Xn35_45
def Xn35_43 : C := .block 2 Xn35_44
def Xn35_41 : C := .seq Xn35_42 Xn35_43
def Xn35_33 : C := seqL [2, 3, 7] Xn35_34 Xn35_41
def Xn35_32 : C := .block 1 Xn35_33
def Xn35_63 : C := regL [2, 3, 7] none [⟨some 27, .mv (.tmp 7), none⟩, ⟨some 28, .bin 3 .add (.tmp 27) (.const (.int .i64 1)), none⟩, ⟨some 7, .mv (.tmp 28), none⟩]
def Xn35_31 : C := seqL [2, 3, 7] Xn35_32 Xn35_63
def Xn35_25 : C := seqL [2, 3, 7] Xn35_26 Xn35_31
/- carried: [7] -/
def Xn35_24 : C := loopL [2, 3, 7] Xn35_25
def Xn35_23 : C := .block 0 Xn35_24
def Xn35_21 : C := .seq Xn35_22 Xn35_23
def Xn35_66 : C := regL [2, 3, 10] none [⟨some 10, .mv (.const (.int .i64 0)), none⟩]
def Xn35_71 : C := regL [2, 3, 10, 92] none [⟨some 88, .mv (.tmp 10), none⟩, ⟨some 89, .fa 0 (.tmp 2), none⟩, ⟨some 90, .ld 22 1 false (.tmp 89), none⟩, ⟨some 91, .len (.tmp 90), none⟩, ⟨some 92, .bin 3 .lss (.tmp 88) (.tmp 91), none⟩]
def Xn35_72 : C := .cond (.tmp 92) .skip (.exit 4)
def Xn35_70 : C := .seq Xn35_71 Xn35_72
def Xn35_78 : C := regL [2, 3, 10, 11] none [⟨some 95, .fa 0 (.tmp 2), none⟩, ⟨some 96, .ld 22 1 false (.tmp 95), none⟩, ⟨some 97, .mv (.tmp 10), none⟩, ⟨some 98, .ia 11 (.tmp 96) (.tmp 97), none⟩, ⟨some 99, .ld 43 11 true (.tmp 98), none⟩, ⟨some 11, .alc 43 (.agg #[.int .i64 0, .int .i64 0, .int .i64 0, .int .i64 0, .int .i64 0, .int .i64 0, .int .i64 0, .int .i64 0, .int .i64 0, .int .i64 0, .int .i64 0]), none⟩, ⟨none, .st 43 11 (.tmp 11) (.tmp 99), none⟩]
def Xn35_80 : C := regL [2, 3, 10, 11, 12] (some [0, 1, 0, 4, 12, 28, 60, 127, 255]) [⟨some 100, .fa 0 (.tmp 11), none⟩, ⟨some 101, .ld 2 1 false (.tmp 100), none⟩, ⟨some 102, .fa 0 (.tmp 2), none⟩, ⟨some 103, .ld 22 1 false (.tmp 102), none⟩, ⟨some 104, .ia 11 (.tmp 103) (.const (.int .i64 0)), none⟩, ⟨some 105, .fa 0 (.tmp 104), none⟩, ⟨some 106, .ld 2 1 false (.tmp 105), none⟩, ⟨some 107, .bin 2 .sub (.tmp 101) (.tmp 106), none⟩, ⟨some 12, .mv (.tmp 107), none⟩]
def Xn35_83 : C := regL [2, 3, 10, 11, 12, 120] (some [0, 1, 0, 7, 15, 0, 32, 96, 0, 256, 768, 2047, 4095]) [⟨some 108, .fa 0 (.tmp 3), none⟩, ⟨some 109, .ld 31 1 false (.tmp 108), none⟩, ⟨some 110, .mv (.tmp 12), none⟩, ⟨some 111, .ia 1 (.tmp 109) (.tmp 110), none⟩, ⟨some 112, .ld 2 1 false (.tmp 111), none⟩, ⟨some 113, .fa 1 (.tmp 11), none⟩, ⟨some 114, .fa 0 (.tmp 113), none⟩, ⟨some 115, .ld 2 1 false (.tmp 114), none⟩, ⟨some 116, .fa 1 (.tmp 11), none⟩, ⟨some 117, .fa 1 (.tmp 116), none⟩, ⟨some 118, .ld 2 1 false (.tmp 117), none⟩, ⟨some 119, .call 50 [.tmp 112, .tmp 115, .tmp 118], none⟩, ⟨some 120, .un .not (.tmp 119), none⟩]
def Xn35_86 : C := regL [4, 5] none [⟨some 4, .mv (.const (.bool false)), none⟩, ⟨some 5, .mv (.const (.int .i64 0)), none⟩]
def Xn35_85 : C := .seq Xn35_86 .ret
def Xn35_84 : C := .cond (.tmp 120) Xn35_85 .skip
def Xn35_82 : C := .seq Xn35_83 Xn35_84
def Xn35_90 : C := regL [2, 3, 10, 11, 12, 13] none [⟨some 13, .mv (.const (.int .i64 0)), none⟩]
def Xn35_95 : C := regL [2, 3, 10, 11, 12, 13, 122] none [⟨some 121, .mv (.tmp 13), none⟩, ⟨some 122, .bin 3 .lss (.tmp 121) (.const (.int .i64 4)), none⟩]
def Xn35_96 : C := .cond (.tmp 122) .skip (.exit 6)
def Xn35_94 : C := .seq Xn35_95 Xn35_96
def Xn35_102 : C := regL [2, 3, 10, 11, 12, 13, 143] (some [0, 1, 0, 0, 7, 31, 63, 0, 0, 384, 896, 1920, 0, 0, 12288, 28672, 61440, 131071, 262143]) [⟨some 125, .fa 1 (.tmp 3), none⟩, ⟨some 126, .ld 32 1 false (.tmp 125), none⟩, ⟨some 127, .mv (.tmp 12), none⟩, ⟨some 128, .mv (.tmp 13), none⟩, ⟨some 129, .ia 4 (.tmp 126) (.tmp 127), none⟩, ⟨some 130, .iaa 4 1 (.tmp 129) (.tmp 128), none⟩, ⟨some 131, .ld 2 1 false (.tmp 130), none⟩, ⟨some 132, .mv (.tmp 13), none⟩, ⟨some 133, .fa 3 (.tmp 11), none⟩, ⟨some 134, .iaa 4 2 (.tmp 133) (.tmp 132), none⟩, ⟨some 135, .fa 0 (.tmp 134), none⟩, ⟨some 136, .ld 2 1 false (.tmp 135), none⟩, ⟨some 137, .mv (.tmp 13), none⟩, ⟨some 138, .fa 3 (.tmp 11), none⟩, ⟨some 139, .iaa 4 2 (.tmp 138) (.tmp 137), none⟩, ⟨some 140, .fa 1 (.tmp 139), none⟩, ⟨some 141, .ld 2 1 false (.tmp 140), none⟩, ⟨some 142, .call 50 [.tmp 131, .tmp 136, .tmp 141], none⟩, ⟨some 143, .un .not (.tmp 142), none⟩]
def Xn35_105 : C := regL [4, 5] none [⟨some 4, .mv (.const (.bool false)), none⟩, ⟨some 5, .mv (.const (.int .i64 0)), none⟩]
def Xn35_104 : C := .seq Xn35_105 .ret
def Xn35_103 : C := .cond (.tmp 143) Xn35_104 .skip
def Xn35_101 : C := .seq Xn35_102 Xn35_103
def Xn35_100 : C := .block 7 Xn35_101
def Xn35_108 : C := regL [2, 3, 10, 11, 12, 13] none [⟨some 123, .mv (.tmp 13), none⟩, ⟨some 124, .bin 3 .add (.tmp 123) (.const (.int .i64 1)), none⟩, ⟨some 13, .mv (.tmp 124), none⟩]
def Xn35_99 : C := seqL [2, 3, 10, 11, 12, 13] Xn35_100 Xn35_108
def Xn35_93 : C := seqL [2, 3, 10, 11, 12, 13] Xn35_94 Xn35_99
/- carried: [13] -/
def Xn35_92 : C := loopL [2, 3, 10, 11, 12, 13] Xn35_93
def Xn35_91 : C := .block 6 Xn35_92
def Xn35_89 : C := .seq Xn35_90 Xn35_91
def Xn35_81 : C := seqL [2, 3, 10, 11, 12] Xn35_82 Xn35_89
def Xn35_79 : C := .seq Xn35_80 Xn35_81
def Xn35_77 : C := .seq Xn35_78 Xn35_79
def Xn35_76 : C := .block 5 Xn35_77
def Xn35_109 : C := regL [2, 3, 10] none [⟨some 93, .mv (.tmp 10), none⟩, ⟨some 94, .bin 3 .add (.tmp 93) (.const (.int .i64 1)), none⟩, ⟨some 10, .mv (.tmp 94), none⟩]
def Xn35_75 : C := seqL [2, 3, 10] Xn35_76 Xn35_109
def Xn35_69 : C := seqL [2, 3, 10] Xn35_70 Xn35_75
/- carried: [10] -/
def Xn35_68 : C := loopL [2, 3, 10] Xn35_69
def Xn35_67 : C := .block 4 Xn35_68
def Xn35_65 : C := .seq Xn35_66 Xn35_67
def Xn35_111 : C := regL [4, 5] none [⟨some 4, .mv (.const (.bool true)), none⟩, ⟨some 5, .mv (.const (.int .i64 0)), none⟩]
def Xn35_110 : C := .seq Xn35_111 .ret
def Xn35_64 : C := seqL [] Xn35_65 Xn35_110
def Xn35_20 : C := seqL [2, 3] Xn35_21 Xn35_64
def Xn35_12 : C := seqL [2, 3] Xn35_13 Xn35_20
def Xn35_4 : C := seqL [2, 3] Xn35_5 Xn35_12
def Xn35_2 : C := .seq Xn35_3 Xn35_4
def Xn35_0 : C := .seq Xn35_1 Xn35_2
theorem Xt35 : Text Try.prog 35 Xn35_0 144 2 [.t 4, .t 5] := ⟨⟨Try.f35, [2, 3], Try.func35, by kernel_rfl, by kernel_rfl, by kernel_rfl, by kernel_rfl⟩⟩
def Xn36_1 : C := regL [3, 4, 5] none [⟨some 3, .box true 25 (.tmp 0), none⟩, ⟨some 4, .box true 27 (.tmp 1), none⟩, ⟨some 5, .box true 34 (.tmp 2), none⟩, ⟨some 6, .mv (.const (.bool false)), none⟩, ⟨some 7, .mv (.const (.int .i64 0)), none⟩]
def Xn36_3 : C := regL [4, 5, 8, 9] none [⟨some 11, .ld 25 5 true (.tmp 3), none⟩, ⟨some 12, .ld 27 7 true (.tmp 4), none⟩, ⟨some 13, .call 43 [.tmp 11, .tmp 12], none⟩, ⟨some 10, .mv (.tmp 13), none⟩, ⟨some 14, .ext 0 (.tmp 10), none⟩, ⟨some 15, .ext 1 (.tmp 10), none⟩, ⟨some 8, .mv (.tmp 14), none⟩, ⟨some 9, .mv (.tmp 15), none⟩]
def Xn36_6 : C := regL [4, 5, 8, 9, 17] none [⟨some 16, .mv (.tmp 9), none⟩, ⟨some 17, .bin 36 .neq (.tmp 16) (.const (.int .i64 0)), none⟩]
def Xn36_9 : C := regL [6, 7] none [⟨some 18, .mv (.tmp 9), none⟩, ⟨some 6, .mv (.const (.bool false)), none⟩, ⟨some 7, .mv (.tmp 18), none⟩]
def Xn36_8 : C := .seq Xn36_9 .ret
def Xn36_7 : C := .cond (.tmp 17) Xn36_8 .skip
def Xn36_5 : C := .seq Xn36_6 Xn36_7
def Xn36_14 : C := regL [4, 5, 8, 22] none [⟨some 19, .mv (.tmp 8), none⟩, ⟨some 20, .ld 34 2 true (.tmp 5), none⟩, ⟨some 21, .call 54 [.tmp 19, .tmp 20], none⟩, ⟨some 22, .un .not (.tmp 21), none⟩]
def Xn36_17 : C := regL [6, 7] none [⟨some 6, .mv (.const (.bool false)), none⟩, ⟨some 7, .mv (.const (.int .i64 17)), none⟩]
def Xn36_16 : C := .seq Xn36_17 .ret
def Xn36_15 : C := .cond (.tmp 22) Xn36_16 .skip
def Xn36_13 : C := .seq Xn36_14 Xn36_15
def Xn36_21 : C := regL [6, 7] none [⟨some 23, .mv (.tmp 8), none⟩, ⟨some 24, .ld 27 7 true (.tmp 4), none⟩, ⟨some 25, .ld 34 2 true (.tmp 5), none⟩, ⟨some 26, .call 63 [.tmp 23, .tmp 24, .tmp 25], none⟩, ⟨some 6, .mv (.tmp 26), none⟩, ⟨some 7, .mv (.const (.int .i64 0)), none⟩]
def Xn36_20 : C := .seq Xn36_21 .ret
def Xn36_12 : C := seqL [4, 5, 8] Xn36_13 Xn36_20
def Xn36_4 : C := seqL [4, 5, 8] Xn36_5 Xn36_12
def Xn36_2 : C := .seq Xn36_3 Xn36_4
def Xn36_0 : C := .seq Xn36_1 Xn36_2
theorem Xt36 : Text Try.prog 36 Xn36_0 27 3 [.t 6, .t 7] := ⟨⟨Try.f36, [3, 4, 5], Try.func36, by kernel_rfl, by kernel_rfl, by kernel_rfl, by kernel_rfl⟩⟩
def Xn37_1 : C := regL [3, 4, 5] none [⟨some 3, .box true 25 (.tmp 0), none⟩, ⟨some 4, .box true 27 (.tmp 1), none⟩, ⟨some 5, .box true 34 (.tmp 2), none⟩, ⟨some 6, .mv (.const (.bool false)), none⟩, ⟨some 7, .mv (.const (.int .i64 0)), none⟩]
def Xn37_3 : C := regL [3, 4, 5, 8] none [⟨some 9, .ld 25 5 true (.tmp 3), none⟩, ⟨some 10, .ld 27 7 true (.tmp 4), none⟩, ⟨some 11, .call 55 [.tmp 9, .tmp 10], none⟩, ⟨some 8, .mv (.tmp 11), none⟩]
def Xn37_6 : C := regL [3, 4, 5, 8, 13] none [⟨some 12, .mv (.tmp 8), none⟩, ⟨some 13, .bin 36 .neq (.tmp 12) (.const (.int .i64 0)), none⟩]
def Xn37_9 : C := regL [6, 7] none [⟨some 14, .mv (.tmp 8), none⟩, ⟨some 6, .mv (.const (.bool false)), none⟩, ⟨some 7, .mv (.tmp 14), none⟩]
def Xn37_8 : C := .seq Xn37_9 .ret
def Xn37_7 : C := .cond (.tmp 13) Xn37_8 .skip
def Xn37_5 : C := .seq Xn37_6 Xn37_7
def Xn37_14 : C := regL [3, 4, 5, 18] none [⟨some 15, .ld 25 5 true (.tmp 3), none⟩, ⟨some 16, .ld 34 2 true (.tmp 5), none⟩, ⟨some 17, .call 62 [.tmp 15, .tmp 16], none⟩, ⟨some 18, .un .not (.tmp 17), none⟩]
def Xn37_17 : C := regL [6, 7] none [⟨some 6, .mv (.const (.bool false)), none⟩, ⟨some 7, .mv (.const (.int .i64 17)), none⟩]
def Xn37_16 : C := .seq Xn37_17 .ret
def Xn37_15 : C := .cond (.tmp 18) Xn37_16 .skip
def Xn37_13 : C := .seq Xn37_14 Xn37_15
def Xn37_21 : C := regL [6, 7] none [⟨some 19, .ld 25 5 true (.tmp 3), none⟩, ⟨some 20, .ld 27 7 true (.tmp 4), none⟩, ⟨some 21, .ld 34 2 true (.tmp 5), none⟩, ⟨some 22, .call 64 [.tmp 19, .tmp 20, .tmp 21], none⟩, ⟨some 6, .mv (.tmp 22), none⟩, ⟨some 7, .mv (.const (.int .i64 0)), none⟩]
def Xn37_20 : C := .seq Xn37_21 .ret
def Xn37_12 : C := seqL [3, 4, 5] Xn37_13 Xn37_20
def Xn37_4 : C := seqL [3, 4, 5] Xn37_5 Xn37_12
def Xn37_2 : C := .seq Xn37_3 Xn37_4
def Xn37_0 : C := .seq Xn37_1 Xn37_2
theorem Xt37 : Text Try.prog 37 Xn37_0 23 3 [.t 6, .t 7] := ⟨⟨Try.f37, [3, 4, 5], Try.func37, by kernel_rfl, by kernel_rfl, by kernel_rfl, by kernel_rfl⟩⟩
end Go.Proofs.Ytgijpimjfoabjaa

/- Print of my own generator (wip/sy/gen2.lean). -/
namespace Go.Proofs.Ytgijpimjfoabjaa
open Go Sy
set_option maxRecDepth 100000
def Xn40_1 : C := regL [0] none [⟨some 0, .alc 25 (.agg #[.slice none 0 0, .int .i64 0, .int .i64 0, .int .i64 0, .int .i64 0]), none⟩]
def Xn40_3 : C := regL [0] none [⟨some 1, .bld (.agg #[.int .i64 0, .int .i64 0, .int .i64 0, .int .i64 0]) [(0, 1, .const (.int .i64 2))], none⟩, ⟨some 2, .bld (.agg #[.int .i64 0, .int .i64 0]) [(0, 1, .const (.int .i64 0)), (1, 1, .const (.int .i64 10))], none⟩, ⟨some 3, .bld (.agg #[.int .i64 0, .int .i64 0]) [(0, 1, .const (.int .i64 5)), (1, 1, .const (.int .i64 5))], none⟩, ⟨some 4, .bld (.agg #[.int .i64 0, .int .i64 0, .int .i64 0, .int .i64 0, .int .i64 0, .int .i64 0, .int .i64 0, .int .i64 0]) [(0, 2, .tmp 3)], none⟩, ⟨some 5, .bld (.agg #[.int .i64 0, .int .i64 0, .int .i64 0, .int .i64 0, .int .i64 0, .int .i64 0, .int .i64 0, .int .i64 0, .int .i64 0, .int .i64 0, .int .i64 0]) [(0, 1, .const (.int .i64 100)), (1, 2, .tmp 2), (3, 8, .tmp 4)], none⟩, ⟨some 6, .bld (.agg #[.int .i64 0, .int .i64 0]) [(0, 1, .const (.int .i64 90)), (1, 1, .const (.int .i64 100))], none⟩, ⟨some 7, .bld (.agg #[.int .i64 0, .int .i64 0]) [(0, 1, .const (.int .i64 9)), (1, 1, .const (.int .i64 9))], none⟩, ⟨some 8, .bld (.agg #[.int .i64 0, .int .i64 0, .int .i64 0, .int .i64 0, .int .i64 0, .int .i64 0, .int .i64 0, .int .i64 0]) [(0, 2, .tmp 7)], none⟩, ⟨some 9, .bld (.agg #[.int .i64 0, .int .i64 0, .int .i64 0, .int .i64 0, .int .i64 0, .int .i64 0, .int .i64 0, .int .i64 0, .int .i64 0, .int .i64 0, .int .i64 0]) [(0, 1, .const (.int .i64 104)), (1, 2, .tmp 6), (3, 8, .tmp 8)], none⟩, ⟨some 10, .bls 43 11 2 (.agg #[.int .i64 0, .int .i64 0, .int .i64 0, .int .i64 0, .int .i64 0, .int .i64 0, .int .i64 0, .int .i64 0, .int .i64 0, .int .i64 0, .int .i64 0]) [(0, 11, .tmp 5), (11, 11, .tmp 9)], none⟩, ⟨some 11, .bld (.agg #[.slice none 0 0, .int .i64 0, .int .i64 0, .int .i64 0, .int .i64 0]) [(1, 4, .tmp 1), (0, 1, .tmp 10)], none⟩, ⟨none, .st 25 5 (.tmp 0) (.tmp 11), none⟩]
def Xn40_2 : C := .seq Xn40_3 .ret
def Xn40_0 : C := .seq Xn40_1 Xn40_2
theorem Xt40 : Text Try.prog 40 Xn40_0 12 0 [.c 0 5 true] := ⟨⟨Try.f40, [], Try.func40, by kernel_rfl, by kernel_rfl, by kernel_rfl, by kernel_rfl⟩⟩
def Xn43_1 : C := regL [2, 3] none [⟨some 2, .box true 25 (.tmp 0), none⟩, ⟨some 3, .box true 27 (.tmp 1), none⟩, ⟨some 4, .mv (.const (.pointer none)), none⟩, ⟨some 5, .mv (.const (.int .i64 0)), none⟩]
def Xn43_3 : C := regL [3, 6, 7] none [⟨some 9, .ld 25 5 true (.tmp 2), none⟩, ⟨some 10, .call 46 [.tmp 9], none⟩, ⟨some 8, .mv (.tmp 10), none⟩, ⟨some 11, .ext 0 (.tmp 8), none⟩, ⟨some 12, .ext 1 (.tmp 8), none⟩, ⟨some 6, .mv (.tmp 11), none⟩, ⟨some 7, .mv (.tmp 12), none⟩]
def Xn43_6 : C := regL [3, 6, 7, 14] none [⟨some 13, .mv (.tmp 7), none⟩, ⟨some 14, .bin 36 .neq (.tmp 13) (.const (.int .i64 0)), none⟩]
def Xn43_9 : C := regL [4, 5] none [⟨some 15, .mv (.tmp 7), none⟩, ⟨some 4, .mv (.const (.pointer none)), none⟩, ⟨some 5, .mv (.tmp 15), none⟩]
def Xn43_8 : C := .seq Xn43_9 .ret
def Xn43_7 : C := .cond (.tmp 14) Xn43_8 .skip
def Xn43_5 : C := .seq Xn43_6 Xn43_7
def Xn43_13 : C := regL [4, 5] none [⟨some 16, .mv (.tmp 6), none⟩, ⟨some 17, .ld 27 7 true (.tmp 3), none⟩, ⟨some 18, .call 32 [.tmp 17], none⟩, ⟨some 4, .mv (.tmp 16), none⟩, ⟨some 5, .mv (.tmp 18), none⟩]
def Xn43_12 : C := .seq Xn43_13 .ret
def Xn43_4 : C := seqL [3, 6] Xn43_5 Xn43_12
def Xn43_2 : C := .seq Xn43_3 Xn43_4
def Xn43_0 : C := .seq Xn43_1 Xn43_2
theorem Xt43 : Text Try.prog 43 Xn43_0 19 2 [.t 4, .t 5] := ⟨⟨Try.f43, [2, 3], Try.func43, by kernel_rfl, by kernel_rfl, by kernel_rfl, by kernel_rfl⟩⟩
def Xn44_1 : C := regL [0, 3] none [⟨some 3, .box true 27 (.tmp 1), none⟩, ⟨some 4, .mv (.const (.int .i64 0)), none⟩]
def Xn44_5 : C := regL [0, 3, 5] (some [0, 0, 0, 0, 12, 31, 63, 127]) [⟨some 6, .mv (.tmp 0), none⟩, ⟨some 7, .ld 27 7 true (.tmp 3), none⟩, ⟨some 8, .mv (.tmp 0), none⟩, ⟨some 9, .ld 27 7 true (.tmp 3), none⟩, ⟨some 10, .call 56 [.tmp 8, .tmp 9], none⟩, ⟨some 11, .call 58 [.tmp 6, .tmp 7, .tmp 10], none⟩, ⟨some 12, .bin 3 .lss (.tmp 11) (.const (.int .i64 0)), none⟩, ⟨some 5, .mv (.tmp 12), none⟩]
def Xn44_8 : C := regL [4] none [⟨some 4, .mv (.const (.int .i64 1)), none⟩]
def Xn44_7 : C := .seq Xn44_8 .ret
def Xn44_11 : C := regL [13] none [⟨some 14, .mv (.tmp 0), none⟩, ⟨some 15, .ld 27 7 true (.tmp 3), none⟩, ⟨some 16, .call 65 [.tmp 14, .tmp 15], none⟩, ⟨some 17, .bin 3 .lss (.tmp 16) (.const (.int .i64 0)), none⟩, ⟨some 13, .mv (.tmp 17), none⟩]
def Xn44_14 : C := regL [4] none [⟨some 4, .mv (.const (.int .i64 2)), none⟩]
def Xn44_13 : C := .seq Xn44_14 .ret
def Xn44_12 : C := .cond (.tmp 13) Xn44_13 .skip
def Xn44_10 : C := .seq Xn44_11 Xn44_12
def Xn44_6 : C := .cond (.tmp 5) Xn44_7 Xn44_10
def Xn44_4 : C := .seq Xn44_5 Xn44_6
def Xn44_3 : C := .block 0 Xn44_4
def Xn44_18 : C := regL [4] none [⟨some 4, .mv (.const (.int .i64 0)), none⟩]
def Xn44_17 : C := .seq Xn44_18 .ret
def Xn44_2 : C := seqL [] Xn44_3 Xn44_17
def Xn44_0 : C := .seq Xn44_1 Xn44_2
theorem Xt44 : Text Try.prog 44 Xn44_0 18 2 [.t 4] := ⟨⟨Try.f44, [3], Try.func44, by kernel_rfl, by kernel_rfl, by kernel_rfl, by kernel_rfl⟩⟩
def Xn45_1 : C := regL [1, 2] none [⟨some 2, .box true 25 (.tmp 0), none⟩, ⟨some 4, .mv (.const (.int .i64 0)), none⟩]
def Xn45_3 : C := regL [4] none [⟨some 5, .fa 0 (.tmp 2), none⟩, ⟨some 6, .ld 22 1 false (.tmp 5), none⟩, ⟨some 7, .ia 11 (.tmp 6) (.const (.int .i64 0)), none⟩, ⟨some 8, .fa 0 (.tmp 7), none⟩, ⟨some 9, .ld 2 1 false (.tmp 8), none⟩, ⟨some 10, .mv (.tmp 1), none⟩, ⟨some 11, .bin 2 .add (.tmp 9) (.tmp 10), none⟩, ⟨some 4, .mv (.tmp 11), none⟩]
def Xn45_2 : C := .seq Xn45_3 .ret
def Xn45_0 : C := .seq Xn45_1 Xn45_2
theorem Xt45 : Text Try.prog 45 Xn45_0 12 2 [.t 4] := ⟨⟨Try.f45, [2], Try.func45, by kernel_rfl, by kernel_rfl, by kernel_rfl, by kernel_rfl⟩⟩
def Xn46_1 : C := regL [1] none [⟨some 1, .box true 25 (.tmp 0), none⟩, ⟨some 2, .mv (.const (.pointer none)), none⟩, ⟨some 3, .mv (.const (.int .i64 0)), none⟩]
def Xn46_4 : C := regL [1, 14] none [⟨some 11, .fa 0 (.tmp 1), none⟩, ⟨some 12, .ld 22 1 false (.tmp 11), none⟩, ⟨some 13, .len (.tmp 12), none⟩, ⟨some 14, .bin 3 .gtr (.tmp 13) (.const (.int .i64 64)), none⟩]
def Xn46_7 : C := regL [2, 3] none [⟨some 2, .mv (.const (.pointer none)), none⟩, ⟨some 3, .mv (.const (.int .i64 6)), none⟩]
def Xn46_6 : C := .seq Xn46_7 .ret
def Xn46_5 : C := .cond (.tmp 14) Xn46_6 .skip
def Xn46_3 : C := .seq Xn46_4 Xn46_5
def Xn46_12 : C := regL [1, 23] none [⟨some 15, .fa 0 (.tmp 1), none⟩, ⟨some 16, .ld 22 1 false (.tmp 15), none⟩, ⟨some 17, .len (.tmp 16), none⟩, ⟨some 18, .bin 3 .lss (.tmp 17) (.const (.int .i64 2)), none⟩, ⟨some 19, .mv (.tmp 18), none⟩, ⟨some 20, .fa 1 (.tmp 1), some (19, false)⟩, ⟨some 21, .sla 23 4 1 (.tmp 20), some (19, false)⟩, ⟨some 22, .call 68 [.tmp 21, .func 69], some (19, false)⟩, ⟨some 23, .pick 19 (.const (.bool true)) (.tmp 22), none⟩]
def Xn46_15 : C := regL [2, 3] none [⟨some 2, .mv (.const (.pointer none)), none⟩, ⟨some 3, .mv (.const (.int .i64 2)), none⟩]
def Xn46_14 : C := .seq Xn46_15 .ret
def Xn46_13 : C := .cond (.tmp 23) Xn46_14 .skip
def Xn46_11 : C := .seq Xn46_12 Xn46_13
def Xn46_20 : C := regL [1, 25, 26, 27] none [⟨some 24, .fa 0 (.tmp 1), none⟩, ⟨some 25, .ld 22 1 false (.tmp 24), none⟩, ⟨some 26, .len (.tmp 25), none⟩, ⟨some 27, .mv (.const (.int .i64 0)), none⟩]
def Xn46_24 : C := regL [1, 25, 26, 27, 28] none [⟨some 28, .bin 3 .lss (.tmp 27) (.tmp 26), none⟩]
def Xn46_26 : C := .cond (.tmp 28) .skip (.exit 0)
def Xn46_32 : C := regL [1, 4, 5, 25, 26, 27] none [⟨some 29, .mv (.tmp 27), none⟩, ⟨some 30, .ia 11 (.tmp 25) (.tmp 27), none⟩, ⟨some 31, .ld 43 11 true (.tmp 30), none⟩, ⟨some 5, .alc 43 (.agg #[.int .i64 0, .int .i64 0, .int .i64 0, .int .i64 0, .int .i64 0, .int .i64 0, .int .i64 0, .int .i64 0, .int .i64 0, .int .i64 0, .int .i64 0]), none⟩, ⟨some 4, .mv (.tmp 29), none⟩, ⟨none, .st 43 11 (.tmp 5) (.tmp 31), none⟩]
def Xn46_34 : C := regL [1, 5, 6, 25, 26, 27] (some [0, 1, 3, 7, 15, 31, 63, 127, 255, 511, 1023, 2047, 4095, 8191, 16383, 32767, 16383, 81919, 16383, 278527, 999423, 2047999, 4145151, 8388607, 16777215, 33554431, 67108863]) [⟨some 32, .fa 0 (.tmp 5), none⟩, ⟨some 33, .ld 2 1 false (.tmp 32), none⟩, ⟨some 34, .call 49 [.tmp 33, .const (.int .i64 0), .const (.int .i64 1099511627776)], none⟩, ⟨some 35, .un .not (.tmp 34), none⟩, ⟨some 36, .mv (.tmp 35), none⟩, ⟨some 37, .fa 1 (.tmp 5), some (36, false)⟩, ⟨some 38, .ld 40 2 true (.tmp 37), some (36, false)⟩, ⟨some 39, .call 61 [.tmp 38], some (36, false)⟩, ⟨some 40, .un .not (.tmp 39), some (36, false)⟩, ⟨some 41, .pick 36 (.const (.bool true)) (.tmp 40), none⟩, ⟨some 42, .mv (.tmp 41), none⟩, ⟨some 43, .mv (.tmp 4), some (42, false)⟩, ⟨some 44, .bin 3 .gtr (.tmp 43) (.const (.int .i64 0)), some (42, false)⟩, ⟨some 45, .mv (.tmp 44), some (42, false)⟩, ⟨some 46, .fa 0 (.tmp 5), some (45, true)⟩, ⟨some 47, .ld 2 1 false (.tmp 46), some (45, true)⟩, ⟨some 48, .fa 0 (.tmp 1), some (45, true)⟩, ⟨some 49, .ld 22 1 false (.tmp 48), some (45, true)⟩, ⟨some 50, .mv (.tmp 4), some (45, true)⟩, ⟨some 51, .bin 3 .sub (.tmp 50) (.const (.int .i64 1)), some (45, true)⟩, ⟨some 52, .ia 11 (.tmp 49) (.tmp 51), some (45, true)⟩, ⟨some 53, .fa 0 (.tmp 52), some (45, true)⟩, ⟨some 54, .ld 2 1 false (.tmp 53), some (45, true)⟩, ⟨some 55, .bin 2 .leq (.tmp 47) (.tmp 54), some (45, true)⟩, ⟨some 56, .pick 45 (.tmp 55) (.const (.bool false)), some (42, false)⟩, ⟨some 57, .pick 42 (.const (.bool true)) (.tmp 56), none⟩, ⟨some 6, .mv (.tmp 57), none⟩]
def Xn46_36 : C := regL [1, 25, 26, 27, 63] none [⟨some 58, .mv (.tmp 6), none⟩, ⟨some 59, .mv (.tmp 58), none⟩, ⟨some 60, .fa 3 (.tmp 5), some (59, false)⟩, ⟨some 61, .sla 41 4 2 (.tmp 60), some (59, false)⟩, ⟨some 62, .call 70 [.tmp 61, .func 71], some (59, false)⟩, ⟨some 63, .pick 59 (.const (.bool true)) (.tmp 62), none⟩]
def Xn46_39 : C := regL [2, 3] none [⟨some 2, .mv (.const (.pointer none)), none⟩, ⟨some 3, .mv (.const (.int .i64 2)), none⟩]
def Xn46_38 : C := .seq Xn46_39 .ret
def Xn46_37 : C := .cond (.tmp 63) Xn46_38 .skip
def Xn46_35 : C := .seq Xn46_36 Xn46_37
def Xn46_33 : C := .seq Xn46_34 Xn46_35
def Xn46_31 : C := .seq Xn46_32 Xn46_33
def Xn46_30 : C := .block 1 Xn46_31
def Xn46_42 : C := regL [1, 25, 26, 27] none [⟨some 64, .bin 3 .add (.tmp 27) (.const (.int .i64 1)), none⟩, ⟨some 27, .mv (.tmp 64), none⟩]
def Xn46_29 : C := seqL [1, 25, 26, 27] Xn46_30 Xn46_42
def Xn46_25 : C := seqL [1, 25, 26, 27] Xn46_26 Xn46_29
def Xn46_23 : C := .seq Xn46_24 Xn46_25
/- carried: [27] -/
def Xn46_22 : C := loopL [1, 25, 26, 27] Xn46_23
def Xn46_21 : C := .block 0 Xn46_22
def Xn46_19 : C := .seq Xn46_20 Xn46_21
def Xn46_44 : C := regL [1, 7] (some [0, 0, 2, 6, 14, 30, 63, 127, 255]) [⟨some 65, .ld 25 5 true (.tmp 1), none⟩, ⟨some 66, .fa 0 (.tmp 1), none⟩, ⟨some 67, .ld 22 1 false (.tmp 66), none⟩, ⟨some 68, .ia 11 (.tmp 67) (.const (.int .i64 0)), none⟩, ⟨some 69, .fa 0 (.tmp 68), none⟩, ⟨some 70, .ld 2 1 false (.tmp 69), none⟩, ⟨some 71, .bld (.agg #[.slice none 0 0, .int .i64 0, .int .i64 0, .int .i64 0, .int .i64 0, .int .i64 0, .slice none 0 0, .slice none 0 0, .slice none 0 0, .slice none 0 0, .slice none 0 0]) [(0, 5, .tmp 65), (5, 1, .tmp 70)], none⟩, ⟨some 72, .box false 95 (.tmp 71), none⟩, ⟨some 7, .mv (.tmp 72), none⟩]
def Xn46_46 : C := regL [7, 8] (some [0, 1, 0, 4, 12, 28, 63, 127, 255, 0, 512, 1536, 3584, 8191, 16383]) [⟨some 73, .fa 0 (.tmp 1), none⟩, ⟨some 74, .ld 22 1 false (.tmp 73), none⟩, ⟨some 75, .fa 0 (.tmp 1), none⟩, ⟨some 76, .ld 22 1 false (.tmp 75), none⟩, ⟨some 77, .len (.tmp 76), none⟩, ⟨some 78, .bin 3 .sub (.tmp 77) (.const (.int .i64 1)), none⟩, ⟨some 79, .ia 11 (.tmp 74) (.tmp 78), none⟩, ⟨some 80, .fa 0 (.tmp 79), none⟩, ⟨some 81, .ld 2 1 false (.tmp 80), none⟩, ⟨some 82, .mv (.tmp 7), none⟩, ⟨some 83, .nilc (.tmp 82), none⟩, ⟨some 84, .fa 5 (.tmp 83), none⟩, ⟨some 85, .ld 2 1 false (.tmp 84), none⟩, ⟨some 86, .bin 2 .sub (.tmp 81) (.tmp 85), none⟩, ⟨some 8, .mv (.tmp 86), none⟩]
def Xn46_49 : C := regL [7, 8, 88] none [⟨some 87, .mv (.tmp 8), none⟩, ⟨some 88, .bin 2 .gtr (.tmp 87) (.const (.int .i64 2000)), none⟩]
def Xn46_52 : C := regL [2, 3] none [⟨some 2, .mv (.const (.pointer none)), none⟩, ⟨some 3, .mv (.const (.int .i64 2)), none⟩]
def Xn46_51 : C := .seq Xn46_52 .ret
def Xn46_50 : C := .cond (.tmp 88) Xn46_51 .skip
def Xn46_48 : C := .seq Xn46_49 Xn46_50
def Xn46_56 : C := regL [7, 8] none [⟨some 9, .mv (.const (.bool true)), none⟩]
def Xn46_59 : C := regL [7, 8, 9] none [⟨some 90, .mv (.tmp 7), none⟩, ⟨some 91, .mv (.tmp 7), none⟩, ⟨some 92, .mv (.tmp 8), none⟩, ⟨some 93, .bin 3 .add (.tmp 92) (.const (.int .i64 1)), none⟩, ⟨some 94, .mv (.tmp 7), none⟩, ⟨some 95, .mkf 73 [.tmp 94] [], none⟩, ⟨some 96, .call 72 [.tmp 91, .tmp 93, .tmp 95], none⟩, ⟨some 89, .mv (.tmp 96), none⟩, ⟨some 97, .ext 0 (.tmp 89), none⟩, ⟨some 98, .ext 1 (.tmp 89), none⟩, ⟨some 99, .nilc (.tmp 90), none⟩, ⟨some 100, .fa 6 (.tmp 99), none⟩, ⟨none, .st 92 1 (.tmp 100) (.tmp 97), none⟩, ⟨some 9, .mv (.tmp 98), none⟩]
def Xn46_61 : C := regL [7, 8, 102] none [⟨some 101, .mv (.tmp 9), none⟩, ⟨some 102, .un .not (.tmp 101), none⟩]
def Xn46_64 : C := regL [2, 3] none [⟨some 2, .mv (.const (.pointer none)), none⟩, ⟨some 3, .mv (.const (.int .i64 16)), none⟩]
def Xn46_63 : C := .seq Xn46_64 .ret
def Xn46_62 : C := .cond (.tmp 102) Xn46_63 .skip
def Xn46_60 : C := .seq Xn46_61 Xn46_62
def Xn46_58 : C := .seq Xn46_59 Xn46_60
def Xn46_69 : C := regL [7, 8, 103] none [⟨some 103, .mv (.const (.int .i64 0)), none⟩]
def Xn46_73 : C := regL [7, 8, 103, 104] none [⟨some 104, .bin 3 .lss (.tmp 103) (.const (.int .i64 4)), none⟩]
def Xn46_75 : C := .cond (.tmp 104) .skip (.exit 2)
def Xn46_81 : C := regL [7, 8, 10, 103] none [⟨some 105, .mv (.tmp 103), none⟩, ⟨some 10, .mv (.tmp 105), none⟩]
def Xn46_83 : C := regL [7, 8, 9, 103] (some [0, 0, 0, 0, 8, 0, 0, 96, 252, 508, 1020, 1020, 1, 4097, 14335, 30719, 65535]) [⟨some 107, .mv (.tmp 7), none⟩, ⟨some 108, .mv (.tmp 10), none⟩, ⟨some 109, .mv (.tmp 7), none⟩, ⟨some 110, .mv (.tmp 8), none⟩, ⟨some 111, .bin 3 .add (.tmp 110) (.const (.int .i64 1)), none⟩, ⟨some 112, .mv (.tmp 7), none⟩, ⟨some 113, .mv (.tmp 10), none⟩, ⟨some 114, .call 74 [.tmp 112, .tmp 113], none⟩, ⟨some 115, .call 72 [.tmp 109, .tmp 111, .tmp 114], none⟩, ⟨some 106, .mv (.tmp 115), none⟩, ⟨some 116, .ext 0 (.tmp 106), none⟩, ⟨some 117, .ext 1 (.tmp 106), none⟩, ⟨some 118, .nilc (.tmp 107), none⟩, ⟨some 119, .fa 7 (.tmp 118), none⟩, ⟨some 120, .iaa 4 1 (.tmp 119) (.tmp 108), none⟩, ⟨none, .st 92 1 (.tmp 120) (.tmp 116), none⟩, ⟨some 9, .mv (.tmp 117), none⟩]
def Xn46_85 : C := regL [7, 8, 103, 122] none [⟨some 121, .mv (.tmp 9), none⟩, ⟨some 122, .un .not (.tmp 121), none⟩]
def Xn46_88 : C := regL [2, 3] none [⟨some 2, .mv (.const (.pointer none)), none⟩, ⟨some 3, .mv (.const (.int .i64 16)), none⟩]
def Xn46_87 : C := .seq Xn46_88 .ret
def Xn46_86 : C := .cond (.tmp 122) Xn46_87 .skip
def Xn46_84 : C := .seq Xn46_85 Xn46_86
def Xn46_82 : C := .seq Xn46_83 Xn46_84
def Xn46_80 : C := .seq Xn46_81 Xn46_82
def Xn46_79 : C := .block 3 Xn46_80
def Xn46_91 : C := regL [7, 8, 103] none [⟨some 123, .bin 3 .add (.tmp 103) (.const (.int .i64 1)), none⟩, ⟨some 103, .mv (.tmp 123), none⟩]
def Xn46_78 : C := seqL [7, 8, 103] Xn46_79 Xn46_91
def Xn46_74 : C := seqL [7, 8, 103] Xn46_75 Xn46_78
def Xn46_72 : C := .seq Xn46_73 Xn46_74
/- carried: [103] -/
def Xn46_71 : C := loopL [7, 8, 103] Xn46_72
def Xn46_70 : C := .block 2 Xn46_71
def Xn46_68 : C := .seq Xn46_69 Xn46_70
def Xn46_93 : C := regL [2, 3] none [⟨some 124, .mv (.tmp 7), none⟩, ⟨some 2, .mv (.tmp 124), none⟩, ⟨some 3, .mv (.const (.int .i64 0)), none⟩]
def Xn46_92 : C := .seq Xn46_93 .ret
def Xn46_67 : C := seqL [7] Xn46_68 Xn46_92
def Xn46_57 : C := seqL [7, 8] Xn46_58 Xn46_67
def Xn46_55 : C := .seq Xn46_56 Xn46_57
def Xn46_47 : C := seqL [7, 8] Xn46_48 Xn46_55
def Xn46_45 : C := .seq Xn46_46 Xn46_47
def Xn46_43 : C := .seq Xn46_44 Xn46_45
def Xn46_18 : C := seqL [1] Xn46_19 Xn46_43
def Xn46_10 : C := seqL [1] Xn46_11 Xn46_18
def Xn46_2 : C := seqL [1] Xn46_3 Xn46_10
def Xn46_0 : C := .seq Xn46_1 Xn46_2
theorem Xt46 : Text Try.prog 46 Xn46_0 125 1 [.t 2, .t 3] := ⟨⟨Try.f46, [1], Try.func46, by kernel_rfl, by kernel_rfl, by kernel_rfl, by kernel_rfl⟩⟩
def Xn49_1 : C := regL [0, 1, 2] none [⟨some 6, .mv (.const (.bool false)), none⟩]
def Xn49_3 : C := regL [6] none [⟨some 7, .mv (.tmp 1), none⟩, ⟨some 8, .mv (.tmp 0), none⟩, ⟨some 9, .bin 2 .leq (.tmp 7) (.tmp 8), none⟩, ⟨some 10, .mv (.tmp 9), none⟩, ⟨some 11, .mv (.tmp 0), some (10, true)⟩, ⟨some 12, .mv (.tmp 2), some (10, true)⟩, ⟨some 13, .bin 2 .leq (.tmp 11) (.tmp 12), some (10, true)⟩, ⟨some 14, .pick 10 (.tmp 13) (.const (.bool false)), none⟩, ⟨some 6, .mv (.tmp 14), none⟩]
def Xn49_2 : C := .seq Xn49_3 .ret
def Xn49_0 : C := .seq Xn49_1 Xn49_2
theorem Xt49 : Text Try.prog 49 Xn49_0 15 3 [.t 6] := ⟨⟨Try.f49, [], Try.func49, by kernel_rfl, by kernel_rfl, by kernel_rfl, by kernel_rfl⟩⟩
def Xn50_1 : C := regL [0, 1, 2] none [⟨some 6, .mv (.const (.bool false)), none⟩]
def Xn50_3 : C := regL [6] none [⟨some 7, .mv (.tmp 0), none⟩, ⟨some 8, .mv (.tmp 1), none⟩, ⟨some 9, .bin 2 .geq (.tmp 7) (.tmp 8), none⟩, ⟨some 10, .mv (.tmp 9), none⟩, ⟨some 11, .mv (.tmp 0), some (10, true)⟩, ⟨some 12, .mv (.tmp 2), some (10, true)⟩, ⟨some 13, .bin 2 .leq (.tmp 11) (.tmp 12), some (10, true)⟩, ⟨some 14, .pick 10 (.tmp 13) (.const (.bool false)), none⟩, ⟨some 6, .mv (.tmp 14), none⟩]
def Xn50_2 : C := .seq Xn50_3 .ret
def Xn50_0 : C := .seq Xn50_1 Xn50_2
theorem Xt50 : Text Try.prog 50 Xn50_0 15 3 [.t 6] := ⟨⟨Try.f50, [], Try.func50, by kernel_rfl, by kernel_rfl, by kernel_rfl, by kernel_rfl⟩⟩
def Xn52_1 : C := regL [1] none [⟨some 1, .box true 40 (.tmp 0), none⟩, ⟨some 2, .mv (.const (.bool false)), none⟩]
def Xn52_3 : C := regL [2] none [⟨some 3, .fa 0 (.tmp 1), none⟩, ⟨some 4, .ld 2 1 false (.tmp 3), none⟩, ⟨some 5, .fa 1 (.tmp 1), none⟩, ⟨some 6, .ld 2 1 false (.tmp 5), none⟩, ⟨some 7, .bin 2 .leq (.tmp 4) (.tmp 6), none⟩, ⟨some 8, .mv (.tmp 7), none⟩, ⟨some 9, .fa 0 (.tmp 1), some (8, true)⟩, ⟨some 10, .ld 2 1 false (.tmp 9), some (8, true)⟩, ⟨some 11, .bin 2 .geq (.tmp 10) (.const (.int .i64 (-1073741824))), some (8, true)⟩, ⟨some 12, .pick 8 (.tmp 11) (.const (.bool false)), none⟩, ⟨some 13, .mv (.tmp 12), none⟩, ⟨some 14, .fa 1 (.tmp 1), some (13, true)⟩, ⟨some 15, .ld 2 1 false (.tmp 14), some (13, true)⟩, ⟨some 16, .bin 2 .leq (.tmp 15) (.const (.int .i64 1073741824)), some (13, true)⟩, ⟨some 17, .pick 13 (.tmp 16) (.const (.bool false)), none⟩, ⟨some 2, .mv (.tmp 17), none⟩]
def Xn52_2 : C := .seq Xn52_3 .ret
def Xn52_0 : C := .seq Xn52_1 Xn52_2
theorem Xt52 : Text Try.prog 52 Xn52_0 18 1 [.t 2] := ⟨⟨Try.f52, [1], Try.func52, by kernel_rfl, by kernel_rfl, by kernel_rfl, by kernel_rfl⟩⟩
def Xn53_1 : C := regL [1] none [⟨some 1, .box true 25 (.tmp 0), none⟩, ⟨some 2, .mv (.const (.int .i64 0)), none⟩]
def Xn53_3 : C := regL [2] (some [0, 1, 0, 4, 12, 28, 63, 127, 255, 0, 512, 1536, 3584, 7680, 16383, 32767]) [⟨some 3, .fa 0 (.tmp 1), none⟩, ⟨some 4, .ld 22 1 false (.tmp 3), none⟩, ⟨some 5, .fa 0 (.tmp 1), none⟩, ⟨some 6, .ld 22 1 false (.tmp 5), none⟩, ⟨some 7, .len (.tmp 6), none⟩, ⟨some 8, .bin 3 .sub (.tmp 7) (.const (.int .i64 1)), none⟩, ⟨some 9, .ia 11 (.tmp 4) (.tmp 8), none⟩, ⟨some 10, .fa 0 (.tmp 9), none⟩, ⟨some 11, .ld 2 1 false (.tmp 10), none⟩, ⟨some 12, .fa 0 (.tmp 1), none⟩, ⟨some 13, .ld 22 1 false (.tmp 12), none⟩, ⟨some 14, .ia 11 (.tmp 13) (.const (.int .i64 0)), none⟩, ⟨some 15, .fa 0 (.tmp 14), none⟩, ⟨some 16, .ld 2 1 false (.tmp 15), none⟩, ⟨some 17, .bin 2 .sub (.tmp 11) (.tmp 16), none⟩, ⟨some 2, .mv (.tmp 17), none⟩]
def Xn53_2 : C := .seq Xn53_3 .ret
def Xn53_0 : C := .seq Xn53_1 Xn53_2
theorem Xt53 : Text Try.prog 53 Xn53_0 18 1 [.t 2] := ⟨⟨Try.f53, [1], Try.func53, by kernel_rfl, by kernel_rfl, by kernel_rfl, by kernel_rfl⟩⟩
def Xn54_1 : C := regL [0, 3] none [⟨some 3, .box true 34 (.tmp 1), none⟩, ⟨some 4, .mv (.const (.bool false)), none⟩]
def Xn54_3 : C := regL [4] (some [0, 1, 3, 0, 8, 24, 56, 120, 255, 511, 1023, 2047, 4095, 1023, 9215, 25599, 58367, 123903, 262143, 524287, 1048575]) [⟨some 5, .fa 0 (.tmp 3), none⟩, ⟨some 6, .ld 31 1 false (.tmp 5), none⟩, ⟨some 7, .len (.tmp 6), none⟩, ⟨some 8, .mv (.tmp 0), none⟩, ⟨some 9, .nilc (.tmp 8), none⟩, ⟨some 10, .fa 6 (.tmp 9), none⟩, ⟨some 11, .ld 92 1 false (.tmp 10), none⟩, ⟨some 12, .len (.tmp 11), none⟩, ⟨some 13, .bin 3 .eql (.tmp 7) (.tmp 12), none⟩, ⟨some 14, .mv (.tmp 13), none⟩, ⟨some 15, .fa 1 (.tmp 3), some (14, true)⟩, ⟨some 16, .ld 32 1 false (.tmp 15), some (14, true)⟩, ⟨some 17, .len (.tmp 16), some (14, true)⟩, ⟨some 18, .mv (.tmp 0), some (14, true)⟩, ⟨some 19, .nilc (.tmp 18), some (14, true)⟩, ⟨some 20, .fa 6 (.tmp 19), some (14, true)⟩, ⟨some 21, .ld 92 1 false (.tmp 20), some (14, true)⟩, ⟨some 22, .len (.tmp 21), some (14, true)⟩, ⟨some 23, .bin 3 .eql (.tmp 17) (.tmp 22), some (14, true)⟩, ⟨some 24, .pick 14 (.tmp 23) (.const (.bool false)), none⟩, ⟨some 4, .mv (.tmp 24), none⟩]
def Xn54_2 : C := .seq Xn54_3 .ret
def Xn54_0 : C := .seq Xn54_1 Xn54_2
theorem Xt54 : Text Try.prog 54 Xn54_0 25 2 [.t 4] := ⟨⟨Try.f54, [3], Try.func54, by kernel_rfl, by kernel_rfl, by kernel_rfl, by kernel_rfl⟩⟩
def Xn55_1 : C := regL [2, 3] none [⟨some 2, .box true 25 (.tmp 0), none⟩, ⟨some 3, .box true 27 (.tmp 1), none⟩, ⟨some 4, .mv (.const (.int .i64 0)), none⟩]
def Xn55_3 : C := regL [3, 5] none [⟨some 6, .ld 25 5 true (.tmp 2), none⟩, ⟨some 7, .call 21 [.tmp 6], none⟩, ⟨some 5, .mv (.tmp 7), none⟩]
def Xn55_6 : C := regL [3, 5, 9] none [⟨some 8, .mv (.tmp 5), none⟩, ⟨some 9, .bin 36 .neq (.tmp 8) (.const (.int .i64 0)), none⟩]
def Xn55_9 : C := regL [4] none [⟨some 10, .mv (.tmp 5), none⟩, ⟨some 4, .mv (.tmp 10), none⟩]
def Xn55_8 : C := .seq Xn55_9 .ret
def Xn55_7 : C := .cond (.tmp 9) Xn55_8 .skip
def Xn55_5 : C := .seq Xn55_6 Xn55_7
def Xn55_13 : C := regL [4] none [⟨some 11, .ld 27 7 true (.tmp 3), none⟩, ⟨some 12, .call 33 [.tmp 11], none⟩, ⟨some 4, .mv (.tmp 12), none⟩]
def Xn55_12 : C := .seq Xn55_13 .ret
def Xn55_4 : C := seqL [3] Xn55_5 Xn55_12
def Xn55_2 : C := .seq Xn55_3 Xn55_4
def Xn55_0 : C := .seq Xn55_1 Xn55_2
theorem Xt55 : Text Try.prog 55 Xn55_0 13 2 [.t 4] := ⟨⟨Try.f55, [2, 3], Try.func55, by kernel_rfl, by kernel_rfl, by kernel_rfl, by kernel_rfl⟩⟩
def Xn56_1 : C := regL [0, 3] none [⟨some 3, .box true 27 (.tmp 1), none⟩, ⟨some 4, .mv (.const (.slice none 0 0)), none⟩]
def Xn56_3 : C := regL [0, 3, 5] none [⟨some 5, .alc 64 (.slice none 0 0), none⟩]
def Xn56_5 : C := regL [0, 3, 5, 6] (some [0, 0, 2, 1, 9, 31, 63, 0, 255]) [⟨some 8, .mv (.tmp 0), none⟩, ⟨some 9, .fa 2 (.tmp 3), none⟩, ⟨some 10, .ld 3 1 false (.tmp 9), none⟩, ⟨some 11, .nilc (.tmp 8), none⟩, ⟨some 12, .fa 7 (.tmp 11), none⟩, ⟨some 13, .iaa 4 1 (.tmp 12) (.tmp 10), none⟩, ⟨some 14, .ld 92 1 false (.tmp 13), none⟩, ⟨some 6, .alc 92 (.slice none 0 0), none⟩, ⟨none, .st 92 1 (.tmp 6) (.tmp 14), none⟩]
def Xn56_8 : C := regL [3, 5, 6, 17] none [⟨some 15, .mv (.tmp 0), none⟩, ⟨some 16, .ld 27 7 true (.tmp 3), none⟩, ⟨some 17, .call 77 [.tmp 15, .tmp 16], none⟩]
def Xn56_11 : C := regL [3, 5, 6, 7] none [⟨some 7, .mv (.tmp 18), none⟩]
def Xn56_14 : C := regL [5, 7, 33] (some [0, 0, 3, 7, 15, 0, 0, 64, 224, 480, 992, 2047, 0, 4096, 16383]) [⟨some 19, .ld 92 1 false (.tmp 6), none⟩, ⟨some 20, .mv (.tmp 7), none⟩, ⟨some 21, .ia 2 (.tmp 19) (.tmp 20), none⟩, ⟨some 22, .fa 0 (.tmp 21), none⟩, ⟨some 23, .ld 2 1 false (.tmp 22), none⟩, ⟨some 24, .ld 92 1 false (.tmp 6), none⟩, ⟨some 25, .mv (.tmp 7), none⟩, ⟨some 26, .bin 3 .add (.tmp 25) (.const (.int .i64 1)), none⟩, ⟨some 27, .ia 2 (.tmp 24) (.tmp 26), none⟩, ⟨some 28, .fa 0 (.tmp 27), none⟩, ⟨some 29, .ld 2 1 false (.tmp 28), none⟩, ⟨some 30, .mx [.tmp 23, .tmp 29], none⟩, ⟨some 31, .fa 3 (.tmp 3), none⟩, ⟨some 32, .ld 2 1 false (.tmp 31), none⟩, ⟨some 33, .bin 2 .gtr (.tmp 30) (.tmp 32), none⟩]
def Xn56_16 : C := regL [] none [⟨some 34, .ld 64 1 false (.tmp 5), none⟩, ⟨some 35, .mv (.tmp 7), none⟩, ⟨some 36, .bls 3 1 1 (.int .i64 0) [(0, 1, .tmp 35)], none⟩, ⟨some 37, .app 3 1 8 (.tmp 34) (.tmp 36), none⟩, ⟨none, .st 64 1 (.tmp 5) (.tmp 37), none⟩]
def Xn56_15 : C := .cond (.tmp 33) Xn56_16 .skip
def Xn56_13 : C := .seq Xn56_14 Xn56_15
def Xn56_12 : C := .block 1 Xn56_13
def Xn56_10 : C := .rfn (.tmp 17) [18] Xn56_11 Xn56_12
def Xn56_9 : C := .block 0 Xn56_10
def Xn56_7 : C := .seq Xn56_8 Xn56_9
def Xn56_19 : C := regL [4] none [⟨some 38, .ld 64 1 false (.tmp 5), none⟩, ⟨some 4, .mv (.tmp 38), none⟩]
def Xn56_18 : C := .seq Xn56_19 .ret
def Xn56_6 : C := seqL [5] Xn56_7 Xn56_18
def Xn56_4 : C := .seq Xn56_5 Xn56_6
def Xn56_2 : C := .seq Xn56_3 Xn56_4
def Xn56_0 : C := .seq Xn56_1 Xn56_2
theorem Xt56 : Text Try.prog 56 Xn56_0 39 2 [.t 4] := ⟨⟨Try.f56, [3], Try.func56, by kernel_rfl, by kernel_rfl, by kernel_rfl, by kernel_rfl⟩⟩
/- carried: [7, 8] -/
def Xn58_1 : C := regL [0, 2, 4] none [⟨some 4, .box true 27 (.tmp 1), none⟩, ⟨some 6, .mv (.const (.int .i64 0)), none⟩]
def Xn58_4 : C := regL [0, 2, 4, 13, 14] none [⟨some 11, .mv (.tmp 2), none⟩, ⟨some 12, .len (.tmp 11), none⟩, ⟨some 13, .bin 3 .add (.tmp 12) (.const (.int .i64 1)), none⟩, ⟨some 14, .mv (.const (.int .i64 0)), none⟩]
def Xn58_8 : C := regL [0, 2, 4, 13, 14, 15] none [⟨some 15, .bin 3 .lss (.tmp 14) (.tmp 13), none⟩]
def Xn58_10 : C := .cond (.tmp 15) .skip (.exit 0)
def Xn58_16 : C := regL [0, 2, 4, 7, 13, 14] none [⟨some 16, .mv (.tmp 14), none⟩, ⟨some 7, .mv (.tmp 16), none⟩]
def Xn58_18 : C := regL [0, 2, 4, 7, 8, 13, 14] (some [0, 1, 3, 7, 15, 31, 63, 7, 7, 263, 903, 1927, 3975, 8191, 16383, 32767, 7, 65543, 262143, 524287, 1048575]) [⟨some 17, .mv (.tmp 7), none⟩, ⟨some 18, .bin 3 .eql (.tmp 17) (.const (.int .i64 0)), none⟩, ⟨some 19, .mv (.tmp 18), none⟩, ⟨some 20, .mv (.tmp 0), some (19, false)⟩, ⟨some 21, .nilc (.tmp 20), some (19, false)⟩, ⟨some 22, .fa 6 (.tmp 21), some (19, false)⟩, ⟨some 23, .ld 92 1 false (.tmp 22), some (19, false)⟩, ⟨some 24, .mv (.tmp 2), some (19, false)⟩, ⟨some 25, .mv (.tmp 7), some (19, false)⟩, ⟨some 26, .bin 3 .sub (.tmp 25) (.const (.int .i64 1)), some (19, false)⟩, ⟨some 27, .ia 1 (.tmp 24) (.tmp 26), some (19, false)⟩, ⟨some 28, .ld 3 1 false (.tmp 27), some (19, false)⟩, ⟨some 29, .bin 3 .add (.tmp 28) (.const (.int .i64 1)), some (19, false)⟩, ⟨some 30, .ia 2 (.tmp 23) (.tmp 29), some (19, false)⟩, ⟨some 31, .fa 0 (.tmp 30), some (19, false)⟩, ⟨some 32, .ld 2 1 false (.tmp 31), some (19, false)⟩, ⟨some 33, .fa 0 (.tmp 4), some (19, false)⟩, ⟨some 34, .ld 2 1 false (.tmp 33), some (19, false)⟩, ⟨some 35, .bin 2 .lss (.tmp 32) (.tmp 34), some (19, false)⟩, ⟨some 36, .pick 19 (.const (.bool true)) (.tmp 35), none⟩, ⟨some 8, .mv (.tmp 36), none⟩]
def Xn58_20 : C := regL [0, 2, 4, 7, 8, 9, 13, 14] (some [0, 0, 2, 7, 15, 31, 63, 127, 255, 31, 31, 1567, 3615, 8191, 16383, 32767, 31, 65567, 262143, 524287, 1048575]) [⟨some 37, .mv (.tmp 7), none⟩, ⟨some 38, .mv (.tmp 2), none⟩, ⟨some 39, .len (.tmp 38), none⟩, ⟨some 40, .bin 3 .eql (.tmp 37) (.tmp 39), none⟩, ⟨some 41, .mv (.tmp 40), none⟩, ⟨some 42, .mv (.tmp 0), some (41, false)⟩, ⟨some 43, .nilc (.tmp 42), some (41, false)⟩, ⟨some 44, .fa 6 (.tmp 43), some (41, false)⟩, ⟨some 45, .ld 92 1 false (.tmp 44), some (41, false)⟩, ⟨some 46, .mv (.tmp 2), some (41, false)⟩, ⟨some 47, .mv (.tmp 7), some (41, false)⟩, ⟨some 48, .ia 1 (.tmp 46) (.tmp 47), some (41, false)⟩, ⟨some 49, .ld 3 1 false (.tmp 48), some (41, false)⟩, ⟨some 50, .ia 2 (.tmp 45) (.tmp 49), some (41, false)⟩, ⟨some 51, .fa 1 (.tmp 50), some (41, false)⟩, ⟨some 52, .ld 2 1 false (.tmp 51), some (41, false)⟩, ⟨some 53, .fa 1 (.tmp 4), some (41, false)⟩, ⟨some 54, .ld 2 1 false (.tmp 53), some (41, false)⟩, ⟨some 55, .bin 2 .gtr (.tmp 52) (.tmp 54), some (41, false)⟩, ⟨some 56, .pick 41 (.const (.bool true)) (.tmp 55), none⟩, ⟨some 9, .mv (.tmp 56), none⟩]
def Xn58_22 : C := regL [0, 2, 4, 7, 8, 9, 10, 13, 14] (some [0, 1, 3, 7, 7, 23, 63, 127, 255, 511, 511, 2047, 4095, 511, 511, 16895, 57855, 123391, 254463, 524287, 1048575, 2097151]) [⟨some 57, .mv (.tmp 7), none⟩, ⟨some 58, .bin 3 .eql (.tmp 57) (.const (.int .i64 0)), none⟩, ⟨some 59, .mv (.tmp 58), none⟩, ⟨some 60, .mv (.tmp 7), some (59, false)⟩, ⟨some 61, .mv (.tmp 2), some (59, false)⟩, ⟨some 62, .len (.tmp 61), some (59, false)⟩, ⟨some 63, .bin 3 .eql (.tmp 60) (.tmp 62), some (59, false)⟩, ⟨some 64, .pick 59 (.const (.bool true)) (.tmp 63), none⟩, ⟨some 65, .mv (.tmp 64), none⟩, ⟨some 66, .mv (.tmp 2), some (65, false)⟩, ⟨some 67, .mv (.tmp 7), some (65, false)⟩, ⟨some 68, .ia 1 (.tmp 66) (.tmp 67), some (65, false)⟩, ⟨some 69, .ld 3 1 false (.tmp 68), some (65, false)⟩, ⟨some 70, .mv (.tmp 2), some (65, false)⟩, ⟨some 71, .mv (.tmp 7), some (65, false)⟩, ⟨some 72, .bin 3 .sub (.tmp 71) (.const (.int .i64 1)), some (65, false)⟩, ⟨some 73, .ia 1 (.tmp 70) (.tmp 72), some (65, false)⟩, ⟨some 74, .ld 3 1 false (.tmp 73), some (65, false)⟩, ⟨some 75, .bin 3 .add (.tmp 74) (.const (.int .i64 1)), some (65, false)⟩, ⟨some 76, .bin 3 .gtr (.tmp 69) (.tmp 75), some (65, false)⟩, ⟨some 77, .pick 65 (.const (.bool true)) (.tmp 76), none⟩, ⟨some 10, .mv (.tmp 77), none⟩]
def Xn58_24 : C := regL [0, 2, 4, 7, 13, 14, 84] none [⟨some 78, .mv (.tmp 8), none⟩, ⟨some 79, .mv (.tmp 78), none⟩, ⟨some 80, .mv (.tmp 9), some (79, true)⟩, ⟨some 81, .pick 79 (.tmp 80) (.const (.bool false)), none⟩, ⟨some 82, .mv (.tmp 81), none⟩, ⟨some 83, .mv (.tmp 10), some (82, true)⟩, ⟨some 84, .pick 82 (.tmp 83) (.const (.bool false)), none⟩]
def Xn58_27 : C := regL [6] none [⟨some 85, .mv (.tmp 7), none⟩, ⟨some 6, .mv (.tmp 85), none⟩]
def Xn58_26 : C := .seq Xn58_27 .ret
def Xn58_25 : C := .cond (.tmp 84) Xn58_26 .skip
def Xn58_23 : C := .seq Xn58_24 Xn58_25
def Xn58_21 : C := .seq Xn58_22 Xn58_23
def Xn58_19 : C := .seq Xn58_20 Xn58_21
def Xn58_17 : C := .seq Xn58_18 Xn58_19
def Xn58_15 : C := .seq Xn58_16 Xn58_17
def Xn58_14 : C := .block 1 Xn58_15
def Xn58_30 : C := regL [0, 2, 4, 13, 14] none [⟨some 86, .bin 3 .add (.tmp 14) (.const (.int .i64 1)), none⟩, ⟨some 14, .mv (.tmp 86), none⟩]
def Xn58_13 : C := seqL [0, 2, 4, 13, 14] Xn58_14 Xn58_30
def Xn58_9 : C := seqL [0, 2, 4, 13, 14] Xn58_10 Xn58_13
def Xn58_7 : C := .seq Xn58_8 Xn58_9
/- carried: [14] -/
def Xn58_6 : C := loopL [0, 2, 4, 13, 14] Xn58_7
def Xn58_5 : C := .block 0 Xn58_6
def Xn58_3 : C := .seq Xn58_4 Xn58_5
def Xn58_32 : C := regL [6] none [⟨some 6, .mv (.const (.int .i64 (-1))), none⟩]
def Xn58_31 : C := .seq Xn58_32 .ret
def Xn58_2 : C := seqL [] Xn58_3 Xn58_31
def Xn58_0 : C := .seq Xn58_1 Xn58_2
theorem Xt58 : Text Try.prog 58 Xn58_0 87 3 [.t 6] := ⟨⟨Try.f58, [4], Try.func58, by kernel_rfl, by kernel_rfl, by kernel_rfl, by kernel_rfl⟩⟩
/- carried: [5, 6] -/
/- carried: [8] -/
def Xn61_1 : C := regL [1] none [⟨some 1, .box true 40 (.tmp 0), none⟩, ⟨some 2, .mv (.const (.bool false)), none⟩]
def Xn61_3 : C := regL [2] none [⟨some 3, .fa 0 (.tmp 1), none⟩, ⟨some 4, .ld 2 1 false (.tmp 3), none⟩, ⟨some 5, .fa 1 (.tmp 1), none⟩, ⟨some 6, .ld 2 1 false (.tmp 5), none⟩, ⟨some 7, .call 49 [.tmp 4, .const (.int .i64 (-1073741824)), .tmp 6], none⟩, ⟨some 8, .mv (.tmp 7), none⟩, ⟨some 9, .fa 1 (.tmp 1), some (8, true)⟩, ⟨some 10, .ld 2 1 false (.tmp 9), some (8, true)⟩, ⟨some 11, .bin 2 .leq (.tmp 10) (.const (.int .i64 1073741824)), some (8, true)⟩, ⟨some 12, .pick 8 (.tmp 11) (.const (.bool false)), none⟩, ⟨some 2, .mv (.tmp 12), none⟩]
def Xn61_2 : C := .seq Xn61_3 .ret
def Xn61_0 : C := .seq Xn61_1 Xn61_2
theorem Xt61 : Text Try.prog 61 Xn61_0 13 1 [.t 2] := ⟨⟨Try.f61, [1], Try.func61, by kernel_rfl, by kernel_rfl, by kernel_rfl, by kernel_rfl⟩⟩
def Xn62_1 : C := regL [2, 3] none [⟨some 2, .box true 25 (.tmp 0), none⟩, ⟨some 3, .box true 34 (.tmp 1), none⟩, ⟨some 4, .mv (.const (.bool false)), none⟩]
def Xn62_3 : C := regL [4] (some [0, 1, 3, 0, 8, 24, 63, 127, 255, 511, 1023, 255, 2303, 6399, 16383, 32767, 65535]) [⟨some 5, .fa 0 (.tmp 3), none⟩, ⟨some 6, .ld 31 1 false (.tmp 5), none⟩, ⟨some 7, .len (.tmp 6), none⟩, ⟨some 8, .ld 25 5 true (.tmp 2), none⟩, ⟨some 9, .call 53 [.tmp 8], none⟩, ⟨some 10, .bin 3 .add (.tmp 9) (.const (.int .i64 1)), none⟩, ⟨some 11, .bin 3 .eql (.tmp 7) (.tmp 10), none⟩, ⟨some 12, .mv (.tmp 11), none⟩, ⟨some 13, .fa 1 (.tmp 3), some (12, true)⟩, ⟨some 14, .ld 32 1 false (.tmp 13), some (12, true)⟩, ⟨some 15, .len (.tmp 14), some (12, true)⟩, ⟨some 16, .ld 25 5 true (.tmp 2), some (12, true)⟩, ⟨some 17, .call 53 [.tmp 16], some (12, true)⟩, ⟨some 18, .bin 3 .add (.tmp 17) (.const (.int .i64 1)), some (12, true)⟩, ⟨some 19, .bin 3 .eql (.tmp 15) (.tmp 18), some (12, true)⟩, ⟨some 20, .pick 12 (.tmp 19) (.const (.bool false)), none⟩, ⟨some 4, .mv (.tmp 20), none⟩]
def Xn62_2 : C := .seq Xn62_3 .ret
def Xn62_0 : C := .seq Xn62_1 Xn62_2
theorem Xt62 : Text Try.prog 62 Xn62_0 21 2 [.t 4] := ⟨⟨Try.f62, [2, 3], Try.func62, by kernel_rfl, by kernel_rfl, by kernel_rfl, by kernel_rfl⟩⟩
def Xn63_1 : C := regL [0, 4, 5, 6] none [⟨some 4, .box true 27 (.tmp 1), none⟩, ⟨some 5, .box true 34 (.tmp 2), none⟩, ⟨some 6, .alc 4 (.bool false), none⟩]
def Xn63_4 : C := regL [4, 5, 6, 10] none [⟨some 8, .mv (.tmp 0), none⟩, ⟨some 9, .ld 27 7 true (.tmp 4), none⟩, ⟨some 10, .call 77 [.tmp 8, .tmp 9], none⟩]
def Xn63_7 : C := regL [4, 5, 6, 7] none [⟨some 7, .mv (.tmp 11), none⟩]
def Xn63_10 : C := regL [6, 53] (some [0, 1, 0, 7, 15, 0, 32, 127, 255, 511, 1023, 511, 2559, 8191, 16383, 511, 33279, 131071, 262143, 524287, 1048575, 2097151, 1048575, 1048575, 9437183, 8388607, 67108863, 134217727, 1048575, 269484031, 1048575, 1074790399, 1048575, 4296015871, 4027580415, 34092351487, 68452089855, 137438953471, 1048575, 274878955519, 1099511627775, 2199023255551]) [⟨some 12, .fa 0 (.tmp 5), none⟩, ⟨some 13, .ld 31 1 false (.tmp 12), none⟩, ⟨some 14, .mv (.tmp 7), none⟩, ⟨some 15, .ia 1 (.tmp 13) (.tmp 14), none⟩, ⟨some 16, .ld 2 1 false (.tmp 15), none⟩, ⟨some 17, .fa 1 (.tmp 4), none⟩, ⟨some 18, .ld 2 1 false (.tmp 17), none⟩, ⟨some 19, .bin 2 .leq (.tmp 16) (.tmp 18), none⟩, ⟨some 20, .mv (.tmp 19), none⟩, ⟨some 21, .fa 0 (.tmp 5), some (20, true)⟩, ⟨some 22, .ld 31 1 false (.tmp 21), some (20, true)⟩, ⟨some 23, .mv (.tmp 7), some (20, true)⟩, ⟨some 24, .bin 3 .add (.tmp 23) (.const (.int .i64 1)), some (20, true)⟩, ⟨some 25, .ia 1 (.tmp 22) (.tmp 24), some (20, true)⟩, ⟨some 26, .ld 2 1 false (.tmp 25), some (20, true)⟩, ⟨some 27, .fa 0 (.tmp 4), some (20, true)⟩, ⟨some 28, .ld 2 1 false (.tmp 27), some (20, true)⟩, ⟨some 29, .bin 2 .geq (.tmp 26) (.tmp 28), some (20, true)⟩, ⟨some 30, .pick 20 (.tmp 29) (.const (.bool false)), none⟩, ⟨some 31, .mv (.tmp 30), none⟩, ⟨some 32, .fa 1 (.tmp 5), some (31, true)⟩, ⟨some 33, .ld 32 1 false (.tmp 32), some (31, true)⟩, ⟨some 34, .mv (.tmp 7), some (31, true)⟩, ⟨some 35, .fa 2 (.tmp 4), some (31, true)⟩, ⟨some 36, .ld 3 1 false (.tmp 35), some (31, true)⟩, ⟨some 37, .ia 4 (.tmp 33) (.tmp 34), some (31, true)⟩, ⟨some 38, .iaa 4 1 (.tmp 37) (.tmp 36), some (31, true)⟩, ⟨some 39, .ld 2 1 false (.tmp 38), some (31, true)⟩, ⟨some 40, .fa 1 (.tmp 5), some (31, true)⟩, ⟨some 41, .ld 32 1 false (.tmp 40), some (31, true)⟩, ⟨some 42, .mv (.tmp 7), some (31, true)⟩, ⟨some 43, .bin 3 .add (.tmp 42) (.const (.int .i64 1)), some (31, true)⟩, ⟨some 44, .fa 2 (.tmp 4), some (31, true)⟩, ⟨some 45, .ld 3 1 false (.tmp 44), some (31, true)⟩, ⟨some 46, .ia 4 (.tmp 41) (.tmp 43), some (31, true)⟩, ⟨some 47, .iaa 4 1 (.tmp 46) (.tmp 45), some (31, true)⟩, ⟨some 48, .ld 2 1 false (.tmp 47), some (31, true)⟩, ⟨some 49, .mx [.tmp 39, .tmp 48], some (31, true)⟩, ⟨some 50, .fa 3 (.tmp 4), some (31, true)⟩, ⟨some 51, .ld 2 1 false (.tmp 50), some (31, true)⟩, ⟨some 52, .bin 2 .gtr (.tmp 49) (.tmp 51), some (31, true)⟩, ⟨some 53, .pick 31 (.tmp 52) (.const (.bool false)), none⟩]
def Xn63_13 : C := regL [] none [⟨none, .st 4 1 (.tmp 6) (.const (.bool true)), none⟩]
def Xn63_12 : C := .seq Xn63_13 .ret
def Xn63_11 : C := .cond (.tmp 53) Xn63_12 .skip
def Xn63_9 : C := .seq Xn63_10 Xn63_11
def Xn63_8 : C := .block 1 Xn63_9
def Xn63_6 : C := .rfn (.tmp 10) [11] Xn63_7 Xn63_8
def Xn63_5 : C := .block 0 Xn63_6
def Xn63_3 : C := .seq Xn63_4 Xn63_5
def Xn63_17 : C := regL [6] none [⟨none, .st 4 1 (.tmp 6) (.const (.bool false)), none⟩]
def Xn63_16 : C := .seq Xn63_17 .ret
def Xn63_2 : C := seqL [6] Xn63_3 Xn63_16
def Xn63_0 : C := .seq Xn63_1 Xn63_2
theorem Xt63 : Text Try.prog 63 Xn63_0 54 3 [.c 6 1 false] := ⟨⟨Try.f63, [4, 5], Try.func63, by kernel_rfl, by kernel_rfl, by kernel_rfl, by kernel_rfl⟩⟩
def Xn64_1 : C := regL [3, 4, 5] none [⟨some 3, .box true 25 (.tmp 0), none⟩, ⟨some 4, .box true 27 (.tmp 1), none⟩, ⟨some 5, .box true 34 (.tmp 2), none⟩, ⟨some 6, .mv (.const (.bool false)), none⟩]
def Xn64_4 : C := regL [3, 4, 5, 7] none [⟨some 7, .mv (.const (.int .i64 0)), none⟩]
def Xn64_9 : C := regL [3, 4, 5, 7, 11] none [⟨some 8, .mv (.tmp 7), none⟩, ⟨some 9, .ld 25 5 true (.tmp 3), none⟩, ⟨some 10, .call 53 [.tmp 9], none⟩, ⟨some 11, .bin 3 .lss (.tmp 8) (.tmp 10), none⟩]
def Xn64_10 : C := .cond (.tmp 11) .skip (.exit 0)
def Xn64_8 : C := .seq Xn64_9 Xn64_10
def Xn64_16 : C := regL [3, 4, 5, 7, 61] (some [0, 0, 0, 7, 15, 31, 63, 31, 255, 511, 31, 1055, 4095, 8191, 16383, 32767, 65535, 32767, 163839, 524287, 1048575, 32767, 2129919, 8388607, 16777215, 33554431, 67108863, 134217727, 67108863, 67108863, 603979775, 536870911, 4294967295, 8589934591, 67108863, 17246978047, 67108863, 68786585599, 67108863, 274945015807, 257765146623, 2181910495231, 4380933750783, 8796093022207, 67108863, 17592253153279, 70368744177663, 140737488355327]) [⟨some 14, .ld 25 5 true (.tmp 3), none⟩, ⟨some 15, .ld 27 7 true (.tmp 4), none⟩, ⟨some 16, .mv (.tmp 7), none⟩, ⟨some 17, .call 80 [.tmp 14, .tmp 15, .tmp 16], none⟩, ⟨some 18, .mv (.tmp 17), none⟩, ⟨some 19, .fa 0 (.tmp 5), some (18, true)⟩, ⟨some 20, .ld 31 1 false (.tmp 19), some (18, true)⟩, ⟨some 21, .mv (.tmp 7), some (18, true)⟩, ⟨some 22, .ia 1 (.tmp 20) (.tmp 21), some (18, true)⟩, ⟨some 23, .ld 2 1 false (.tmp 22), some (18, true)⟩, ⟨some 24, .fa 1 (.tmp 4), some (18, true)⟩, ⟨some 25, .ld 2 1 false (.tmp 24), some (18, true)⟩, ⟨some 26, .bin 2 .leq (.tmp 23) (.tmp 25), some (18, true)⟩, ⟨some 27, .pick 18 (.tmp 26) (.const (.bool false)), none⟩, ⟨some 28, .mv (.tmp 27), none⟩, ⟨some 29, .fa 0 (.tmp 5), some (28, true)⟩, ⟨some 30, .ld 31 1 false (.tmp 29), some (28, true)⟩, ⟨some 31, .mv (.tmp 7), some (28, true)⟩, ⟨some 32, .bin 3 .add (.tmp 31) (.const (.int .i64 1)), some (28, true)⟩, ⟨some 33, .ia 1 (.tmp 30) (.tmp 32), some (28, true)⟩, ⟨some 34, .ld 2 1 false (.tmp 33), some (28, true)⟩, ⟨some 35, .fa 0 (.tmp 4), some (28, true)⟩, ⟨some 36, .ld 2 1 false (.tmp 35), some (28, true)⟩, ⟨some 37, .bin 2 .geq (.tmp 34) (.tmp 36), some (28, true)⟩, ⟨some 38, .pick 28 (.tmp 37) (.const (.bool false)), none⟩, ⟨some 39, .mv (.tmp 38), none⟩, ⟨some 40, .fa 1 (.tmp 5), some (39, true)⟩, ⟨some 41, .ld 32 1 false (.tmp 40), some (39, true)⟩, ⟨some 42, .mv (.tmp 7), some (39, true)⟩, ⟨some 43, .fa 2 (.tmp 4), some (39, true)⟩, ⟨some 44, .ld 3 1 false (.tmp 43), some (39, true)⟩, ⟨some 45, .ia 4 (.tmp 41) (.tmp 42), some (39, true)⟩, ⟨some 46, .iaa 4 1 (.tmp 45) (.tmp 44), some (39, true)⟩, ⟨some 47, .ld 2 1 false (.tmp 46), some (39, true)⟩, ⟨some 48, .fa 1 (.tmp 5), some (39, true)⟩, ⟨some 49, .ld 32 1 false (.tmp 48), some (39, true)⟩, ⟨some 50, .mv (.tmp 7), some (39, true)⟩, ⟨some 51, .bin 3 .add (.tmp 50) (.const (.int .i64 1)), some (39, true)⟩, ⟨some 52, .fa 2 (.tmp 4), some (39, true)⟩, ⟨some 53, .ld 3 1 false (.tmp 52), some (39, true)⟩, ⟨some 54, .ia 4 (.tmp 49) (.tmp 51), some (39, true)⟩, ⟨some 55, .iaa 4 1 (.tmp 54) (.tmp 53), some (39, true)⟩, ⟨some 56, .ld 2 1 false (.tmp 55), some (39, true)⟩, ⟨some 57, .mx [.tmp 47, .tmp 56], some (39, true)⟩, ⟨some 58, .fa 3 (.tmp 4), some (39, true)⟩, ⟨some 59, .ld 2 1 false (.tmp 58), some (39, true)⟩, ⟨some 60, .bin 2 .gtr (.tmp 57) (.tmp 59), some (39, true)⟩, ⟨some 61, .pick 39 (.tmp 60) (.const (.bool false)), none⟩]
def Xn64_19 : C := regL [6] none [⟨some 6, .mv (.const (.bool true)), none⟩]
def Xn64_18 : C := .seq Xn64_19 .ret
def Xn64_17 : C := .cond (.tmp 61) Xn64_18 .skip
def Xn64_15 : C := .seq Xn64_16 Xn64_17
def Xn64_14 : C := .block 1 Xn64_15
def Xn64_22 : C := regL [3, 4, 5, 7] none [⟨some 12, .mv (.tmp 7), none⟩, ⟨some 13, .bin 3 .add (.tmp 12) (.const (.int .i64 1)), none⟩, ⟨some 7, .mv (.tmp 13), none⟩]
def Xn64_13 : C := seqL [3, 4, 5, 7] Xn64_14 Xn64_22
def Xn64_7 : C := seqL [3, 4, 5, 7] Xn64_8 Xn64_13
/- carried: [7] -/
def Xn64_6 : C := loopL [3, 4, 5, 7] Xn64_7
def Xn64_5 : C := .block 0 Xn64_6
def Xn64_3 : C := .seq Xn64_4 Xn64_5
def Xn64_24 : C := regL [6] none [⟨some 6, .mv (.const (.bool false)), none⟩]
def Xn64_23 : C := .seq Xn64_24 .ret
def Xn64_2 : C := seqL [] Xn64_3 Xn64_23
def Xn64_0 : C := .seq Xn64_1 Xn64_2
theorem Xt64 : Text Try.prog 64 Xn64_0 62 3 [.t 6] := ⟨⟨Try.f64, [3, 4, 5], Try.func64, by kernel_rfl, by kernel_rfl, by kernel_rfl, by kernel_rfl⟩⟩
def Xn65_1 : C := regL [2, 3, 4] none [⟨some 2, .box true 79 (.tmp 0), none⟩, ⟨some 3, .box true 27 (.tmp 1), none⟩, ⟨some 4, .alc 3 (.int .i64 0), none⟩]
def Xn65_3 : C := regL [2, 3, 4, 5] (some [0, 0, 2, 1, 9, 31, 63, 0, 255]) [⟨some 7, .ld 79 1 false (.tmp 2), none⟩, ⟨some 8, .fa 2 (.tmp 3), none⟩, ⟨some 9, .ld 3 1 false (.tmp 8), none⟩, ⟨some 10, .nilc (.tmp 7), none⟩, ⟨some 11, .fa 7 (.tmp 10), none⟩, ⟨some 12, .iaa 4 1 (.tmp 11) (.tmp 9), none⟩, ⟨some 13, .ld 92 1 false (.tmp 12), none⟩, ⟨some 5, .alc 92 (.slice none 0 0), none⟩, ⟨none, .st 92 1 (.tmp 5) (.tmp 13), none⟩]
def Xn65_6 : C := regL [2, 3, 4, 5, 16] none [⟨some 14, .ld 79 1 false (.tmp 2), none⟩, ⟨some 15, .ld 27 7 true (.tmp 3), none⟩, ⟨some 16, .call 77 [.tmp 14, .tmp 15], none⟩]
def Xn65_9 : C := regL [2, 3, 4, 5, 6] none [⟨some 6, .mv (.tmp 17), none⟩]
def Xn65_12 : C := regL [4, 6, 59] (some [0, 0, 3, 7, 15, 0, 0, 64, 224, 480, 992, 2047, 0, 4096, 16383, 32767, 65535, 131071, 262143, 524287, 65535, 2097151, 4194303, 8388607, 65535, 16842751, 67108863, 134217727, 268435455, 536870911, 1073741823, 2147483647, 4294967295, 536870911, 9126805503, 34359738367, 68719476735, 137438953471, 536870911, 275414777855, 1099511627775, 2199023255551]) [⟨some 18, .ld 92 1 false (.tmp 5), none⟩, ⟨some 19, .mv (.tmp 6), none⟩, ⟨some 20, .ia 2 (.tmp 18) (.tmp 19), none⟩, ⟨some 21, .fa 1 (.tmp 20), none⟩, ⟨some 22, .ld 2 1 false (.tmp 21), none⟩, ⟨some 23, .ld 92 1 false (.tmp 5), none⟩, ⟨some 24, .mv (.tmp 6), none⟩, ⟨some 25, .bin 3 .add (.tmp 24) (.const (.int .i64 1)), none⟩, ⟨some 26, .ia 2 (.tmp 23) (.tmp 25), none⟩, ⟨some 27, .fa 1 (.tmp 26), none⟩, ⟨some 28, .ld 2 1 false (.tmp 27), none⟩, ⟨some 29, .mx [.tmp 22, .tmp 28], none⟩, ⟨some 30, .fa 3 (.tmp 3), none⟩, ⟨some 31, .ld 2 1 false (.tmp 30), none⟩, ⟨some 32, .bin 2 .gtr (.tmp 29) (.tmp 31), none⟩, ⟨some 33, .mv (.tmp 32), none⟩, ⟨some 34, .ld 79 1 false (.tmp 2), some (33, true)⟩, ⟨some 35, .nilc (.tmp 34), some (33, true)⟩, ⟨some 36, .fa 6 (.tmp 35), some (33, true)⟩, ⟨some 37, .ld 92 1 false (.tmp 36), some (33, true)⟩, ⟨some 38, .mv (.tmp 6), some (33, true)⟩, ⟨some 39, .ia 2 (.tmp 37) (.tmp 38), some (33, true)⟩, ⟨some 40, .fa 0 (.tmp 39), some (33, true)⟩, ⟨some 41, .ld 2 1 false (.tmp 40), some (33, true)⟩, ⟨some 42, .fa 1 (.tmp 3), some (33, true)⟩, ⟨some 43, .ld 2 1 false (.tmp 42), some (33, true)⟩, ⟨some 44, .bin 2 .leq (.tmp 41) (.tmp 43), some (33, true)⟩, ⟨some 45, .pick 33 (.tmp 44) (.const (.bool false)), none⟩, ⟨some 46, .mv (.tmp 45), none⟩, ⟨some 47, .ld 79 1 false (.tmp 2), some (46, true)⟩, ⟨some 48, .nilc (.tmp 47), some (46, true)⟩, ⟨some 49, .fa 6 (.tmp 48), some (46, true)⟩, ⟨some 50, .ld 92 1 false (.tmp 49), some (46, true)⟩, ⟨some 51, .mv (.tmp 6), some (46, true)⟩, ⟨some 52, .bin 3 .add (.tmp 51) (.const (.int .i64 1)), some (46, true)⟩, ⟨some 53, .ia 2 (.tmp 50) (.tmp 52), some (46, true)⟩, ⟨some 54, .fa 1 (.tmp 53), some (46, true)⟩, ⟨some 55, .ld 2 1 false (.tmp 54), some (46, true)⟩, ⟨some 56, .fa 0 (.tmp 3), some (46, true)⟩, ⟨some 57, .ld 2 1 false (.tmp 56), some (46, true)⟩, ⟨some 58, .bin 2 .geq (.tmp 55) (.tmp 57), some (46, true)⟩, ⟨some 59, .pick 46 (.tmp 58) (.const (.bool false)), none⟩]
def Xn65_15 : C := regL [] none [⟨some 60, .mv (.tmp 6), none⟩, ⟨none, .st 3 1 (.tmp 4) (.tmp 60), none⟩]
def Xn65_14 : C := .seq Xn65_15 .ret
def Xn65_13 : C := .cond (.tmp 59) Xn65_14 .skip
def Xn65_11 : C := .seq Xn65_12 Xn65_13
def Xn65_10 : C := .block 1 Xn65_11
def Xn65_8 : C := .rfn (.tmp 16) [17] Xn65_9 Xn65_10
def Xn65_7 : C := .block 0 Xn65_8
def Xn65_5 : C := .seq Xn65_6 Xn65_7
def Xn65_19 : C := regL [4] none [⟨none, .st 3 1 (.tmp 4) (.const (.int .i64 (-1))), none⟩]
def Xn65_18 : C := .seq Xn65_19 .ret
def Xn65_4 : C := seqL [4] Xn65_5 Xn65_18
def Xn65_2 : C := .seq Xn65_3 Xn65_4
def Xn65_0 : C := .seq Xn65_1 Xn65_2
theorem Xt65 : Text Try.prog 65 Xn65_0 61 2 [.c 4 1 false] := ⟨⟨Try.f65, [2, 3], Try.func65, by kernel_rfl, by kernel_rfl, by kernel_rfl, by kernel_rfl⟩⟩
/- carried: [19] -/
/- carried: [16] -/
def Xn68_1 : C := regL [0, 1] none [⟨some 4, .mv (.const (.bool false)), none⟩]
def Xn68_3 : C := regL [4] none [⟨some 5, .mv (.tmp 0), none⟩, ⟨some 6, .mv (.tmp 1), none⟩, ⟨some 7, .call 81 [.tmp 5, .tmp 6], none⟩, ⟨some 8, .bin 3 .geq (.tmp 7) (.const (.int .i64 0)), none⟩, ⟨some 4, .mv (.tmp 8), none⟩]
def Xn68_2 : C := .seq Xn68_3 .ret
def Xn68_0 : C := .seq Xn68_1 Xn68_2
theorem Xt68 : Text Try.prog 68 Xn68_0 9 2 [.t 4] := ⟨⟨Try.f68, [], Try.func68, by kernel_rfl, by kernel_rfl, by kernel_rfl, by kernel_rfl⟩⟩
def Xn69_1 : C := regL [0] none [⟨some 2, .mv (.const (.bool false)), none⟩]
def Xn69_3 : C := regL [2] none [⟨some 3, .mv (.tmp 0), none⟩, ⟨some 4, .call 49 [.tmp 3, .const (.int .i64 0), .const (.int .i64 1048576)], none⟩, ⟨some 5, .un .not (.tmp 4), none⟩, ⟨some 2, .mv (.tmp 5), none⟩]
def Xn69_2 : C := .seq Xn69_3 .ret
def Xn69_0 : C := .seq Xn69_1 Xn69_2
theorem Xt69 : Text Try.prog 69 Xn69_0 6 1 [.t 2] := ⟨⟨Try.f69, [], Try.func69, by kernel_rfl, by kernel_rfl, by kernel_rfl, by kernel_rfl⟩⟩
def Xn70_1 : C := regL [0, 1] none [⟨some 4, .mv (.const (.bool false)), none⟩]
def Xn70_3 : C := regL [4] none [⟨some 5, .mv (.tmp 0), none⟩, ⟨some 6, .mv (.tmp 1), none⟩, ⟨some 7, .call 82 [.tmp 5, .tmp 6], none⟩, ⟨some 8, .bin 3 .geq (.tmp 7) (.const (.int .i64 0)), none⟩, ⟨some 4, .mv (.tmp 8), none⟩]
def Xn70_2 : C := .seq Xn70_3 .ret
def Xn70_0 : C := .seq Xn70_1 Xn70_2
theorem Xt70 : Text Try.prog 70 Xn70_0 9 2 [.t 4] := ⟨⟨Try.f70, [], Try.func70, by kernel_rfl, by kernel_rfl, by kernel_rfl, by kernel_rfl⟩⟩
def Xn71_1 : C := regL [1] none [⟨some 1, .box true 40 (.tmp 0), none⟩, ⟨some 2, .mv (.const (.bool false)), none⟩]
def Xn71_3 : C := regL [2] none [⟨some 3, .ld 40 2 true (.tmp 1), none⟩, ⟨some 4, .call 61 [.tmp 3], none⟩, ⟨some 5, .un .not (.tmp 4), none⟩, ⟨some 2, .mv (.tmp 5), none⟩]
def Xn71_2 : C := .seq Xn71_3 .ret
def Xn71_0 : C := .seq Xn71_1 Xn71_2
theorem Xt71 : Text Try.prog 71 Xn71_0 6 1 [.t 2] := ⟨⟨Try.f71, [1], Try.func71, by kernel_rfl, by kernel_rfl, by kernel_rfl, by kernel_rfl⟩⟩
def Xn72_1 : C := regL [0, 1, 2] none [⟨some 6, .mv (.const (.slice none 0 0)), none⟩, ⟨some 7, .mv (.const (.bool false)), none⟩]
def Xn72_3 : C := regL [0, 1, 2, 8] none [⟨some 10, .mv (.tmp 1), none⟩, ⟨some 11, .mks 40 2 16 (.agg #[.int .i64 0, .int .i64 0]) (.tmp 10) (.tmp 10), none⟩, ⟨some 8, .mv (.tmp 11), none⟩]
def Xn72_6 : C := regL [0, 2, 8, 12, 13] none [⟨some 12, .mv (.tmp 1), none⟩, ⟨some 13, .mv (.const (.int .i64 0)), none⟩]
def Xn72_10 : C := regL [0, 2, 8, 12, 13, 14] none [⟨some 14, .bin 3 .lss (.tmp 13) (.tmp 12), none⟩]
def Xn72_12 : C := .cond (.tmp 14) .skip (.exit 0)
def Xn72_18 : C := regL [0, 2, 8, 9, 12, 13] none [⟨some 15, .mv (.tmp 13), none⟩, ⟨some 9, .mv (.tmp 15), none⟩]
def Xn72_20 : C := regL [0, 2, 8, 9, 12, 13] none [⟨some 16, .mv (.tmp 8), none⟩, ⟨some 17, .mv (.tmp 9), none⟩, ⟨some 18, .mv (.tmp 2), none⟩, ⟨some 19, .mv (.tmp 0), none⟩, ⟨some 20, .nilc (.tmp 19), none⟩, ⟨some 21, .fa 5 (.tmp 20), none⟩, ⟨some 22, .ld 2 1 false (.tmp 21), none⟩, ⟨some 23, .mv (.tmp 9), none⟩, ⟨some 24, .bin 2 .add (.tmp 22) (.tmp 23), none⟩, ⟨some 25, .callv (.tmp 18) [.tmp 24], none⟩, ⟨some 26, .ia 2 (.tmp 16) (.tmp 17), none⟩, ⟨none, .st 40 2 (.tmp 26) (.tmp 25), none⟩]
def Xn72_22 : C := regL [0, 2, 8, 12, 13, 37] (some [0, 0, 3, 7, 15, 0, 0, 96, 224, 480, 1023]) [⟨some 27, .mv (.tmp 8), none⟩, ⟨some 28, .mv (.tmp 9), none⟩, ⟨some 29, .ia 2 (.tmp 27) (.tmp 28), none⟩, ⟨some 30, .fa 0 (.tmp 29), none⟩, ⟨some 31, .ld 2 1 false (.tmp 30), none⟩, ⟨some 32, .mv (.tmp 8), none⟩, ⟨some 33, .mv (.tmp 9), none⟩, ⟨some 34, .ia 2 (.tmp 32) (.tmp 33), none⟩, ⟨some 35, .fa 1 (.tmp 34), none⟩, ⟨some 36, .ld 2 1 false (.tmp 35), none⟩, ⟨some 37, .bin 2 .gtr (.tmp 31) (.tmp 36), none⟩]
def Xn72_25 : C := regL [6, 7] none [⟨some 6, .mv (.const (.slice none 0 0)), none⟩, ⟨some 7, .mv (.const (.bool false)), none⟩]
def Xn72_24 : C := .seq Xn72_25 .ret
def Xn72_23 : C := .cond (.tmp 37) Xn72_24 .skip
def Xn72_21 : C := .seq Xn72_22 Xn72_23
def Xn72_19 : C := .seq Xn72_20 Xn72_21
def Xn72_17 : C := .seq Xn72_18 Xn72_19
def Xn72_16 : C := .block 1 Xn72_17
def Xn72_28 : C := regL [0, 2, 8, 12, 13] none [⟨some 38, .bin 3 .add (.tmp 13) (.const (.int .i64 1)), none⟩, ⟨some 13, .mv (.tmp 38), none⟩]
def Xn72_15 : C := seqL [0, 2, 8, 12, 13] Xn72_16 Xn72_28
def Xn72_11 : C := seqL [0, 2, 8, 12, 13] Xn72_12 Xn72_15
def Xn72_9 : C := .seq Xn72_10 Xn72_11
/- carried: [13] -/
def Xn72_8 : C := loopL [0, 2, 8, 12, 13] Xn72_9
def Xn72_7 : C := .block 0 Xn72_8
def Xn72_5 : C := .seq Xn72_6 Xn72_7
def Xn72_30 : C := regL [6, 7] none [⟨some 39, .mv (.tmp 8), none⟩, ⟨some 6, .mv (.tmp 39), none⟩, ⟨some 7, .mv (.const (.bool true)), none⟩]
def Xn72_29 : C := .seq Xn72_30 .ret
def Xn72_4 : C := seqL [8] Xn72_5 Xn72_29
def Xn72_2 : C := .seq Xn72_3 Xn72_4
def Xn72_0 : C := .seq Xn72_1 Xn72_2
theorem Xt72 : Text Try.prog 72 Xn72_0 40 3 [.t 6, .t 7] := ⟨⟨Try.f72, [], Try.func72, by kernel_rfl, by kernel_rfl, by kernel_rfl, by kernel_rfl⟩⟩
def Xn73_1 : C := regL [0, 1, 4] none [⟨some 4, .alc 40 (.agg #[.int .i64 0, .int .i64 0]), none⟩]
def Xn73_3 : C := regL [0, 1, 4, 5] none [⟨some 8, .bld (.agg #[.int .i64 0, .int .i64 0]) [(0, 1, .const (.int .i64 (-1073741824))), (1, 1, .const (.int .i64 1073741824))], none⟩, ⟨some 5, .alc 40 (.agg #[.int .i64 0, .int .i64 0]), none⟩, ⟨none, .st 40 2 (.tmp 5) (.tmp 8), none⟩]
def Xn73_6 : C := regL [1, 4, 5, 13, 14, 15] none [⟨some 9, .mv (.tmp 0), none⟩, ⟨some 10, .nilc (.tmp 9), none⟩, ⟨some 11, .fa 0 (.tmp 10), none⟩, ⟨some 12, .fa 0 (.tmp 11), none⟩, ⟨some 13, .ld 22 1 false (.tmp 12), none⟩, ⟨some 14, .len (.tmp 13), none⟩, ⟨some 15, .mv (.const (.int .i64 0)), none⟩]
def Xn73_10 : C := regL [1, 4, 5, 13, 14, 15, 16] none [⟨some 16, .bin 3 .lss (.tmp 15) (.tmp 14), none⟩]
def Xn73_12 : C := .cond (.tmp 16) .skip (.exit 0)
def Xn73_18 : C := regL [1, 4, 5, 7, 13, 14, 15] none [⟨some 17, .ia 11 (.tmp 13) (.tmp 15), none⟩, ⟨some 18, .ld 43 11 true (.tmp 17), none⟩, ⟨some 7, .alc 43 (.agg #[.int .i64 0, .int .i64 0, .int .i64 0, .int .i64 0, .int .i64 0, .int .i64 0, .int .i64 0, .int .i64 0, .int .i64 0, .int .i64 0, .int .i64 0]), none⟩, ⟨none, .st 43 11 (.tmp 7) (.tmp 18), none⟩]
def Xn73_21 : C := regL [1, 4, 5, 7, 13, 14, 15, 22] none [⟨some 19, .fa 0 (.tmp 7), none⟩, ⟨some 20, .ld 2 1 false (.tmp 19), none⟩, ⟨some 21, .mv (.tmp 1), none⟩, ⟨some 22, .bin 2 .leq (.tmp 20) (.tmp 21), none⟩]
def Xn73_23 : C := regL [1, 4, 5, 7, 13, 14, 15] none [⟨some 23, .ld 40 2 true (.tmp 5), none⟩, ⟨some 24, .fa 1 (.tmp 7), none⟩, ⟨some 25, .fa 0 (.tmp 24), none⟩, ⟨some 26, .ld 2 1 false (.tmp 25), none⟩, ⟨some 27, .bld (.agg #[.int .i64 0, .int .i64 0]) [(0, 1, .tmp 26), (1, 1, .const (.int .i64 1073741824))], none⟩, ⟨some 28, .bls 40 2 2 (.agg #[.int .i64 0, .int .i64 0]) [(0, 2, .tmp 23), (2, 2, .tmp 27)], none⟩, ⟨some 29, .call 83 [.tmp 28], none⟩, ⟨none, .st 40 2 (.tmp 5) (.tmp 29), none⟩]
def Xn73_22 : C := .cond (.tmp 22) Xn73_23 .skip
def Xn73_20 : C := .seq Xn73_21 Xn73_22
def Xn73_26 : C := regL [1, 4, 5, 7, 13, 14, 15, 33] none [⟨some 30, .fa 0 (.tmp 7), none⟩, ⟨some 31, .ld 2 1 false (.tmp 30), none⟩, ⟨some 32, .mv (.tmp 1), none⟩, ⟨some 33, .bin 2 .geq (.tmp 31) (.tmp 32), none⟩]
def Xn73_28 : C := regL [1, 4, 5, 13, 14, 15] none [⟨some 34, .ld 40 2 true (.tmp 5), none⟩, ⟨some 35, .fa 1 (.tmp 7), none⟩, ⟨some 36, .fa 1 (.tmp 35), none⟩, ⟨some 37, .ld 2 1 false (.tmp 36), none⟩, ⟨some 38, .bld (.agg #[.int .i64 0, .int .i64 0]) [(0, 1, .const (.int .i64 (-1073741824))), (1, 1, .tmp 37)], none⟩, ⟨some 39, .bls 40 2 2 (.agg #[.int .i64 0, .int .i64 0]) [(0, 2, .tmp 34), (2, 2, .tmp 38)], none⟩, ⟨some 40, .call 83 [.tmp 39], none⟩, ⟨none, .st 40 2 (.tmp 5) (.tmp 40), none⟩]
def Xn73_27 : C := .cond (.tmp 33) Xn73_28 .skip
def Xn73_25 : C := .seq Xn73_26 Xn73_27
def Xn73_19 : C := seqL [1, 4, 5, 7, 13, 14, 15] Xn73_20 Xn73_25
def Xn73_17 : C := .seq Xn73_18 Xn73_19
def Xn73_16 : C := .block 1 Xn73_17
def Xn73_30 : C := regL [1, 4, 5, 13, 14, 15] none [⟨some 41, .bin 3 .add (.tmp 15) (.const (.int .i64 1)), none⟩, ⟨some 15, .mv (.tmp 41), none⟩]
def Xn73_15 : C := seqL [1, 4, 5, 13, 14, 15] Xn73_16 Xn73_30
def Xn73_11 : C := seqL [1, 4, 5, 13, 14, 15] Xn73_12 Xn73_15
def Xn73_9 : C := .seq Xn73_10 Xn73_11
/- carried: [15] -/
def Xn73_8 : C := loopL [1, 4, 5, 13, 14, 15] Xn73_9
def Xn73_7 : C := .block 0 Xn73_8
def Xn73_5 : C := .seq Xn73_6 Xn73_7
def Xn73_32 : C := regL [4] none [⟨some 42, .ld 40 2 true (.tmp 5), none⟩, ⟨none, .st 40 2 (.tmp 4) (.tmp 42), none⟩]
def Xn73_31 : C := .seq Xn73_32 .ret
def Xn73_4 : C := seqL [4, 5] Xn73_5 Xn73_31
def Xn73_2 : C := .seq Xn73_3 Xn73_4
def Xn73_0 : C := .seq Xn73_1 Xn73_2
theorem Xt73 : Text Try.prog 73 Xn73_0 43 2 [.c 4 2 true] := ⟨⟨Try.f73, [], Try.func73, by kernel_rfl, by kernel_rfl, by kernel_rfl, by kernel_rfl⟩⟩
def Xn74_1 : C := regL [2, 3] none [⟨some 2, .box true 79 (.tmp 0), none⟩, ⟨some 3, .box true 3 (.tmp 1), none⟩, ⟨some 4, .mv (.const (.nilFunc)), none⟩]
def Xn74_3 : C := regL [4] none [⟨some 5, .mkf 84 [] [.tmp 2, .tmp 3], none⟩, ⟨some 4, .mv (.tmp 5), none⟩]
def Xn74_2 : C := .seq Xn74_3 .ret
def Xn74_0 : C := .seq Xn74_1 Xn74_2
theorem Xt74 : Text Try.prog 74 Xn74_0 6 2 [.t 4] := ⟨⟨Try.f74, [2, 3], Try.func74, by kernel_rfl, by kernel_rfl, by kernel_rfl, by kernel_rfl⟩⟩
/- carried: [8] -/
/- carried: [5] -/
def Xn77_1 : C := regL [2, 3] none [⟨some 2, .box true 79 (.tmp 0), none⟩, ⟨some 3, .box true 27 (.tmp 1), none⟩, ⟨some 4, .mv (.const (.nilFunc)), none⟩]
def Xn77_3 : C := regL [4] none [⟨some 5, .mkf 85 [] [.tmp 2, .tmp 3], none⟩, ⟨some 4, .mv (.tmp 5), none⟩]
def Xn77_2 : C := .seq Xn77_3 .ret
def Xn77_0 : C := .seq Xn77_1 Xn77_2
theorem Xt77 : Text Try.prog 77 Xn77_0 6 2 [.t 4] := ⟨⟨Try.f77, [2, 3], Try.func77, by kernel_rfl, by kernel_rfl, by kernel_rfl, by kernel_rfl⟩⟩
def Xn80_1 : C := regL [2, 3, 4] none [⟨some 3, .box true 25 (.tmp 0), none⟩, ⟨some 4, .box true 27 (.tmp 1), none⟩, ⟨some 6, .mv (.const (.bool false)), none⟩]
def Xn80_3 : C := regL [6] (some [0, 0, 3, 0, 8, 31, 63, 127, 127, 383, 1023, 127, 2175, 8191, 16383, 32767]) [⟨some 7, .ld 25 5 true (.tmp 3), none⟩, ⟨some 8, .mv (.tmp 2), none⟩, ⟨some 9, .call 45 [.tmp 7, .tmp 8], none⟩, ⟨some 10, .fa 4 (.tmp 4), none⟩, ⟨some 11, .ld 2 1 false (.tmp 10), none⟩, ⟨some 12, .bin 2 .geq (.tmp 9) (.tmp 11), none⟩, ⟨some 13, .mv (.tmp 12), none⟩, ⟨some 14, .ld 25 5 true (.tmp 3), some (13, true)⟩, ⟨some 15, .mv (.tmp 2), some (13, true)⟩, ⟨some 16, .bin 3 .add (.tmp 15) (.const (.int .i64 1)), some (13, true)⟩, ⟨some 17, .call 45 [.tmp 14, .tmp 16], some (13, true)⟩, ⟨some 18, .fa 5 (.tmp 4), some (13, true)⟩, ⟨some 19, .ld 2 1 false (.tmp 18), some (13, true)⟩, ⟨some 20, .bin 2 .leq (.tmp 17) (.tmp 19), some (13, true)⟩, ⟨some 21, .pick 13 (.tmp 20) (.const (.bool false)), none⟩, ⟨some 6, .mv (.tmp 21), none⟩]
def Xn80_2 : C := .seq Xn80_3 .ret
def Xn80_0 : C := .seq Xn80_1 Xn80_2
theorem Xt80 : Text Try.prog 80 Xn80_0 22 3 [.t 6] := ⟨⟨Try.f80, [3, 4], Try.func80, by kernel_rfl, by kernel_rfl, by kernel_rfl, by kernel_rfl⟩⟩
def Xn81_1 : C := regL [0, 1] none [⟨some 4, .mv (.const (.int .i64 0)), none⟩]
def Xn81_4 : C := regL [0, 1, 7, 8] none [⟨some 6, .mv (.tmp 0), none⟩, ⟨some 7, .len (.tmp 6), none⟩, ⟨some 8, .mv (.const (.int .i64 0)), none⟩]
def Xn81_8 : C := regL [0, 1, 7, 8, 9] none [⟨some 9, .bin 3 .lss (.tmp 8) (.tmp 7), none⟩]
def Xn81_10 : C := .cond (.tmp 9) .skip (.exit 0)
def Xn81_16 : C := regL [0, 1, 5, 7, 8] none [⟨some 10, .mv (.tmp 8), none⟩, ⟨some 5, .mv (.tmp 10), none⟩]
def Xn81_18 : C := regL [0, 1, 5, 7, 8, 16] none [⟨some 11, .mv (.tmp 1), none⟩, ⟨some 12, .mv (.tmp 0), none⟩, ⟨some 13, .mv (.tmp 5), none⟩, ⟨some 14, .ia 1 (.tmp 12) (.tmp 13), none⟩, ⟨some 15, .ld 2 1 false (.tmp 14), none⟩, ⟨some 16, .callv (.tmp 11) [.tmp 15], none⟩]
def Xn81_21 : C := regL [4] none [⟨some 17, .mv (.tmp 5), none⟩, ⟨some 4, .mv (.tmp 17), none⟩]
def Xn81_20 : C := .seq Xn81_21 .ret
def Xn81_19 : C := .cond (.tmp 16) Xn81_20 .skip
def Xn81_17 : C := .seq Xn81_18 Xn81_19
def Xn81_15 : C := .seq Xn81_16 Xn81_17
def Xn81_14 : C := .block 1 Xn81_15
def Xn81_24 : C := regL [0, 1, 7, 8] none [⟨some 18, .bin 3 .add (.tmp 8) (.const (.int .i64 1)), none⟩, ⟨some 8, .mv (.tmp 18), none⟩]
def Xn81_13 : C := seqL [0, 1, 7, 8] Xn81_14 Xn81_24
def Xn81_9 : C := seqL [0, 1, 7, 8] Xn81_10 Xn81_13
def Xn81_7 : C := .seq Xn81_8 Xn81_9
/- carried: [8] -/
def Xn81_6 : C := loopL [0, 1, 7, 8] Xn81_7
def Xn81_5 : C := .block 0 Xn81_6
def Xn81_3 : C := .seq Xn81_4 Xn81_5
def Xn81_26 : C := regL [4] none [⟨some 4, .mv (.const (.int .i64 (-1))), none⟩]
def Xn81_25 : C := .seq Xn81_26 .ret
def Xn81_2 : C := seqL [] Xn81_3 Xn81_25
def Xn81_0 : C := .seq Xn81_1 Xn81_2
theorem Xt81 : Text Try.prog 81 Xn81_0 19 2 [.t 4] := ⟨⟨Try.f81, [], Try.func81, by kernel_rfl, by kernel_rfl, by kernel_rfl, by kernel_rfl⟩⟩
def Xn82_1 : C := regL [0, 1] none [⟨some 4, .mv (.const (.int .i64 0)), none⟩]
def Xn82_4 : C := regL [0, 1, 7, 8] none [⟨some 6, .mv (.tmp 0), none⟩, ⟨some 7, .len (.tmp 6), none⟩, ⟨some 8, .mv (.const (.int .i64 0)), none⟩]
def Xn82_8 : C := regL [0, 1, 7, 8, 9] none [⟨some 9, .bin 3 .lss (.tmp 8) (.tmp 7), none⟩]
def Xn82_10 : C := .cond (.tmp 9) .skip (.exit 0)
def Xn82_16 : C := regL [0, 1, 5, 7, 8] none [⟨some 10, .mv (.tmp 8), none⟩, ⟨some 5, .mv (.tmp 10), none⟩]
def Xn82_18 : C := regL [0, 1, 5, 7, 8, 16] none [⟨some 11, .mv (.tmp 1), none⟩, ⟨some 12, .mv (.tmp 0), none⟩, ⟨some 13, .mv (.tmp 5), none⟩, ⟨some 14, .ia 2 (.tmp 12) (.tmp 13), none⟩, ⟨some 15, .ld 40 2 true (.tmp 14), none⟩, ⟨some 16, .callv (.tmp 11) [.tmp 15], none⟩]
def Xn82_21 : C := regL [4] none [⟨some 17, .mv (.tmp 5), none⟩, ⟨some 4, .mv (.tmp 17), none⟩]
def Xn82_20 : C := .seq Xn82_21 .ret
def Xn82_19 : C := .cond (.tmp 16) Xn82_20 .skip
def Xn82_17 : C := .seq Xn82_18 Xn82_19
def Xn82_15 : C := .seq Xn82_16 Xn82_17
def Xn82_14 : C := .block 1 Xn82_15
def Xn82_24 : C := regL [0, 1, 7, 8] none [⟨some 18, .bin 3 .add (.tmp 8) (.const (.int .i64 1)), none⟩, ⟨some 8, .mv (.tmp 18), none⟩]
def Xn82_13 : C := seqL [0, 1, 7, 8] Xn82_14 Xn82_24
def Xn82_9 : C := seqL [0, 1, 7, 8] Xn82_10 Xn82_13
def Xn82_7 : C := .seq Xn82_8 Xn82_9
/- carried: [8] -/
def Xn82_6 : C := loopL [0, 1, 7, 8] Xn82_7
def Xn82_5 : C := .block 0 Xn82_6
def Xn82_3 : C := .seq Xn82_4 Xn82_5
def Xn82_26 : C := regL [4] none [⟨some 4, .mv (.const (.int .i64 (-1))), none⟩]
def Xn82_25 : C := .seq Xn82_26 .ret
def Xn82_2 : C := seqL [] Xn82_3 Xn82_25
def Xn82_0 : C := .seq Xn82_1 Xn82_2
theorem Xt82 : Text Try.prog 82 Xn82_0 19 2 [.t 4] := ⟨⟨Try.f82, [], Try.func82, by kernel_rfl, by kernel_rfl, by kernel_rfl, by kernel_rfl⟩⟩
def Xn83_1 : C := regL [0, 2] none [⟨some 2, .alc 40 (.agg #[.int .i64 0, .int .i64 0]), none⟩]
def Xn83_3 : C := regL [0, 2, 3] none [⟨some 6, .mv (.tmp 0), none⟩, ⟨some 7, .ia 2 (.tmp 6) (.const (.int .i64 0)), none⟩, ⟨some 8, .ld 40 2 true (.tmp 7), none⟩, ⟨some 3, .alc 40 (.agg #[.int .i64 0, .int .i64 0]), none⟩, ⟨none, .st 40 2 (.tmp 3) (.tmp 8), none⟩]
def Xn83_6 : C := regL [2, 3, 10, 11, 12] none [⟨some 9, .mv (.tmp 0), none⟩, ⟨some 10, .slc 92 2 (.tmp 9) (some (.const (.int .i64 1))) none, none⟩, ⟨some 11, .len (.tmp 10), none⟩, ⟨some 12, .mv (.const (.int .i64 0)), none⟩]
def Xn83_10 : C := regL [2, 3, 10, 11, 12, 13] none [⟨some 13, .bin 3 .lss (.tmp 12) (.tmp 11), none⟩]
def Xn83_12 : C := .cond (.tmp 13) .skip (.exit 0)
def Xn83_18 : C := regL [2, 3, 5, 10, 11, 12] none [⟨some 14, .ia 2 (.tmp 10) (.tmp 12), none⟩, ⟨some 15, .ld 40 2 true (.tmp 14), none⟩, ⟨some 5, .alc 40 (.agg #[.int .i64 0, .int .i64 0]), none⟩, ⟨none, .st 40 2 (.tmp 5) (.tmp 15), none⟩]
def Xn83_19 : C := regL [2, 3, 10, 11, 12] (some [0, 1, 0, 4, 15, 0, 32, 0, 128, 480, 127, 1151, 4095, 8191]) [⟨some 16, .fa 0 (.tmp 3), none⟩, ⟨some 17, .ld 2 1 false (.tmp 16), none⟩, ⟨some 18, .fa 0 (.tmp 5), none⟩, ⟨some 19, .ld 2 1 false (.tmp 18), none⟩, ⟨some 20, .mx [.tmp 17, .tmp 19], none⟩, ⟨some 21, .fa 1 (.tmp 3), none⟩, ⟨some 22, .ld 2 1 false (.tmp 21), none⟩, ⟨some 23, .fa 1 (.tmp 5), none⟩, ⟨some 24, .ld 2 1 false (.tmp 23), none⟩, ⟨some 25, .mn [.tmp 22, .tmp 24], none⟩, ⟨some 26, .fa 0 (.tmp 3), none⟩, ⟨none, .st 2 1 (.tmp 26) (.tmp 20), none⟩, ⟨some 27, .fa 1 (.tmp 3), none⟩, ⟨none, .st 2 1 (.tmp 27) (.tmp 25), none⟩]
def Xn83_17 : C := .seq Xn83_18 Xn83_19
def Xn83_16 : C := .block 1 Xn83_17
def Xn83_20 : C := regL [2, 3, 10, 11, 12] none [⟨some 28, .bin 3 .add (.tmp 12) (.const (.int .i64 1)), none⟩, ⟨some 12, .mv (.tmp 28), none⟩]
def Xn83_15 : C := seqL [2, 3, 10, 11, 12] Xn83_16 Xn83_20
def Xn83_11 : C := seqL [2, 3, 10, 11, 12] Xn83_12 Xn83_15
def Xn83_9 : C := .seq Xn83_10 Xn83_11
/- carried: [12] -/
def Xn83_8 : C := loopL [2, 3, 10, 11, 12] Xn83_9
def Xn83_7 : C := .block 0 Xn83_8
def Xn83_5 : C := .seq Xn83_6 Xn83_7
def Xn83_22 : C := regL [2] none [⟨some 29, .ld 40 2 true (.tmp 3), none⟩, ⟨none, .st 40 2 (.tmp 2) (.tmp 29), none⟩]
def Xn83_21 : C := .seq Xn83_22 .ret
def Xn83_4 : C := seqL [2, 3] Xn83_5 Xn83_21
def Xn83_2 : C := .seq Xn83_3 Xn83_4
def Xn83_0 : C := .seq Xn83_1 Xn83_2
theorem Xt83 : Text Try.prog 83 Xn83_0 30 1 [.c 2 2 true] := ⟨⟨Try.f83, [], Try.func83, by kernel_rfl, by kernel_rfl, by kernel_rfl, by kernel_rfl⟩⟩
def Xn84_1 : C := regL [0, 1, 2, 4] none [⟨some 4, .alc 40 (.agg #[.int .i64 0, .int .i64 0]), none⟩]
def Xn84_3 : C := regL [0, 1, 2, 4, 5] none [⟨some 5, .mv (.const (.slice none 0 0)), none⟩]
def Xn84_6 : C := regL [0, 1, 2, 4, 5, 13, 14, 15] none [⟨some 9, .ld 79 1 false (.tmp 1), none⟩, ⟨some 10, .nilc (.tmp 9), none⟩, ⟨some 11, .fa 0 (.tmp 10), none⟩, ⟨some 12, .fa 0 (.tmp 11), none⟩, ⟨some 13, .ld 22 1 false (.tmp 12), none⟩, ⟨some 14, .len (.tmp 13), none⟩, ⟨some 15, .mv (.const (.int .i64 0)), none⟩]
def Xn84_10 : C := regL [0, 1, 2, 4, 5, 13, 14, 15, 16] none [⟨some 16, .bin 3 .lss (.tmp 15) (.tmp 14), none⟩]
def Xn84_12 : C := .cond (.tmp 16) .skip (.exit 0)
def Xn84_18 : C := regL [0, 1, 2, 4, 5, 7, 13, 14, 15] none [⟨some 17, .ia 11 (.tmp 13) (.tmp 15), none⟩, ⟨some 18, .ld 43 11 true (.tmp 17), none⟩, ⟨some 7, .alc 43 (.agg #[.int .i64 0, .int .i64 0, .int .i64 0, .int .i64 0, .int .i64 0, .int .i64 0, .int .i64 0, .int .i64 0, .int .i64 0, .int .i64 0, .int .i64 0]), none⟩, ⟨none, .st 43 11 (.tmp 7) (.tmp 18), none⟩]
def Xn84_20 : C := regL [0, 1, 2, 4, 5, 7, 8, 13, 14, 15] (some [0, 0, 1, 5, 13, 31, 63, 0, 128, 0, 896, 0, 0, 4096, 14336, 32640, 65535, 131071]) [⟨some 19, .ld 79 1 false (.tmp 1), none⟩, ⟨some 20, .ld 3 1 false (.tmp 2), none⟩, ⟨some 21, .nilc (.tmp 19), none⟩, ⟨some 22, .fa 0 (.tmp 21), none⟩, ⟨some 23, .fa 1 (.tmp 22), none⟩, ⟨some 24, .iaa 4 1 (.tmp 23) (.tmp 20), none⟩, ⟨some 25, .ld 2 1 false (.tmp 24), none⟩, ⟨some 26, .fa 0 (.tmp 7), none⟩, ⟨some 27, .ld 2 1 false (.tmp 26), none⟩, ⟨some 28, .mv (.tmp 0), none⟩, ⟨some 29, .bin 2 .sub (.tmp 27) (.tmp 28), none⟩, ⟨some 30, .mv (.tmp 0), none⟩, ⟨some 31, .fa 0 (.tmp 7), none⟩, ⟨some 32, .ld 2 1 false (.tmp 31), none⟩, ⟨some 33, .bin 2 .sub (.tmp 30) (.tmp 32), none⟩, ⟨some 34, .mx [.tmp 29, .tmp 33], none⟩, ⟨some 35, .bin 2 .mul (.tmp 25) (.tmp 34), none⟩, ⟨some 8, .mv (.tmp 35), none⟩]
def Xn84_21 : C := regL [0, 1, 2, 4, 5, 13, 14, 15] (some [0, 0, 0, 6, 14, 30, 0, 126, 0, 0, 768, 1792, 3840, 0, 16128, 32766, 65534, 131071, 262143]) [⟨some 36, .mv (.tmp 5), none⟩, ⟨some 37, .ld 3 1 false (.tmp 2), none⟩, ⟨some 38, .fa 3 (.tmp 7), none⟩, ⟨some 39, .iaa 4 2 (.tmp 38) (.tmp 37), none⟩, ⟨some 40, .fa 0 (.tmp 39), none⟩, ⟨some 41, .ld 2 1 false (.tmp 40), none⟩, ⟨some 42, .mv (.tmp 8), none⟩, ⟨some 43, .bin 2 .sub (.tmp 41) (.tmp 42), none⟩, ⟨some 44, .ld 3 1 false (.tmp 2), none⟩, ⟨some 45, .fa 3 (.tmp 7), none⟩, ⟨some 46, .iaa 4 2 (.tmp 45) (.tmp 44), none⟩, ⟨some 47, .fa 1 (.tmp 46), none⟩, ⟨some 48, .ld 2 1 false (.tmp 47), none⟩, ⟨some 49, .mv (.tmp 8), none⟩, ⟨some 50, .bin 2 .add (.tmp 48) (.tmp 49), none⟩, ⟨some 51, .bld (.agg #[.int .i64 0, .int .i64 0]) [(0, 1, .tmp 43), (1, 1, .tmp 50)], none⟩, ⟨some 52, .bls 40 2 1 (.agg #[.int .i64 0, .int .i64 0]) [(0, 2, .tmp 51)], none⟩, ⟨some 53, .app 40 2 16 (.tmp 36) (.tmp 52), none⟩, ⟨some 5, .mv (.tmp 53), none⟩]
def Xn84_19 : C := .seq Xn84_20 Xn84_21
def Xn84_17 : C := .seq Xn84_18 Xn84_19
def Xn84_16 : C := .block 1 Xn84_17
def Xn84_22 : C := regL [0, 1, 2, 4, 5, 13, 14, 15] none [⟨some 54, .bin 3 .add (.tmp 15) (.const (.int .i64 1)), none⟩, ⟨some 15, .mv (.tmp 54), none⟩]
def Xn84_15 : C := seqL [0, 1, 2, 4, 5, 13, 14, 15] Xn84_16 Xn84_22
def Xn84_11 : C := seqL [0, 1, 2, 4, 5, 13, 14, 15] Xn84_12 Xn84_15
def Xn84_9 : C := .seq Xn84_10 Xn84_11
/- carried: [5, 15] -/
def Xn84_8 : C := loopL [0, 1, 2, 4, 5, 13, 14, 15] Xn84_9
def Xn84_7 : C := .block 0 Xn84_8
def Xn84_5 : C := .seq Xn84_6 Xn84_7
def Xn84_24 : C := regL [4] none [⟨some 55, .mv (.tmp 5), none⟩, ⟨some 56, .call 83 [.tmp 55], none⟩, ⟨none, .st 40 2 (.tmp 4) (.tmp 56), none⟩]
def Xn84_23 : C := .seq Xn84_24 .ret
def Xn84_4 : C := seqL [4, 5] Xn84_5 Xn84_23
def Xn84_2 : C := .seq Xn84_3 Xn84_4
def Xn84_0 : C := .seq Xn84_1 Xn84_2
theorem Xt84 : Text Try.prog 84 Xn84_0 57 3 [.c 4 2 true] := ⟨⟨Try.f84, [], Try.func84, by kernel_rfl, by kernel_rfl, by kernel_rfl, by kernel_rfl⟩⟩
def Xn85_1 : C := regL [0, 1, 2, 7, 8] none [⟨some 6, .ld 79 1 false (.tmp 1), none⟩, ⟨some 7, .call 86 [.tmp 6], none⟩, ⟨some 8, .mv (.const (.int .i64 0)), none⟩]
def Xn85_5 : C := regL [0, 1, 2, 7, 8, 9] none [⟨some 9, .bin 3 .lss (.tmp 8) (.tmp 7), none⟩]
def Xn85_7 : C := .cond (.tmp 9) .skip (.exit 0)
def Xn85_13 : C := regL [0, 1, 2, 4, 7, 8] none [⟨some 10, .mv (.tmp 8), none⟩, ⟨some 4, .mv (.tmp 10), none⟩]
def Xn85_15 : C := regL [0, 1, 2, 4, 5, 7, 8] none [⟨some 11, .ld 79 1 false (.tmp 1), none⟩, ⟨some 12, .nilc (.tmp 11), none⟩, ⟨some 13, .fa 5 (.tmp 12), none⟩, ⟨some 14, .ld 2 1 false (.tmp 13), none⟩, ⟨some 15, .mv (.tmp 4), none⟩, ⟨some 16, .bin 2 .add (.tmp 14) (.tmp 15), none⟩, ⟨some 5, .mv (.tmp 16), none⟩]
def Xn85_17 : C := regL [0, 1, 2, 7, 8, 33] none [⟨some 17, .mv (.tmp 5), none⟩, ⟨some 18, .fa 4 (.tmp 2), none⟩, ⟨some 19, .ld 2 1 false (.tmp 18), none⟩, ⟨some 20, .bin 2 .geq (.tmp 17) (.tmp 19), none⟩, ⟨some 21, .mv (.tmp 20), none⟩, ⟨some 22, .mv (.tmp 5), some (21, true)⟩, ⟨some 23, .bin 2 .add (.tmp 22) (.const (.int .i64 1)), some (21, true)⟩, ⟨some 24, .fa 5 (.tmp 2), some (21, true)⟩, ⟨some 25, .ld 2 1 false (.tmp 24), some (21, true)⟩, ⟨some 26, .bin 2 .leq (.tmp 23) (.tmp 25), some (21, true)⟩, ⟨some 27, .pick 21 (.tmp 26) (.const (.bool false)), none⟩, ⟨some 28, .mv (.tmp 27), none⟩, ⟨some 29, .mv (.tmp 0), some (28, true)⟩, ⟨some 30, .mv (.tmp 4), some (28, true)⟩, ⟨some 31, .callv (.tmp 29) [.tmp 30], some (28, true)⟩, ⟨some 32, .un .not (.tmp 31), some (28, true)⟩, ⟨some 33, .pick 28 (.tmp 32) (.const (.bool false)), none⟩]
def Xn85_18 : C := .cond (.tmp 33) .ret .skip
def Xn85_16 : C := .seq Xn85_17 Xn85_18
def Xn85_14 : C := .seq Xn85_15 Xn85_16
def Xn85_12 : C := .seq Xn85_13 Xn85_14
def Xn85_11 : C := .block 1 Xn85_12
def Xn85_21 : C := regL [0, 1, 2, 7, 8] none [⟨some 34, .bin 3 .add (.tmp 8) (.const (.int .i64 1)), none⟩, ⟨some 8, .mv (.tmp 34), none⟩]
def Xn85_10 : C := seqL [0, 1, 2, 7, 8] Xn85_11 Xn85_21
def Xn85_6 : C := seqL [0, 1, 2, 7, 8] Xn85_7 Xn85_10
def Xn85_4 : C := .seq Xn85_5 Xn85_6
/- carried: [8] -/
def Xn85_3 : C := loopL [0, 1, 2, 7, 8] Xn85_4
def Xn85_2 : C := .block 0 Xn85_3
def Xn85_0 : C := .seq Xn85_1 Xn85_2
theorem Xt85 : Text Try.prog 85 Xn85_0 35 3 [] := ⟨⟨Try.f85, [], Try.func85, by kernel_rfl, by kernel_rfl, by kernel_rfl, by kernel_rfl⟩⟩
def Xn86_1 : C := regL [0] none [⟨some 2, .mv (.const (.int .i64 0)), none⟩]
def Xn86_3 : C := regL [2] none [⟨some 3, .mv (.tmp 0), none⟩, ⟨some 4, .nilc (.tmp 3), none⟩, ⟨some 5, .fa 6 (.tmp 4), none⟩, ⟨some 6, .ld 92 1 false (.tmp 5), none⟩, ⟨some 7, .len (.tmp 6), none⟩, ⟨some 8, .bin 3 .sub (.tmp 7) (.const (.int .i64 1)), none⟩, ⟨some 2, .mv (.tmp 8), none⟩]
def Xn86_2 : C := .seq Xn86_3 .ret
def Xn86_0 : C := .seq Xn86_1 Xn86_2
theorem Xt86 : Text Try.prog 86 Xn86_0 9 1 [.t 2] := ⟨⟨Try.f86, [], Try.func86, by kernel_rfl, by kernel_rfl, by kernel_rfl, by kernel_rfl⟩⟩
end Go.Proofs.Ytgijpimjfoabjaa

/- The reference's small functions of chapter 11. -/
namespace Go.Proofs.Ytgijpimjfoabjaa
open Go Sy
set_option maxRecDepth 100000
set_option maxHeartbeats 4000000
set_option linter.unusedVariables false
set_option linter.unusedSimpArgs false

theorem mixed : Try.prog.follows .mixedOrders = true := by kernel_rfl

structure Band where
  lo : Int
  hi : Int
structure Reading where
  at_ : Int
  place : Band
  v0 : Band
  v1 : Band
  v2 : Band
  v3 : Band
structure Log where
  rs : List Reading
  d0 : Int
  d1 : Int
  d2 : Int
  d3 : Int
abbrev iv (n : Int) : AV := .v (.int .i64 n)
abbrev bv (b : Bool) : AV := .v (.bool b)
abbrev cBand (b : Band) : List AV := [iv b.lo, iv b.hi]
def cR (r : Reading) : List AV := [iv r.at_, iv r.place.lo, iv r.place.hi, iv r.v0.lo, iv r.v0.hi, iv r.v1.lo, iv r.v1.hi, iv r.v2.lo, iv r.v2.hi, iv r.v3.lo, iv r.v3.hi]
def dB : Band := ⟨0, 0⟩
def dR : Reading := ⟨0, dB, dB, dB, dB, dB⟩
def cLog (l : Log) : List AV := [.sl 11 dR cR l.rs, iv l.d0, iv l.d1, iv l.d2, iv l.d3]
abbrev aLog (l : Log) : AV := .agg (cLog l)

theorem nR0 (r : Reading) : nth (cR r) 0 = iv r.at_ := rfl
theorem nR1 (r : Reading) : nth (cR r) 1 = iv r.place.lo := rfl
theorem nR2 (r : Reading) : nth (cR r) 2 = iv r.place.hi := rfl
def vals (r : Reading) : Nat → Band
  | 0 => r.v0
  | 1 => r.v1
  | 2 => r.v2
  | _ => r.v3
def drift (l : Log) : Nat → Int
  | 0 => l.d0
  | 1 => l.d1
  | 2 => l.d2
  | _ => l.d3
theorem nL0 (l : Log) : nth (cLog l) 0 = .sl 11 dR cR l.rs := rfl
theorem nLd (l : Log) (k : Nat) (h : k < 4) : nth (cLog l) (1 + k * 1) = iv (drift l k) := by
  rcases k with _ | _ | _ | _ | k <;> first | rfl | omega
theorem lL (l : Log) : (cLog l).length = 5 := rfl
theorem tL (l : Log) : List.take 5 (cLog l) = cLog l := rfl
theorem frL (l : Log) : frzAll (cLog l) = true := rfl
theorem nRl (r : Reading) (k : Nat) (h : k < 4) : nth (cR r) (3 + k * 2) = iv (vals r k).lo := by
  rcases k with _ | _ | _ | _ | k <;> first | rfl | omega
theorem nRh (r : Reading) (k : Nat) (h : k < 4) : nth (cR r) (3 + k * 2 + 1) = iv (vals r k).hi := by
  rcases k with _ | _ | _ | _ | k <;> first | rfl | omega
theorem lR (r : Reading) : (cR r).length = 11 := rfl
theorem cR_all (r : Reading) : List.take 11 (cR r) = cR r := rfl
theorem frR (r : Reading) : frzAll (cR r) = true := rfl
theorem iR {m : Nat → Option Blk} {n : Nat} (r : Reading) : List.flatMap (ids m n) (cR r) = [] := flat_frz n _ (frR r)
theorem iL {m : Nat → Option Blk} {n : Nat} (l : Log) : List.flatMap (ids m n) (cLog l) = [] := flat_frz n _ (frL l)
theorem tRp (r : Reading) : List.take 2 (List.drop 1 (cR r)) = cBand r.place := rfl
theorem tRv (r : Reading) (k : Nat) (h : k < 4) : List.take 2 (List.drop (3 + k * 2) (cR r)) = cBand (vals r k) := by
  rcases k with _ | _ | _ | _ | k <;> first | rfl | omega
attribute [push_cast] nR0 nR1 nR2 nRl nRh lR cR_all frR iR iL nL0 nLd lL tL frL tRp tRv gt_iff_lt ge_iff_le Int.toNat_one
/-- in -/
theorem fn50 (x lo hi : Int) : Sy.Fn Try.prog 50 [iv x, iv lo, iv hi] (bv (decide (lo ≤ x) && decide (x ≤ hi))) := by
  refine Fn_of_W mixed Xt50 rfl ?_
  repeat' (first | refine WK_go ?_ | refine W_seqL ?_ | refine W_seq ?_ | (refine W_regL ?_; simp (maxSteps := 400000) (disch := omega) only [push_cast, ↓reduceIte, reduceCtorEq, Nat.reduceAdd, Nat.reduceSub, Nat.reduceEqDiff, Nat.reduceLeDiff, Nat.reduceLT, Nat.reduceBEq, Nat.reduceDiv, Nat.reduceMod, Nat.reducePow, Nat.reduceMul, Int.reduceToNat, Int.reduceLT, Int.reduceLE]) | refine W_block ?_ | (refine W_skip ?_; simp (maxSteps := 400000) (disch := omega) only [push_cast, ↓reduceIte, reduceCtorEq, Nat.reduceAdd, Nat.reduceSub, Nat.reduceEqDiff, Nat.reduceLeDiff, Nat.reduceLT, Nat.reduceBEq, Nat.reduceDiv, Nat.reduceMod, Nat.reducePow, Nat.reduceMul, Int.reduceToNat, Int.reduceLT, Int.reduceLE]) | (refine W_exit ?_; simp (maxSteps := 400000) (disch := omega) only [push_cast, ↓reduceIte, reduceCtorEq, Nat.reduceAdd, Nat.reduceSub, Nat.reduceEqDiff, Nat.reduceLeDiff, Nat.reduceLT, Nat.reduceBEq, Nat.reduceDiv, Nat.reduceMod, Nat.reducePow, Nat.reduceMul, Int.reduceToNat, Int.reduceLT, Int.reduceLE]) | refine And.intro (by omega) ?_ | refine And.intro (by intro hq; (try simp only [Bool.and_eq_true, Bool.or_eq_true, Bool.and_eq_false_iff, Bool.or_eq_false_iff, decide_eq_true_eq, decide_eq_false_iff_not, Bool.not_eq_true', Bool.not_eq_false', beq_iff_eq, beq_eq_false_iff_ne, ne_eq] at hq); omega) ?_ | fail)
  exact W_ret ⟨[_], ⟨rfl, rfl⟩, rfl⟩
def okBand (b : Band) : Bool := decide (b.lo ≤ b.hi) && decide (-1073741824 ≤ b.lo) && decide (b.hi ≤ 1073741824)
/-- band -/
theorem fn52 (b : Band) : Sy.Fn Try.prog 52 [.agg (cBand b)] (bv (okBand b)) := by
  refine Fn_of_W mixed Xt52 rfl ?_
  repeat' (first | refine WK_go ?_ | refine W_seqL ?_ | refine W_seq ?_ | (refine W_regL ?_; simp (maxSteps := 400000) (disch := omega) only [push_cast, ↓reduceIte, reduceCtorEq, Nat.reduceAdd, Nat.reduceSub, Nat.reduceEqDiff, Nat.reduceLeDiff, Nat.reduceLT, Nat.reduceBEq, Nat.reduceDiv, Nat.reduceMod, Nat.reducePow, Nat.reduceMul, Int.reduceToNat, Int.reduceLT, Int.reduceLE]) | refine W_block ?_ | (refine W_skip ?_; simp (maxSteps := 400000) (disch := omega) only [push_cast, ↓reduceIte, reduceCtorEq, Nat.reduceAdd, Nat.reduceSub, Nat.reduceEqDiff, Nat.reduceLeDiff, Nat.reduceLT, Nat.reduceBEq, Nat.reduceDiv, Nat.reduceMod, Nat.reducePow, Nat.reduceMul, Int.reduceToNat, Int.reduceLT, Int.reduceLE]) | (refine W_exit ?_; simp (maxSteps := 400000) (disch := omega) only [push_cast, ↓reduceIte, reduceCtorEq, Nat.reduceAdd, Nat.reduceSub, Nat.reduceEqDiff, Nat.reduceLeDiff, Nat.reduceLT, Nat.reduceBEq, Nat.reduceDiv, Nat.reduceMod, Nat.reducePow, Nat.reduceMul, Int.reduceToNat, Int.reduceLT, Int.reduceLE]) | refine And.intro (by omega) ?_ | refine And.intro (by intro hq; (try simp only [Bool.and_eq_true, Bool.or_eq_true, Bool.and_eq_false_iff, Bool.or_eq_false_iff, decide_eq_true_eq, decide_eq_false_iff_not, Bool.not_eq_true', Bool.not_eq_false', beq_iff_eq, beq_eq_false_iff_ne, ne_eq] at hq); omega) ?_ | fail)
  exact W_ret ⟨[_], ⟨rfl, rfl⟩, rfl⟩
def rd (l : Log) (i : Nat) : Reading := l.rs.getD i dR
def t0 (l : Log) : Int := (rd l 0).at_
def tn (l : Log) : Int := (rd l (l.rs.length - 1)).at_
/-- last -/
theorem fn53 (l : Log) (h2 : 1 ≤ l.rs.length) (h3 : l.rs.length ≤ 1000000) (h4 : -2305843009213693952 ≤ tn l ∧ tn l ≤ 2305843009213693952) (h5 : -2305843009213693952 ≤ t0 l ∧ t0 l ≤ 2305843009213693952) : Sy.Fn Try.prog 53 [aLog l] (iv (tn l - t0 l)) := by
  refine Fn_of_W mixed Xt53 rfl ?_
  have e : ((l.rs.length : Int) - 1).toNat = l.rs.length - 1 := by omega
  simp only [tn, t0, rd] at h4 h5 ⊢
  repeat' (first | refine WK_go ?_ | refine W_seqL ?_ | refine W_seq ?_ | (refine W_regL ?_; simp (maxSteps := 400000) (disch := omega) only [push_cast, ↓reduceIte, reduceCtorEq, Nat.reduceAdd, Nat.reduceSub, Nat.reduceEqDiff, Nat.reduceLeDiff, Nat.reduceLT, Nat.reduceBEq, Nat.reduceDiv, Nat.reduceMod, Nat.reducePow, Nat.reduceMul, Int.reduceToNat, Int.reduceLT, Int.reduceLE, e]) | refine W_block ?_ | (refine W_skip ?_; simp (maxSteps := 400000) (disch := omega) only [push_cast, ↓reduceIte, reduceCtorEq, Nat.reduceAdd, Nat.reduceSub, Nat.reduceEqDiff, Nat.reduceLeDiff, Nat.reduceLT, Nat.reduceBEq, Nat.reduceDiv, Nat.reduceMod, Nat.reducePow, Nat.reduceMul, Int.reduceToNat, Int.reduceLT, Int.reduceLE, e]) | (refine W_exit ?_; simp (maxSteps := 400000) (disch := omega) only [push_cast, ↓reduceIte, reduceCtorEq, Nat.reduceAdd, Nat.reduceSub, Nat.reduceEqDiff, Nat.reduceLeDiff, Nat.reduceLT, Nat.reduceBEq, Nat.reduceDiv, Nat.reduceMod, Nat.reducePow, Nat.reduceMul, Int.reduceToNat, Int.reduceLT, Int.reduceLE, e]) | refine And.intro (by omega) ?_ | refine And.intro (by intro hq; (try simp only [Bool.and_eq_true, Bool.or_eq_true, Bool.and_eq_false_iff, Bool.or_eq_false_iff, decide_eq_true_eq, decide_eq_false_iff_not, Bool.not_eq_true', Bool.not_eq_false', beq_iff_eq, beq_eq_false_iff_ne, ne_eq] at hq); omega) ?_ | fail)
  exact W_ret ⟨[_], ⟨rfl, rfl⟩, rfl⟩
/-- time -/
theorem fn45 (l : Log) (m : Int) (h2 : 1 ≤ l.rs.length) (h3 : l.rs.length ≤ 1000000) (h5 : -2305843009213693952 ≤ t0 l ∧ t0 l ≤ 2305843009213693952) (h6 : -2305843009213693952 ≤ m ∧ m ≤ 2305843009213693951) : Sy.Fn Try.prog 45 [aLog l, iv m] (iv (t0 l + m)) := by
  refine Fn_of_W mixed Xt45 rfl ?_
  simp only [t0, rd] at h5 ⊢
  repeat' (first | refine WK_go ?_ | refine W_seqL ?_ | refine W_seq ?_ | (refine W_regL ?_; simp (maxSteps := 400000) (disch := omega) only [push_cast, ↓reduceIte, reduceCtorEq, Nat.reduceAdd, Nat.reduceSub, Nat.reduceEqDiff, Nat.reduceLeDiff, Nat.reduceLT, Nat.reduceBEq, Nat.reduceDiv, Nat.reduceMod, Nat.reducePow, Nat.reduceMul, Int.reduceToNat, Int.reduceLT, Int.reduceLE]) | refine W_block ?_ | (refine W_skip ?_; simp (maxSteps := 400000) (disch := omega) only [push_cast, ↓reduceIte, reduceCtorEq, Nat.reduceAdd, Nat.reduceSub, Nat.reduceEqDiff, Nat.reduceLeDiff, Nat.reduceLT, Nat.reduceBEq, Nat.reduceDiv, Nat.reduceMod, Nat.reducePow, Nat.reduceMul, Int.reduceToNat, Int.reduceLT, Int.reduceLE]) | (refine W_exit ?_; simp (maxSteps := 400000) (disch := omega) only [push_cast, ↓reduceIte, reduceCtorEq, Nat.reduceAdd, Nat.reduceSub, Nat.reduceEqDiff, Nat.reduceLeDiff, Nat.reduceLT, Nat.reduceBEq, Nat.reduceDiv, Nat.reduceMod, Nat.reducePow, Nat.reduceMul, Int.reduceToNat, Int.reduceLT, Int.reduceLE]) | refine And.intro (by omega) ?_ | refine And.intro (by intro hq; (try simp only [Bool.and_eq_true, Bool.or_eq_true, Bool.and_eq_false_iff, Bool.or_eq_false_iff, decide_eq_true_eq, decide_eq_false_iff_not, Bool.not_eq_true', Bool.not_eq_false', beq_iff_eq, beq_eq_false_iff_ne, ne_eq] at hq); omega) ?_ | fail)
  exact W_ret ⟨[_], ⟨rfl, rfl⟩, rfl⟩

def pLo (t : Int) : Int → List Reading → Int
  | a, [] => a
  | a, r :: rs => pLo t (if r.at_ ≤ t then max a r.place.lo else a) rs
def pHi (t : Int) : Int → List Reading → Int
  | a, [] => a
  | a, r :: rs => pHi t (if t ≤ r.at_ then min a r.place.hi else a) rs
theorem pLo_append (t : Int) (r : Reading) : ∀ (l : List Reading) (a : Int), pLo t a (l ++ [r]) = if r.at_ ≤ t then max (pLo t a l) r.place.lo else pLo t a l
  | [], a => rfl
  | x :: l, a => pLo_append t r l _
theorem pHi_append (t : Int) (r : Reading) : ∀ (l : List Reading) (a : Int), pHi t a (l ++ [r]) = if t ≤ r.at_ then min (pHi t a l) r.place.hi else pHi t a l
  | [], a => rfl
  | x :: l, a => pHi_append t r l _
theorem take_rd (l : Log) (i : Nat) (h : i < l.rs.length) : l.rs.take (i + 1) = l.rs.take i ++ [rd l i] := by
  rw [List.take_succ_eq_append_getElem h]
  simp [rd, h]
def place (l : Log) (m : Int) : Band := ⟨pLo (t0 l + m) (-1099511627776) l.rs, pHi (t0 l + m) 1099511627776 l.rs⟩
theorem fn16 (l : Log) (m : Int) (h2 : 1 ≤ l.rs.length) (h3 : l.rs.length ≤ 1000000) (h5 : -2305843009213693952 ≤ t0 l ∧ t0 l ≤ 2305843009213693952) (h6 : -2305843009213693952 ≤ m ∧ m ≤ 2305843009213693951) :
    Sy.Fn Try.prog 16 [aLog l, iv m] (.agg (cBand (place l m))) := by
  refine Fn_of_W mixed Xt16 rfl ?_
  have c45 := fn45 l m h2 h3 h5 h6
  repeat' (first | refine WK_go ?_ | refine W_seqL ?_ | refine W_seq ?_ | (refine W_regL ?_; simp (maxSteps := 400000) (disch := omega) only [push_cast, ↓reduceIte, reduceCtorEq, Nat.reduceAdd, Nat.reduceSub, Nat.reduceEqDiff, Nat.reduceLeDiff, Nat.reduceLT, Nat.reduceBEq, Nat.reduceDiv, Nat.reduceMod, Nat.reducePow, Nat.reduceMul, Int.reduceToNat, Int.reduceLT, Int.reduceLE]) | refine W_block ?_ | (refine W_skip ?_; simp (maxSteps := 400000) (disch := omega) only [push_cast, ↓reduceIte, reduceCtorEq, Nat.reduceAdd, Nat.reduceSub, Nat.reduceEqDiff, Nat.reduceLeDiff, Nat.reduceLT, Nat.reduceBEq, Nat.reduceDiv, Nat.reduceMod, Nat.reducePow, Nat.reduceMul, Int.reduceToNat, Int.reduceLT, Int.reduceLE]) | (refine W_exit ?_; simp (maxSteps := 400000) (disch := omega) only [push_cast, ↓reduceIte, reduceCtorEq, Nat.reduceAdd, Nat.reduceSub, Nat.reduceEqDiff, Nat.reduceLeDiff, Nat.reduceLT, Nat.reduceBEq, Nat.reduceDiv, Nat.reduceMod, Nat.reducePow, Nat.reduceMul, Int.reduceToNat, Int.reduceLT, Int.reduceLE]) | refine And.intro (by omega) ?_ | refine And.intro (by intro hq; (try simp only [Bool.and_eq_true, Bool.or_eq_true, Bool.and_eq_false_iff, Bool.or_eq_false_iff, decide_eq_true_eq, decide_eq_false_iff_not, Bool.not_eq_true', Bool.not_eq_false', beq_iff_eq, beq_eq_false_iff_ne, ne_eq] at hq); omega) ?_ | fail)
  refine W_loopU (fun i : Nat => [(6, iv i)]) (fun i => [(3, .cells [iv (pLo (t0 l + m) (-1099511627776) (l.rs.take i)), iv (pHi (t0 l + m) 1099511627776 (l.rs.take i))])]) (fun i => i ≤ l.rs.length) (fun i => l.rs.length - i) 0 (by omega) (by rfl) (by rfl) (fun i hi => ?_)
  simp (maxSteps := 400000) (disch := omega) only [push_cast, ↓reduceIte, reduceCtorEq, Nat.reduceAdd, Nat.reduceSub, Nat.reduceEqDiff, Nat.reduceLeDiff, Nat.reduceLT, Nat.reduceBEq, Nat.reduceDiv, Nat.reduceMod, Nat.reducePow, Nat.reduceMul, Int.reduceToNat, Int.reduceLT, Int.reduceLE]
  repeat' (first | refine WK_go ?_ | refine W_seqL ?_ | refine W_seq ?_ | (refine W_regL ?_; simp (maxSteps := 400000) (disch := omega) only [push_cast, ↓reduceIte, reduceCtorEq, Nat.reduceAdd, Nat.reduceSub, Nat.reduceEqDiff, Nat.reduceLeDiff, Nat.reduceLT, Nat.reduceBEq, Nat.reduceDiv, Nat.reduceMod, Nat.reducePow, Nat.reduceMul, Int.reduceToNat, Int.reduceLT, Int.reduceLE]) | refine W_block ?_ | (refine W_skip ?_; simp (maxSteps := 400000) (disch := omega) only [push_cast, ↓reduceIte, reduceCtorEq, Nat.reduceAdd, Nat.reduceSub, Nat.reduceEqDiff, Nat.reduceLeDiff, Nat.reduceLT, Nat.reduceBEq, Nat.reduceDiv, Nat.reduceMod, Nat.reducePow, Nat.reduceMul, Int.reduceToNat, Int.reduceLT, Int.reduceLE]) | (refine W_exit ?_; simp (maxSteps := 400000) (disch := omega) only [push_cast, ↓reduceIte, reduceCtorEq, Nat.reduceAdd, Nat.reduceSub, Nat.reduceEqDiff, Nat.reduceLeDiff, Nat.reduceLT, Nat.reduceBEq, Nat.reduceDiv, Nat.reduceMod, Nat.reducePow, Nat.reduceMul, Int.reduceToNat, Int.reduceLT, Int.reduceLE]) | refine And.intro (by omega) ?_ | refine And.intro (by intro hq; (try simp only [Bool.and_eq_true, Bool.or_eq_true, Bool.and_eq_false_iff, Bool.or_eq_false_iff, decide_eq_true_eq, decide_eq_false_iff_not, Bool.not_eq_true', Bool.not_eq_false', beq_iff_eq, beq_eq_false_iff_ne, ne_eq] at hq); omega) ?_ | fail)
  refine W_condD (by rfl) (fun h => ?_) (fun h => ?_)
  · have hlt : i < l.rs.length := by omega
    have hr : l.rs.getD i dR = rd l i := rfl
    repeat' (first | refine WK_go ?_ | refine W_seqL ?_ | refine W_seq ?_ | (refine W_regL ?_; simp (maxSteps := 400000) (disch := omega) only [push_cast, ↓reduceIte, reduceCtorEq, Nat.reduceAdd, Nat.reduceSub, Nat.reduceEqDiff, Nat.reduceLeDiff, Nat.reduceLT, Nat.reduceBEq, Nat.reduceDiv, Nat.reduceMod, Nat.reducePow, Nat.reduceMul, Int.reduceToNat, Int.reduceLT, Int.reduceLE, hr]) | refine W_block ?_ | (refine W_skip ?_; simp (maxSteps := 400000) (disch := omega) only [push_cast, ↓reduceIte, reduceCtorEq, Nat.reduceAdd, Nat.reduceSub, Nat.reduceEqDiff, Nat.reduceLeDiff, Nat.reduceLT, Nat.reduceBEq, Nat.reduceDiv, Nat.reduceMod, Nat.reducePow, Nat.reduceMul, Int.reduceToNat, Int.reduceLT, Int.reduceLE, hr]) | (refine W_exit ?_; simp (maxSteps := 400000) (disch := omega) only [push_cast, ↓reduceIte, reduceCtorEq, Nat.reduceAdd, Nat.reduceSub, Nat.reduceEqDiff, Nat.reduceLeDiff, Nat.reduceLT, Nat.reduceBEq, Nat.reduceDiv, Nat.reduceMod, Nat.reducePow, Nat.reduceMul, Int.reduceToNat, Int.reduceLT, Int.reduceLE, hr]) | refine And.intro (by omega) ?_ | refine And.intro (by intro hq; (try simp only [Bool.and_eq_true, Bool.or_eq_true, Bool.and_eq_false_iff, Bool.or_eq_false_iff, decide_eq_true_eq, decide_eq_false_iff_not, Bool.not_eq_true', Bool.not_eq_false', beq_iff_eq, beq_eq_false_iff_ne, ne_eq] at hq); omega) ?_ | (refine CallC.now (c45) ?_; simp (maxSteps := 400000) (disch := omega) only [push_cast, ↓reduceIte, reduceCtorEq, Nat.reduceAdd, Nat.reduceSub, Nat.reduceEqDiff, Nat.reduceLeDiff, Nat.reduceLT, Nat.reduceBEq, Nat.reduceDiv, Nat.reduceMod, Nat.reducePow, Nat.reduceMul, Int.reduceToNat, Int.reduceLT, Int.reduceLE, hr]) | fail)
    refine W_meet [] [(3, .cells [iv (pLo (t0 l + m) (-1099511627776) (l.rs.take (i + 1))), iv (pHi (t0 l + m) 1099511627776 (l.rs.take i))])] ?_ ?_
    · refine W_condD (by rfl) (fun h => ?_) (fun h => ?_)
      · repeat' (first | refine WK_go ?_ | refine W_seqL ?_ | refine W_seq ?_ | (refine W_regL ?_; simp (maxSteps := 400000) (disch := omega) only [push_cast, ↓reduceIte, reduceCtorEq, Nat.reduceAdd, Nat.reduceSub, Nat.reduceEqDiff, Nat.reduceLeDiff, Nat.reduceLT, Nat.reduceBEq, Nat.reduceDiv, Nat.reduceMod, Nat.reducePow, Nat.reduceMul, Int.reduceToNat, Int.reduceLT, Int.reduceLE]) | refine W_block ?_ | (refine W_skip ?_; simp (maxSteps := 400000) (disch := omega) only [push_cast, ↓reduceIte, reduceCtorEq, Nat.reduceAdd, Nat.reduceSub, Nat.reduceEqDiff, Nat.reduceLeDiff, Nat.reduceLT, Nat.reduceBEq, Nat.reduceDiv, Nat.reduceMod, Nat.reducePow, Nat.reduceMul, Int.reduceToNat, Int.reduceLT, Int.reduceLE]) | (refine W_exit ?_; simp (maxSteps := 400000) (disch := omega) only [push_cast, ↓reduceIte, reduceCtorEq, Nat.reduceAdd, Nat.reduceSub, Nat.reduceEqDiff, Nat.reduceLeDiff, Nat.reduceLT, Nat.reduceBEq, Nat.reduceDiv, Nat.reduceMod, Nat.reducePow, Nat.reduceMul, Int.reduceToNat, Int.reduceLT, Int.reduceLE]) | refine And.intro (by omega) ?_ | refine And.intro (by intro hq; (try simp only [Bool.and_eq_true, Bool.or_eq_true, Bool.and_eq_false_iff, Bool.or_eq_false_iff, decide_eq_true_eq, decide_eq_false_iff_not, Bool.not_eq_true', Bool.not_eq_false', beq_iff_eq, beq_eq_false_iff_ne, ne_eq] at hq); omega) ?_ | fail)
        refine ⟨by rfl, ?_⟩
        simp (maxSteps := 400000) (disch := omega) only [push_cast, ↓reduceIte, reduceCtorEq, Nat.reduceAdd, Nat.reduceSub, Nat.reduceEqDiff, Nat.reduceLeDiff, Nat.reduceLT, Nat.reduceBEq, Nat.reduceDiv, Nat.reduceMod, Nat.reducePow, Nat.reduceMul, Int.reduceToNat, Int.reduceLT, Int.reduceLE, S.mk.injEq, List.cons.injEq, Prod.mk.injEq, AV.v.injEq, Value.int.injEq, Value.bool.injEq, Blk.cells.injEq]
        rw [take_rd l i hlt, pLo_append, if_pos h]
      · repeat' (first | refine WK_go ?_ | refine W_seqL ?_ | refine W_seq ?_ | (refine W_regL ?_; simp (maxSteps := 400000) (disch := omega) only [push_cast, ↓reduceIte, reduceCtorEq, Nat.reduceAdd, Nat.reduceSub, Nat.reduceEqDiff, Nat.reduceLeDiff, Nat.reduceLT, Nat.reduceBEq, Nat.reduceDiv, Nat.reduceMod, Nat.reducePow, Nat.reduceMul, Int.reduceToNat, Int.reduceLT, Int.reduceLE]) | refine W_block ?_ | (refine W_skip ?_; simp (maxSteps := 400000) (disch := omega) only [push_cast, ↓reduceIte, reduceCtorEq, Nat.reduceAdd, Nat.reduceSub, Nat.reduceEqDiff, Nat.reduceLeDiff, Nat.reduceLT, Nat.reduceBEq, Nat.reduceDiv, Nat.reduceMod, Nat.reducePow, Nat.reduceMul, Int.reduceToNat, Int.reduceLT, Int.reduceLE]) | (refine W_exit ?_; simp (maxSteps := 400000) (disch := omega) only [push_cast, ↓reduceIte, reduceCtorEq, Nat.reduceAdd, Nat.reduceSub, Nat.reduceEqDiff, Nat.reduceLeDiff, Nat.reduceLT, Nat.reduceBEq, Nat.reduceDiv, Nat.reduceMod, Nat.reducePow, Nat.reduceMul, Int.reduceToNat, Int.reduceLT, Int.reduceLE]) | refine And.intro (by omega) ?_ | refine And.intro (by intro hq; (try simp only [Bool.and_eq_true, Bool.or_eq_true, Bool.and_eq_false_iff, Bool.or_eq_false_iff, decide_eq_true_eq, decide_eq_false_iff_not, Bool.not_eq_true', Bool.not_eq_false', beq_iff_eq, beq_eq_false_iff_ne, ne_eq] at hq); omega) ?_ | fail)
        refine ⟨by rfl, ?_⟩
        simp (maxSteps := 400000) (disch := omega) only [push_cast, ↓reduceIte, reduceCtorEq, Nat.reduceAdd, Nat.reduceSub, Nat.reduceEqDiff, Nat.reduceLeDiff, Nat.reduceLT, Nat.reduceBEq, Nat.reduceDiv, Nat.reduceMod, Nat.reducePow, Nat.reduceMul, Int.reduceToNat, Int.reduceLT, Int.reduceLE, S.mk.injEq, List.cons.injEq, Prod.mk.injEq, AV.v.injEq, Value.int.injEq, Value.bool.injEq, Blk.cells.injEq]
        rw [take_rd l i hlt, pLo_append, if_neg h]
    · simp (maxSteps := 400000) (disch := omega) only [push_cast, ↓reduceIte, reduceCtorEq, Nat.reduceAdd, Nat.reduceSub, Nat.reduceEqDiff, Nat.reduceLeDiff, Nat.reduceLT, Nat.reduceBEq, Nat.reduceDiv, Nat.reduceMod, Nat.reducePow, Nat.reduceMul, Int.reduceToNat, Int.reduceLT, Int.reduceLE]
      repeat' (first | refine WK_go ?_ | refine W_seqL ?_ | refine W_seq ?_ | (refine W_regL ?_; simp (maxSteps := 400000) (disch := omega) only [push_cast, ↓reduceIte, reduceCtorEq, Nat.reduceAdd, Nat.reduceSub, Nat.reduceEqDiff, Nat.reduceLeDiff, Nat.reduceLT, Nat.reduceBEq, Nat.reduceDiv, Nat.reduceMod, Nat.reducePow, Nat.reduceMul, Int.reduceToNat, Int.reduceLT, Int.reduceLE]) | refine W_block ?_ | (refine W_skip ?_; simp (maxSteps := 400000) (disch := omega) only [push_cast, ↓reduceIte, reduceCtorEq, Nat.reduceAdd, Nat.reduceSub, Nat.reduceEqDiff, Nat.reduceLeDiff, Nat.reduceLT, Nat.reduceBEq, Nat.reduceDiv, Nat.reduceMod, Nat.reducePow, Nat.reduceMul, Int.reduceToNat, Int.reduceLT, Int.reduceLE]) | (refine W_exit ?_; simp (maxSteps := 400000) (disch := omega) only [push_cast, ↓reduceIte, reduceCtorEq, Nat.reduceAdd, Nat.reduceSub, Nat.reduceEqDiff, Nat.reduceLeDiff, Nat.reduceLT, Nat.reduceBEq, Nat.reduceDiv, Nat.reduceMod, Nat.reducePow, Nat.reduceMul, Int.reduceToNat, Int.reduceLT, Int.reduceLE]) | refine And.intro (by omega) ?_ | refine And.intro (by intro hq; (try simp only [Bool.and_eq_true, Bool.or_eq_true, Bool.and_eq_false_iff, Bool.or_eq_false_iff, decide_eq_true_eq, decide_eq_false_iff_not, Bool.not_eq_true', Bool.not_eq_false', beq_iff_eq, beq_eq_false_iff_ne, ne_eq] at hq); omega) ?_ | (refine CallC.now (c45) ?_; simp (maxSteps := 400000) (disch := omega) only [push_cast, ↓reduceIte, reduceCtorEq, Nat.reduceAdd, Nat.reduceSub, Nat.reduceEqDiff, Nat.reduceLeDiff, Nat.reduceLT, Nat.reduceBEq, Nat.reduceDiv, Nat.reduceMod, Nat.reducePow, Nat.reduceMul, Int.reduceToNat, Int.reduceLT, Int.reduceLE]) | fail)
      refine W_condD (by rfl) (fun h => ?_) (fun h => ?_)
      · repeat' (first | refine WK_go ?_ | refine W_seqL ?_ | refine W_seq ?_ | (refine W_regL ?_; simp (maxSteps := 400000) (disch := omega) only [push_cast, ↓reduceIte, reduceCtorEq, Nat.reduceAdd, Nat.reduceSub, Nat.reduceEqDiff, Nat.reduceLeDiff, Nat.reduceLT, Nat.reduceBEq, Nat.reduceDiv, Nat.reduceMod, Nat.reducePow, Nat.reduceMul, Int.reduceToNat, Int.reduceLT, Int.reduceLE]) | refine W_block ?_ | (refine W_skip ?_; simp (maxSteps := 400000) (disch := omega) only [push_cast, ↓reduceIte, reduceCtorEq, Nat.reduceAdd, Nat.reduceSub, Nat.reduceEqDiff, Nat.reduceLeDiff, Nat.reduceLT, Nat.reduceBEq, Nat.reduceDiv, Nat.reduceMod, Nat.reducePow, Nat.reduceMul, Int.reduceToNat, Int.reduceLT, Int.reduceLE]) | (refine W_exit ?_; simp (maxSteps := 400000) (disch := omega) only [push_cast, ↓reduceIte, reduceCtorEq, Nat.reduceAdd, Nat.reduceSub, Nat.reduceEqDiff, Nat.reduceLeDiff, Nat.reduceLT, Nat.reduceBEq, Nat.reduceDiv, Nat.reduceMod, Nat.reducePow, Nat.reduceMul, Int.reduceToNat, Int.reduceLT, Int.reduceLE]) | refine And.intro (by omega) ?_ | refine And.intro (by intro hq; (try simp only [Bool.and_eq_true, Bool.or_eq_true, Bool.and_eq_false_iff, Bool.or_eq_false_iff, decide_eq_true_eq, decide_eq_false_iff_not, Bool.not_eq_true', Bool.not_eq_false', beq_iff_eq, beq_eq_false_iff_ne, ne_eq] at hq); omega) ?_ | fail)
        refine ⟨i + 1, by omega, by omega, by rfl, ?_⟩
        simp (maxSteps := 400000) (disch := omega) only [push_cast, ↓reduceIte, reduceCtorEq, Nat.reduceAdd, Nat.reduceSub, Nat.reduceEqDiff, Nat.reduceLeDiff, Nat.reduceLT, Nat.reduceBEq, Nat.reduceDiv, Nat.reduceMod, Nat.reducePow, Nat.reduceMul, Int.reduceToNat, Int.reduceLT, Int.reduceLE, S.mk.injEq, List.cons.injEq, Prod.mk.injEq, AV.v.injEq, Value.int.injEq, Value.bool.injEq, Blk.cells.injEq]
        rw [take_rd l i hlt, pHi_append, if_pos h]
      · repeat' (first | refine WK_go ?_ | refine W_seqL ?_ | refine W_seq ?_ | (refine W_regL ?_; simp (maxSteps := 400000) (disch := omega) only [push_cast, ↓reduceIte, reduceCtorEq, Nat.reduceAdd, Nat.reduceSub, Nat.reduceEqDiff, Nat.reduceLeDiff, Nat.reduceLT, Nat.reduceBEq, Nat.reduceDiv, Nat.reduceMod, Nat.reducePow, Nat.reduceMul, Int.reduceToNat, Int.reduceLT, Int.reduceLE]) | refine W_block ?_ | (refine W_skip ?_; simp (maxSteps := 400000) (disch := omega) only [push_cast, ↓reduceIte, reduceCtorEq, Nat.reduceAdd, Nat.reduceSub, Nat.reduceEqDiff, Nat.reduceLeDiff, Nat.reduceLT, Nat.reduceBEq, Nat.reduceDiv, Nat.reduceMod, Nat.reducePow, Nat.reduceMul, Int.reduceToNat, Int.reduceLT, Int.reduceLE]) | (refine W_exit ?_; simp (maxSteps := 400000) (disch := omega) only [push_cast, ↓reduceIte, reduceCtorEq, Nat.reduceAdd, Nat.reduceSub, Nat.reduceEqDiff, Nat.reduceLeDiff, Nat.reduceLT, Nat.reduceBEq, Nat.reduceDiv, Nat.reduceMod, Nat.reducePow, Nat.reduceMul, Int.reduceToNat, Int.reduceLT, Int.reduceLE]) | refine And.intro (by omega) ?_ | refine And.intro (by intro hq; (try simp only [Bool.and_eq_true, Bool.or_eq_true, Bool.and_eq_false_iff, Bool.or_eq_false_iff, decide_eq_true_eq, decide_eq_false_iff_not, Bool.not_eq_true', Bool.not_eq_false', beq_iff_eq, beq_eq_false_iff_ne, ne_eq] at hq); omega) ?_ | fail)
        refine ⟨i + 1, by omega, by omega, by rfl, ?_⟩
        simp (maxSteps := 400000) (disch := omega) only [push_cast, ↓reduceIte, reduceCtorEq, Nat.reduceAdd, Nat.reduceSub, Nat.reduceEqDiff, Nat.reduceLeDiff, Nat.reduceLT, Nat.reduceBEq, Nat.reduceDiv, Nat.reduceMod, Nat.reducePow, Nat.reduceMul, Int.reduceToNat, Int.reduceLT, Int.reduceLE, S.mk.injEq, List.cons.injEq, Prod.mk.injEq, AV.v.injEq, Value.int.injEq, Value.bool.injEq, Blk.cells.injEq]
        rw [take_rd l i hlt, pHi_append, if_neg h]
  · repeat' (first | refine WK_go ?_ | refine W_seqL ?_ | refine W_seq ?_ | (refine W_regL ?_; simp (maxSteps := 400000) (disch := omega) only [push_cast, ↓reduceIte, reduceCtorEq, Nat.reduceAdd, Nat.reduceSub, Nat.reduceEqDiff, Nat.reduceLeDiff, Nat.reduceLT, Nat.reduceBEq, Nat.reduceDiv, Nat.reduceMod, Nat.reducePow, Nat.reduceMul, Int.reduceToNat, Int.reduceLT, Int.reduceLE]) | refine W_block ?_ | (refine W_skip ?_; simp (maxSteps := 400000) (disch := omega) only [push_cast, ↓reduceIte, reduceCtorEq, Nat.reduceAdd, Nat.reduceSub, Nat.reduceEqDiff, Nat.reduceLeDiff, Nat.reduceLT, Nat.reduceBEq, Nat.reduceDiv, Nat.reduceMod, Nat.reducePow, Nat.reduceMul, Int.reduceToNat, Int.reduceLT, Int.reduceLE]) | (refine W_exit ?_; simp (maxSteps := 400000) (disch := omega) only [push_cast, ↓reduceIte, reduceCtorEq, Nat.reduceAdd, Nat.reduceSub, Nat.reduceEqDiff, Nat.reduceLeDiff, Nat.reduceLT, Nat.reduceBEq, Nat.reduceDiv, Nat.reduceMod, Nat.reducePow, Nat.reduceMul, Int.reduceToNat, Int.reduceLT, Int.reduceLE]) | refine And.intro (by omega) ?_ | refine And.intro (by intro hq; (try simp only [Bool.and_eq_true, Bool.or_eq_true, Bool.and_eq_false_iff, Bool.or_eq_false_iff, decide_eq_true_eq, decide_eq_false_iff_not, Bool.not_eq_true', Bool.not_eq_false', beq_iff_eq, beq_eq_false_iff_ne, ne_eq] at hq); omega) ?_ | fail)
    have e : i = l.rs.length := by omega
    subst e
    rw [List.take_length]
    exact W_ret ⟨[_], ⟨⟨by simp, rfl⟩, rfl⟩, rfl⟩
def away (r : Reading) (t : Int) : Int := max (r.at_ - t) (t - r.at_)
def vLo (l : Log) (k : Nat) (t : Int) : Int → List Reading → Int
  | a, [] => a
  | a, r :: rs => vLo l k t (max a ((vals r k).lo - drift l k * away r t)) rs
def vHi (l : Log) (k : Nat) (t : Int) : Int → List Reading → Int
  | a, [] => a
  | a, r :: rs => vHi l k t (min a ((vals r k).hi + drift l k * away r t)) rs
theorem vLo_append (l : Log) (k : Nat) (t : Int) (r : Reading) : ∀ (m : List Reading) (a : Int), vLo l k t a (m ++ [r]) = max (vLo l k t a m) ((vals r k).lo - drift l k * away r t)
  | [], a => rfl
  | x :: m, a => vLo_append l k t r m _
theorem vHi_append (l : Log) (k : Nat) (t : Int) (r : Reading) : ∀ (m : List Reading) (a : Int), vHi l k t a (m ++ [r]) = min (vHi l k t a m) ((vals r k).hi + drift l k * away r t)
  | [], a => rfl
  | x :: m, a => vHi_append l k t r m _
def value (l : Log) (m : Int) (k : Nat) : Band := ⟨vLo l k (t0 l + m) (-1125899906842624) l.rs, vHi l k (t0 l + m) 1125899906842624 l.rs⟩
/-- what is checked of a log before its spans are -/
structure Good (l : Log) : Prop where
  n2 : 2 ≤ l.rs.length
  n64 : l.rs.length ≤ 64
  at0 : ∀ i, i < l.rs.length → 0 ≤ (rd l i).at_ ∧ (rd l i).at_ ≤ 1099511627776
  inc : ∀ i, i + 1 < l.rs.length → (rd l i).at_ < (rd l (i + 1)).at_
  pl : ∀ i, i < l.rs.length → okBand (rd l i).place = true
  vl : ∀ i k, i < l.rs.length → k < 4 → okBand (vals (rd l i) k) = true
  span : tn l - t0 l ≤ 2000
  dr : ∀ k, k < 4 → 0 ≤ drift l k ∧ drift l k ≤ 1048576
theorem Good.mono {l : Log} (g : Good l) : ∀ (j i : Nat), i ≤ j → j < l.rs.length → (rd l i).at_ ≤ (rd l j).at_
  | 0, i, h, _ => by have : i = 0 := by omega
                     subst this; omega
  | j + 1, i, h, hj => by
    by_cases e : i = j + 1
    · subst e; omega
    · have := g.mono j i (by omega) (by omega)
      have := g.inc j hj
      omega
theorem Good.tI {l : Log} (g : Good l) {i : Nat} (h : i < l.rs.length) : t0 l ≤ (rd l i).at_ ∧ (rd l i).at_ ≤ tn l ∧ tn l ≤ t0 l + 2000 := by
  have h1 := g.mono i 0 (by omega) h
  have h2 := g.mono (l.rs.length - 1) i (by omega) (by omega)
  have h3 := g.span
  unfold tn at *
  unfold t0 at *
  omega
theorem okBand_iff {b : Band} : okBand b = true ↔ b.lo ≤ b.hi ∧ -1073741824 ≤ b.lo ∧ b.hi ≤ 1073741824 := by
  simp [okBand, and_assoc]
theorem mul_bound {d a : Int} (h1 : 0 ≤ d) (h2 : d ≤ 1048576) (h3 : 0 ≤ a) (h4 : a ≤ 4000) : 0 ≤ d * a ∧ d * a ≤ 4194304000 := by
  refine ⟨Int.mul_nonneg h1 h3, ?_⟩
  calc d * a ≤ 1048576 * a := Int.mul_le_mul_of_nonneg_right h2 h3
    _ ≤ 1048576 * 4000 := Int.mul_le_mul_of_nonneg_left h4 (by omega)
    _ = 4194304000 := by omega
theorem fn17 (l : Log) (m : Int) (k : Nat) (g : Good l) (hm : 0 ≤ m ∧ m ≤ 2001) (hk : k < 4) :
    Sy.Fn Try.prog 17 [aLog l, iv m, iv k] (.agg (cBand (value l m k))) := by
  refine Fn_of_W mixed Xt17 rfl ?_
  have h2 := g.n2
  have h3 := g.n64
  have hdr := g.dr k hk
  have ht0 : 0 ≤ t0 l ∧ t0 l ≤ 1099511627776 := g.at0 0 (by omega)
  have c45 := fn45 l m (by omega) (by omega) (by omega) (by omega)
  repeat' (first | refine WK_go ?_ | refine W_seqL ?_ | refine W_seq ?_ | (refine W_regL ?_; simp (maxSteps := 400000) (disch := omega) only [push_cast, ↓reduceIte, reduceCtorEq, Nat.reduceAdd, Nat.reduceSub, Nat.reduceEqDiff, Nat.reduceLeDiff, Nat.reduceLT, Nat.reduceBEq, Nat.reduceDiv, Nat.reduceMod, Nat.reducePow, Nat.reduceMul, Int.reduceToNat, Int.reduceLT, Int.reduceLE]) | refine W_block ?_ | (refine W_skip ?_; simp (maxSteps := 400000) (disch := omega) only [push_cast, ↓reduceIte, reduceCtorEq, Nat.reduceAdd, Nat.reduceSub, Nat.reduceEqDiff, Nat.reduceLeDiff, Nat.reduceLT, Nat.reduceBEq, Nat.reduceDiv, Nat.reduceMod, Nat.reducePow, Nat.reduceMul, Int.reduceToNat, Int.reduceLT, Int.reduceLE]) | (refine W_exit ?_; simp (maxSteps := 400000) (disch := omega) only [push_cast, ↓reduceIte, reduceCtorEq, Nat.reduceAdd, Nat.reduceSub, Nat.reduceEqDiff, Nat.reduceLeDiff, Nat.reduceLT, Nat.reduceBEq, Nat.reduceDiv, Nat.reduceMod, Nat.reducePow, Nat.reduceMul, Int.reduceToNat, Int.reduceLT, Int.reduceLE]) | refine And.intro (by omega) ?_ | refine And.intro (by intro hq; (try simp only [Bool.and_eq_true, Bool.or_eq_true, Bool.and_eq_false_iff, Bool.or_eq_false_iff, decide_eq_true_eq, decide_eq_false_iff_not, Bool.not_eq_true', Bool.not_eq_false', beq_iff_eq, beq_eq_false_iff_ne, ne_eq] at hq); omega) ?_ | fail)
  refine W_loopU (fun i : Nat => [(8, iv i)]) (fun i => [(3, .cells [iv (vLo l k (t0 l + m) (-1125899906842624) (l.rs.take i)), iv (vHi l k (t0 l + m) 1125899906842624 (l.rs.take i))])]) (fun i => i ≤ l.rs.length) (fun i => l.rs.length - i) 0 (by omega) (by rfl) (by rfl) (fun i hi => ?_)
  simp (maxSteps := 400000) (disch := omega) only [push_cast, ↓reduceIte, reduceCtorEq, Nat.reduceAdd, Nat.reduceSub, Nat.reduceEqDiff, Nat.reduceLeDiff, Nat.reduceLT, Nat.reduceBEq, Nat.reduceDiv, Nat.reduceMod, Nat.reducePow, Nat.reduceMul, Int.reduceToNat, Int.reduceLT, Int.reduceLE]
  repeat' (first | refine WK_go ?_ | refine W_seqL ?_ | refine W_seq ?_ | (refine W_regL ?_; simp (maxSteps := 400000) (disch := omega) only [push_cast, ↓reduceIte, reduceCtorEq, Nat.reduceAdd, Nat.reduceSub, Nat.reduceEqDiff, Nat.reduceLeDiff, Nat.reduceLT, Nat.reduceBEq, Nat.reduceDiv, Nat.reduceMod, Nat.reducePow, Nat.reduceMul, Int.reduceToNat, Int.reduceLT, Int.reduceLE]) | refine W_block ?_ | (refine W_skip ?_; simp (maxSteps := 400000) (disch := omega) only [push_cast, ↓reduceIte, reduceCtorEq, Nat.reduceAdd, Nat.reduceSub, Nat.reduceEqDiff, Nat.reduceLeDiff, Nat.reduceLT, Nat.reduceBEq, Nat.reduceDiv, Nat.reduceMod, Nat.reducePow, Nat.reduceMul, Int.reduceToNat, Int.reduceLT, Int.reduceLE]) | (refine W_exit ?_; simp (maxSteps := 400000) (disch := omega) only [push_cast, ↓reduceIte, reduceCtorEq, Nat.reduceAdd, Nat.reduceSub, Nat.reduceEqDiff, Nat.reduceLeDiff, Nat.reduceLT, Nat.reduceBEq, Nat.reduceDiv, Nat.reduceMod, Nat.reducePow, Nat.reduceMul, Int.reduceToNat, Int.reduceLT, Int.reduceLE]) | refine And.intro (by omega) ?_ | refine And.intro (by intro hq; (try simp only [Bool.and_eq_true, Bool.or_eq_true, Bool.and_eq_false_iff, Bool.or_eq_false_iff, decide_eq_true_eq, decide_eq_false_iff_not, Bool.not_eq_true', Bool.not_eq_false', beq_iff_eq, beq_eq_false_iff_ne, ne_eq] at hq); omega) ?_ | fail)
  refine W_condD (by rfl) (fun h => ?_) (fun h => ?_)
  · have hlt : i < l.rs.length := by omega
    have hr : l.rs.getD i dR = rd l i := rfl
    have hti := g.tI hlt
    have hv := okBand_iff.1 (g.vl i k hlt hk)
    have haw : 0 ≤ max ((rd l i).at_ - (t0 l + m)) (t0 l + m - (rd l i).at_) ∧ max ((rd l i).at_ - (t0 l + m)) (t0 l + m - (rd l i).at_) ≤ 4000 := by omega
    have hmul := mul_bound hdr.1 hdr.2 haw.1 haw.2
    repeat' (first | refine WK_go ?_ | refine W_seqL ?_ | refine W_seq ?_ | (refine W_regL ?_; simp (maxSteps := 400000) (disch := omega) only [push_cast, ↓reduceIte, reduceCtorEq, Nat.reduceAdd, Nat.reduceSub, Nat.reduceEqDiff, Nat.reduceLeDiff, Nat.reduceLT, Nat.reduceBEq, Nat.reduceDiv, Nat.reduceMod, Nat.reducePow, Nat.reduceMul, Int.reduceToNat, Int.reduceLT, Int.reduceLE, hr]) | refine W_block ?_ | (refine W_skip ?_; simp (maxSteps := 400000) (disch := omega) only [push_cast, ↓reduceIte, reduceCtorEq, Nat.reduceAdd, Nat.reduceSub, Nat.reduceEqDiff, Nat.reduceLeDiff, Nat.reduceLT, Nat.reduceBEq, Nat.reduceDiv, Nat.reduceMod, Nat.reducePow, Nat.reduceMul, Int.reduceToNat, Int.reduceLT, Int.reduceLE, hr]) | (refine W_exit ?_; simp (maxSteps := 400000) (disch := omega) only [push_cast, ↓reduceIte, reduceCtorEq, Nat.reduceAdd, Nat.reduceSub, Nat.reduceEqDiff, Nat.reduceLeDiff, Nat.reduceLT, Nat.reduceBEq, Nat.reduceDiv, Nat.reduceMod, Nat.reducePow, Nat.reduceMul, Int.reduceToNat, Int.reduceLT, Int.reduceLE, hr]) | refine And.intro (by omega) ?_ | refine And.intro (by intro hq; (try simp only [Bool.and_eq_true, Bool.or_eq_true, Bool.and_eq_false_iff, Bool.or_eq_false_iff, decide_eq_true_eq, decide_eq_false_iff_not, Bool.not_eq_true', Bool.not_eq_false', beq_iff_eq, beq_eq_false_iff_ne, ne_eq] at hq); omega) ?_ | (refine CallC.now (c45) ?_; simp (maxSteps := 400000) (disch := omega) only [push_cast, ↓reduceIte, reduceCtorEq, Nat.reduceAdd, Nat.reduceSub, Nat.reduceEqDiff, Nat.reduceLeDiff, Nat.reduceLT, Nat.reduceBEq, Nat.reduceDiv, Nat.reduceMod, Nat.reducePow, Nat.reduceMul, Int.reduceToNat, Int.reduceLT, Int.reduceLE, hr]) | fail)
    refine ⟨i + 1, by omega, by omega, by rfl, ?_⟩
    simp (maxSteps := 400000) (disch := omega) only [push_cast, ↓reduceIte, reduceCtorEq, Nat.reduceAdd, Nat.reduceSub, Nat.reduceEqDiff, Nat.reduceLeDiff, Nat.reduceLT, Nat.reduceBEq, Nat.reduceDiv, Nat.reduceMod, Nat.reducePow, Nat.reduceMul, Int.reduceToNat, Int.reduceLT, Int.reduceLE, S.mk.injEq, List.cons.injEq, Prod.mk.injEq, AV.v.injEq, Value.int.injEq, Value.bool.injEq, Blk.cells.injEq]
    rw [take_rd l i hlt, vLo_append, vHi_append]
    exact ⟨rfl, rfl⟩
  · repeat' (first | refine WK_go ?_ | refine W_seqL ?_ | refine W_seq ?_ | (refine W_regL ?_; simp (maxSteps := 400000) (disch := omega) only [push_cast, ↓reduceIte, reduceCtorEq, Nat.reduceAdd, Nat.reduceSub, Nat.reduceEqDiff, Nat.reduceLeDiff, Nat.reduceLT, Nat.reduceBEq, Nat.reduceDiv, Nat.reduceMod, Nat.reducePow, Nat.reduceMul, Int.reduceToNat, Int.reduceLT, Int.reduceLE]) | refine W_block ?_ | (refine W_skip ?_; simp (maxSteps := 400000) (disch := omega) only [push_cast, ↓reduceIte, reduceCtorEq, Nat.reduceAdd, Nat.reduceSub, Nat.reduceEqDiff, Nat.reduceLeDiff, Nat.reduceLT, Nat.reduceBEq, Nat.reduceDiv, Nat.reduceMod, Nat.reducePow, Nat.reduceMul, Int.reduceToNat, Int.reduceLT, Int.reduceLE]) | (refine W_exit ?_; simp (maxSteps := 400000) (disch := omega) only [push_cast, ↓reduceIte, reduceCtorEq, Nat.reduceAdd, Nat.reduceSub, Nat.reduceEqDiff, Nat.reduceLeDiff, Nat.reduceLT, Nat.reduceBEq, Nat.reduceDiv, Nat.reduceMod, Nat.reducePow, Nat.reduceMul, Int.reduceToNat, Int.reduceLT, Int.reduceLE]) | refine And.intro (by omega) ?_ | refine And.intro (by intro hq; (try simp only [Bool.and_eq_true, Bool.or_eq_true, Bool.and_eq_false_iff, Bool.or_eq_false_iff, decide_eq_true_eq, decide_eq_false_iff_not, Bool.not_eq_true', Bool.not_eq_false', beq_iff_eq, beq_eq_false_iff_ne, ne_eq] at hq); omega) ?_ | fail)
    have e : i = l.rs.length := by omega
    subst e
    rw [List.take_length]
    exact W_ret ⟨[_], ⟨⟨by simp, rfl⟩, rfl⟩, rfl⟩
end Go.Proofs.Ytgijpimjfoabjaa

/- The reference's check of a log. -/
namespace Go.Proofs.Ytgijpimjfoabjaa
open Go Sy
set_option maxRecDepth 100000
set_option maxHeartbeats 4000000
set_option linter.unusedVariables false
set_option linter.unusedSimpArgs false
def okR (l : Log) (i : Nat) : Bool :=
  (decide (0 ≤ (rd l i).at_) && decide ((rd l i).at_ ≤ 1099511627776)) && !(decide (0 < i) && decide ((rd l i).at_ ≤ (rd l (i - 1)).at_)) && okBand (rd l i).place && (List.range 4).all fun k => okBand (vals (rd l i) k)
def okD4 (l : Log) : Bool := (List.range 4).all fun k => decide (0 ≤ drift l k) && decide (drift l k ≤ 1048576)
def okM (l : Log) (m : Nat) : Bool := decide ((place l m).lo ≤ (place l m).hi) && (List.range 4).all fun k => decide ((value l m k).lo ≤ (value l m k).hi)
def chkLog (l : Log) : Int :=
  if 64 < l.rs.length then 6 else if l.rs.length < 2 then 2
  else if ((List.range l.rs.length).all (okR l)) = false then 2
  else if tn l - t0 l > 2000 then 2
  else if okD4 l = false then 2
  else if ((List.range (tn l - t0 l + 1).toNat).all (okM l)) = false then 16 else 0
theorem all_range {n : Nat} {p : Nat → Bool} : (List.range n).all p = true ↔ ∀ i, i < n → p i = true := by simp
theorem not_all_range {n : Nat} {p : Nat → Bool} {i : Nat} (hi : i < n) (h : p i = false) : (List.range n).all p = false := by
  cases hc : (List.range n).all p with
  | false => rfl
  | true => rw [all_range.1 hc i hi] at h; cases h
theorem chk_bad {l : Log} (h1 : l.rs.length ≤ 64) (h2 : 2 ≤ l.rs.length) {i : Nat} (hi : i < l.rs.length) (h : okR l i = false) : chkLog l = 2 := by
  unfold chkLog
  rw [if_neg (by omega), if_neg (by omega), if_pos (not_all_range hi h)]
theorem up_all {p : Nat → Prop} {i : Nat} (h : ∀ j, j < i → p j) (hi : p i) : ∀ j, j < i + 1 → p j := fun j hj => by
  rcases Nat.lt_succ_iff_lt_or_eq.1 hj with hj | rfl
  · exact h j hj
  · exact hi
theorem fn21 (l : Log) (h3 : l.rs.length ≤ 1000000) : Sy.Fn Try.prog 21 [aLog l] (iv (chkLog l)) := by
  refine Fn_of_W mixed Xt21 rfl ?_
  repeat' (first | refine WK_go ?_ | refine W_seqL ?_ | refine W_seq ?_ | (refine W_regL ?_; simp (maxSteps := 400000) (disch := omega) only [push_cast, ↓reduceIte, reduceCtorEq, Nat.reduceAdd, Nat.reduceSub, Nat.reduceEqDiff, Nat.reduceLeDiff, Nat.reduceLT, Nat.reduceBEq, Nat.reduceDiv, Nat.reduceMod, Nat.reducePow, Nat.reduceMul, Int.reduceToNat, Int.reduceLT, Int.reduceLE]) | refine W_block ?_ | (refine W_skip ?_; simp (maxSteps := 400000) (disch := omega) only [push_cast, ↓reduceIte, reduceCtorEq, Nat.reduceAdd, Nat.reduceSub, Nat.reduceEqDiff, Nat.reduceLeDiff, Nat.reduceLT, Nat.reduceBEq, Nat.reduceDiv, Nat.reduceMod, Nat.reducePow, Nat.reduceMul, Int.reduceToNat, Int.reduceLT, Int.reduceLE]) | (refine W_exit ?_; simp (maxSteps := 400000) (disch := omega) only [push_cast, ↓reduceIte, reduceCtorEq, Nat.reduceAdd, Nat.reduceSub, Nat.reduceEqDiff, Nat.reduceLeDiff, Nat.reduceLT, Nat.reduceBEq, Nat.reduceDiv, Nat.reduceMod, Nat.reducePow, Nat.reduceMul, Int.reduceToNat, Int.reduceLT, Int.reduceLE]) | refine And.intro (by omega) ?_ | refine And.intro (by intro hq; (try simp only [Bool.and_eq_true, Bool.or_eq_true, Bool.and_eq_false_iff, Bool.or_eq_false_iff, decide_eq_true_eq, decide_eq_false_iff_not, Bool.not_eq_true', Bool.not_eq_false', beq_iff_eq, beq_eq_false_iff_ne, ne_eq] at hq); omega) ?_ | fail)
  refine W_condD (by rfl) (fun h => ?_) (fun h => ?_)
  · repeat' (first | refine WK_go ?_ | refine W_seqL ?_ | refine W_seq ?_ | (refine W_regL ?_; simp (maxSteps := 400000) (disch := omega) only [push_cast, ↓reduceIte, reduceCtorEq, Nat.reduceAdd, Nat.reduceSub, Nat.reduceEqDiff, Nat.reduceLeDiff, Nat.reduceLT, Nat.reduceBEq, Nat.reduceDiv, Nat.reduceMod, Nat.reducePow, Nat.reduceMul, Int.reduceToNat, Int.reduceLT, Int.reduceLE]) | refine W_block ?_ | (refine W_skip ?_; simp (maxSteps := 400000) (disch := omega) only [push_cast, ↓reduceIte, reduceCtorEq, Nat.reduceAdd, Nat.reduceSub, Nat.reduceEqDiff, Nat.reduceLeDiff, Nat.reduceLT, Nat.reduceBEq, Nat.reduceDiv, Nat.reduceMod, Nat.reducePow, Nat.reduceMul, Int.reduceToNat, Int.reduceLT, Int.reduceLE]) | (refine W_exit ?_; simp (maxSteps := 400000) (disch := omega) only [push_cast, ↓reduceIte, reduceCtorEq, Nat.reduceAdd, Nat.reduceSub, Nat.reduceEqDiff, Nat.reduceLeDiff, Nat.reduceLT, Nat.reduceBEq, Nat.reduceDiv, Nat.reduceMod, Nat.reducePow, Nat.reduceMul, Int.reduceToNat, Int.reduceLT, Int.reduceLE]) | refine And.intro (by omega) ?_ | refine And.intro (by intro hq; (try simp only [Bool.and_eq_true, Bool.or_eq_true, Bool.and_eq_false_iff, Bool.or_eq_false_iff, decide_eq_true_eq, decide_eq_false_iff_not, Bool.not_eq_true', Bool.not_eq_false', beq_iff_eq, beq_eq_false_iff_ne, ne_eq] at hq); omega) ?_ | fail)
    exact W_ret ⟨[_], ⟨rfl, rfl⟩, by unfold chkLog; rw [if_pos (by omega)]; rfl⟩
  repeat' (first | refine WK_go ?_ | refine W_seqL ?_ | refine W_seq ?_ | (refine W_regL ?_; simp (maxSteps := 400000) (disch := omega) only [push_cast, ↓reduceIte, reduceCtorEq, Nat.reduceAdd, Nat.reduceSub, Nat.reduceEqDiff, Nat.reduceLeDiff, Nat.reduceLT, Nat.reduceBEq, Nat.reduceDiv, Nat.reduceMod, Nat.reducePow, Nat.reduceMul, Int.reduceToNat, Int.reduceLT, Int.reduceLE]) | refine W_block ?_ | (refine W_skip ?_; simp (maxSteps := 400000) (disch := omega) only [push_cast, ↓reduceIte, reduceCtorEq, Nat.reduceAdd, Nat.reduceSub, Nat.reduceEqDiff, Nat.reduceLeDiff, Nat.reduceLT, Nat.reduceBEq, Nat.reduceDiv, Nat.reduceMod, Nat.reducePow, Nat.reduceMul, Int.reduceToNat, Int.reduceLT, Int.reduceLE]) | (refine W_exit ?_; simp (maxSteps := 400000) (disch := omega) only [push_cast, ↓reduceIte, reduceCtorEq, Nat.reduceAdd, Nat.reduceSub, Nat.reduceEqDiff, Nat.reduceLeDiff, Nat.reduceLT, Nat.reduceBEq, Nat.reduceDiv, Nat.reduceMod, Nat.reducePow, Nat.reduceMul, Int.reduceToNat, Int.reduceLT, Int.reduceLE]) | refine And.intro (by omega) ?_ | refine And.intro (by intro hq; (try simp only [Bool.and_eq_true, Bool.or_eq_true, Bool.and_eq_false_iff, Bool.or_eq_false_iff, decide_eq_true_eq, decide_eq_false_iff_not, Bool.not_eq_true', Bool.not_eq_false', beq_iff_eq, beq_eq_false_iff_ne, ne_eq] at hq); omega) ?_ | fail)
  refine W_condD (by rfl) (fun h' => ?_) (fun h' => ?_)
  · repeat' (first | refine WK_go ?_ | refine W_seqL ?_ | refine W_seq ?_ | (refine W_regL ?_; simp (maxSteps := 400000) (disch := omega) only [push_cast, ↓reduceIte, reduceCtorEq, Nat.reduceAdd, Nat.reduceSub, Nat.reduceEqDiff, Nat.reduceLeDiff, Nat.reduceLT, Nat.reduceBEq, Nat.reduceDiv, Nat.reduceMod, Nat.reducePow, Nat.reduceMul, Int.reduceToNat, Int.reduceLT, Int.reduceLE]) | refine W_block ?_ | (refine W_skip ?_; simp (maxSteps := 400000) (disch := omega) only [push_cast, ↓reduceIte, reduceCtorEq, Nat.reduceAdd, Nat.reduceSub, Nat.reduceEqDiff, Nat.reduceLeDiff, Nat.reduceLT, Nat.reduceBEq, Nat.reduceDiv, Nat.reduceMod, Nat.reducePow, Nat.reduceMul, Int.reduceToNat, Int.reduceLT, Int.reduceLE]) | (refine W_exit ?_; simp (maxSteps := 400000) (disch := omega) only [push_cast, ↓reduceIte, reduceCtorEq, Nat.reduceAdd, Nat.reduceSub, Nat.reduceEqDiff, Nat.reduceLeDiff, Nat.reduceLT, Nat.reduceBEq, Nat.reduceDiv, Nat.reduceMod, Nat.reducePow, Nat.reduceMul, Int.reduceToNat, Int.reduceLT, Int.reduceLE]) | refine And.intro (by omega) ?_ | refine And.intro (by intro hq; (try simp only [Bool.and_eq_true, Bool.or_eq_true, Bool.and_eq_false_iff, Bool.or_eq_false_iff, decide_eq_true_eq, decide_eq_false_iff_not, Bool.not_eq_true', Bool.not_eq_false', beq_iff_eq, beq_eq_false_iff_ne, ne_eq] at hq); omega) ?_ | fail)
    exact W_ret ⟨[_], ⟨rfl, rfl⟩, by unfold chkLog; rw [if_neg (by omega), if_pos (by omega)]; rfl⟩
  have hn64 : l.rs.length ≤ 64 := by omega
  have hn2 : 2 ≤ l.rs.length := by omega
  clear h h'
  refine W_skip ?_
  simp (maxSteps := 400000) (disch := omega) only [push_cast, ↓reduceIte, reduceCtorEq, Nat.reduceAdd, Nat.reduceSub, Nat.reduceEqDiff, Nat.reduceLeDiff, Nat.reduceLT, Nat.reduceBEq, Nat.reduceDiv, Nat.reduceMod, Nat.reducePow, Nat.reduceMul, Int.reduceToNat, Int.reduceLT, Int.reduceLE]
  refine WK_go (W_seqL (W_meetF [] [] (∀ j, j < l.rs.length → okR l j = true) ?_ (fun hR => ?_)))
  · repeat' (first | refine WK_go ?_ | refine W_seqL ?_ | refine W_seq ?_ | (refine W_regL ?_; simp (maxSteps := 400000) (disch := omega) only [push_cast, ↓reduceIte, reduceCtorEq, Nat.reduceAdd, Nat.reduceSub, Nat.reduceEqDiff, Nat.reduceLeDiff, Nat.reduceLT, Nat.reduceBEq, Nat.reduceDiv, Nat.reduceMod, Nat.reducePow, Nat.reduceMul, Int.reduceToNat, Int.reduceLT, Int.reduceLE]) | refine W_block ?_ | (refine W_skip ?_; simp (maxSteps := 400000) (disch := omega) only [push_cast, ↓reduceIte, reduceCtorEq, Nat.reduceAdd, Nat.reduceSub, Nat.reduceEqDiff, Nat.reduceLeDiff, Nat.reduceLT, Nat.reduceBEq, Nat.reduceDiv, Nat.reduceMod, Nat.reducePow, Nat.reduceMul, Int.reduceToNat, Int.reduceLT, Int.reduceLE]) | (refine W_exit ?_; simp (maxSteps := 400000) (disch := omega) only [push_cast, ↓reduceIte, reduceCtorEq, Nat.reduceAdd, Nat.reduceSub, Nat.reduceEqDiff, Nat.reduceLeDiff, Nat.reduceLT, Nat.reduceBEq, Nat.reduceDiv, Nat.reduceMod, Nat.reducePow, Nat.reduceMul, Int.reduceToNat, Int.reduceLT, Int.reduceLE]) | refine And.intro (by omega) ?_ | refine And.intro (by intro hq; (try simp only [Bool.and_eq_true, Bool.or_eq_true, Bool.and_eq_false_iff, Bool.or_eq_false_iff, decide_eq_true_eq, decide_eq_false_iff_not, Bool.not_eq_true', Bool.not_eq_false', beq_iff_eq, beq_eq_false_iff_ne, ne_eq] at hq); omega) ?_ | fail)
    refine W_loopU (fun i : Nat => [(4, iv i)]) (fun i => []) (fun i => i ≤ l.rs.length ∧ ∀ j, j < i → okR l j = true) (fun i => l.rs.length - i) 0 ⟨by omega, fun j hj => by omega⟩ (by rfl) (by rfl) (fun i hi => ?_)
    obtain ⟨hi, hok⟩ := hi
    simp (maxSteps := 400000) (disch := omega) only [push_cast, ↓reduceIte, reduceCtorEq, Nat.reduceAdd, Nat.reduceSub, Nat.reduceEqDiff, Nat.reduceLeDiff, Nat.reduceLT, Nat.reduceBEq, Nat.reduceDiv, Nat.reduceMod, Nat.reducePow, Nat.reduceMul, Int.reduceToNat, Int.reduceLT, Int.reduceLE]
    repeat' (first | refine WK_go ?_ | refine W_seqL ?_ | refine W_seq ?_ | (refine W_regL ?_; simp (maxSteps := 400000) (disch := omega) only [push_cast, ↓reduceIte, reduceCtorEq, Nat.reduceAdd, Nat.reduceSub, Nat.reduceEqDiff, Nat.reduceLeDiff, Nat.reduceLT, Nat.reduceBEq, Nat.reduceDiv, Nat.reduceMod, Nat.reducePow, Nat.reduceMul, Int.reduceToNat, Int.reduceLT, Int.reduceLE]) | refine W_block ?_ | (refine W_skip ?_; simp (maxSteps := 400000) (disch := omega) only [push_cast, ↓reduceIte, reduceCtorEq, Nat.reduceAdd, Nat.reduceSub, Nat.reduceEqDiff, Nat.reduceLeDiff, Nat.reduceLT, Nat.reduceBEq, Nat.reduceDiv, Nat.reduceMod, Nat.reducePow, Nat.reduceMul, Int.reduceToNat, Int.reduceLT, Int.reduceLE]) | (refine W_exit ?_; simp (maxSteps := 400000) (disch := omega) only [push_cast, ↓reduceIte, reduceCtorEq, Nat.reduceAdd, Nat.reduceSub, Nat.reduceEqDiff, Nat.reduceLeDiff, Nat.reduceLT, Nat.reduceBEq, Nat.reduceDiv, Nat.reduceMod, Nat.reducePow, Nat.reduceMul, Int.reduceToNat, Int.reduceLT, Int.reduceLE]) | refine And.intro (by omega) ?_ | refine And.intro (by intro hq; (try simp only [Bool.and_eq_true, Bool.or_eq_true, Bool.and_eq_false_iff, Bool.or_eq_false_iff, decide_eq_true_eq, decide_eq_false_iff_not, Bool.not_eq_true', Bool.not_eq_false', beq_iff_eq, beq_eq_false_iff_ne, ne_eq] at hq); omega) ?_ | fail)
    refine W_condD (by rfl) (fun h => ?_) (fun h => ?_)
    · have hlt : i < l.rs.length := by omega
      have hr : l.rs.getD i dR = rd l i := rfl
      have e1 : l.rs.getD ((i : Int) - 1).toNat dR = rd l (i - 1) := by rw [show ((i : Int) - 1).toNat = i - 1 by omega]; rfl
      have e2 : decide (0 < (i : Int)) = decide (0 < i) := by simp
      repeat' (first | refine WK_go ?_ | refine W_seqL ?_ | refine W_seq ?_ | (refine W_regL ?_; simp (maxSteps := 400000) (disch := omega) only [push_cast, ↓reduceIte, reduceCtorEq, Nat.reduceAdd, Nat.reduceSub, Nat.reduceEqDiff, Nat.reduceLeDiff, Nat.reduceLT, Nat.reduceBEq, Nat.reduceDiv, Nat.reduceMod, Nat.reducePow, Nat.reduceMul, Int.reduceToNat, Int.reduceLT, Int.reduceLE, hr, e1, e2]) | refine W_block ?_ | (refine W_skip ?_; simp (maxSteps := 400000) (disch := omega) only [push_cast, ↓reduceIte, reduceCtorEq, Nat.reduceAdd, Nat.reduceSub, Nat.reduceEqDiff, Nat.reduceLeDiff, Nat.reduceLT, Nat.reduceBEq, Nat.reduceDiv, Nat.reduceMod, Nat.reducePow, Nat.reduceMul, Int.reduceToNat, Int.reduceLT, Int.reduceLE, hr, e1, e2]) | (refine W_exit ?_; simp (maxSteps := 400000) (disch := omega) only [push_cast, ↓reduceIte, reduceCtorEq, Nat.reduceAdd, Nat.reduceSub, Nat.reduceEqDiff, Nat.reduceLeDiff, Nat.reduceLT, Nat.reduceBEq, Nat.reduceDiv, Nat.reduceMod, Nat.reducePow, Nat.reduceMul, Int.reduceToNat, Int.reduceLT, Int.reduceLE, hr, e1, e2]) | refine And.intro (by omega) ?_ | refine And.intro (by intro hq; (try simp only [Bool.and_eq_true, Bool.or_eq_true, Bool.and_eq_false_iff, Bool.or_eq_false_iff, decide_eq_true_eq, decide_eq_false_iff_not, Bool.not_eq_true', Bool.not_eq_false', beq_iff_eq, beq_eq_false_iff_ne, ne_eq] at hq); omega) ?_ | (refine CallC.now (fn50 _ _ _) ?_; simp (maxSteps := 400000) (disch := omega) only [push_cast, ↓reduceIte, reduceCtorEq, Nat.reduceAdd, Nat.reduceSub, Nat.reduceEqDiff, Nat.reduceLeDiff, Nat.reduceLT, Nat.reduceBEq, Nat.reduceDiv, Nat.reduceMod, Nat.reducePow, Nat.reduceMul, Int.reduceToNat, Int.reduceLT, Int.reduceLE, hr, e1, e2]) | (refine CallC.go _ (fun _ => ⟨trivial, fn52 _⟩) rfl ?_; simp (maxSteps := 400000) (disch := omega) only [push_cast, ↓reduceIte, reduceCtorEq, Nat.reduceAdd, Nat.reduceSub, Nat.reduceEqDiff, Nat.reduceLeDiff, Nat.reduceLT, Nat.reduceBEq, Nat.reduceDiv, Nat.reduceMod, Nat.reducePow, Nat.reduceMul, Int.reduceToNat, Int.reduceLT, Int.reduceLE, hr, e1, e2]) | fail)
      generalize hx1 : (decide (0 ≤ (rd l i).at_) && decide ((rd l i).at_ ≤ 1099511627776)) = x1
      generalize hx2 : (decide (0 < i) && decide ((rd l i).at_ ≤ (rd l (i - 1)).at_)) = x2
      generalize hx3 : okBand (rd l i).place = x3
      refine W_cond (by rfl) (fun hb => ?_) (fun hb => ?_)
      · repeat' (first | refine WK_go ?_ | refine W_seqL ?_ | refine W_seq ?_ | (refine W_regL ?_; simp (maxSteps := 400000) (disch := omega) only [push_cast, ↓reduceIte, reduceCtorEq, Nat.reduceAdd, Nat.reduceSub, Nat.reduceEqDiff, Nat.reduceLeDiff, Nat.reduceLT, Nat.reduceBEq, Nat.reduceDiv, Nat.reduceMod, Nat.reducePow, Nat.reduceMul, Int.reduceToNat, Int.reduceLT, Int.reduceLE]) | refine W_block ?_ | (refine W_skip ?_; simp (maxSteps := 400000) (disch := omega) only [push_cast, ↓reduceIte, reduceCtorEq, Nat.reduceAdd, Nat.reduceSub, Nat.reduceEqDiff, Nat.reduceLeDiff, Nat.reduceLT, Nat.reduceBEq, Nat.reduceDiv, Nat.reduceMod, Nat.reducePow, Nat.reduceMul, Int.reduceToNat, Int.reduceLT, Int.reduceLE]) | (refine W_exit ?_; simp (maxSteps := 400000) (disch := omega) only [push_cast, ↓reduceIte, reduceCtorEq, Nat.reduceAdd, Nat.reduceSub, Nat.reduceEqDiff, Nat.reduceLeDiff, Nat.reduceLT, Nat.reduceBEq, Nat.reduceDiv, Nat.reduceMod, Nat.reducePow, Nat.reduceMul, Int.reduceToNat, Int.reduceLT, Int.reduceLE]) | refine And.intro (by omega) ?_ | refine And.intro (by intro hq; (try simp only [Bool.and_eq_true, Bool.or_eq_true, Bool.and_eq_false_iff, Bool.or_eq_false_iff, decide_eq_true_eq, decide_eq_false_iff_not, Bool.not_eq_true', Bool.not_eq_false', beq_iff_eq, beq_eq_false_iff_ne, ne_eq] at hq); omega) ?_ | fail)
        have hbad : okR l i = false := by
          unfold okR
          rw [hx1, hx2, hx3]
          revert hb
          cases x1 <;> cases x2 <;> cases x3 <;> simp
        exact W_ret ⟨[_], ⟨rfl, rfl⟩, by rw [chk_bad hn64 hn2 hlt hbad]; rfl⟩
      have hgood : (x1 && !x2 && x3) = true := by
        revert hb
        cases x1 <;> cases x2 <;> cases x3 <;> simp
      clear hb
      repeat' (first | refine WK_go ?_ | refine W_seqL ?_ | refine W_seq ?_ | (refine W_regL ?_; simp (maxSteps := 400000) (disch := omega) only [push_cast, ↓reduceIte, reduceCtorEq, Nat.reduceAdd, Nat.reduceSub, Nat.reduceEqDiff, Nat.reduceLeDiff, Nat.reduceLT, Nat.reduceBEq, Nat.reduceDiv, Nat.reduceMod, Nat.reducePow, Nat.reduceMul, Int.reduceToNat, Int.reduceLT, Int.reduceLE]) | refine W_block ?_ | (refine W_skip ?_; simp (maxSteps := 400000) (disch := omega) only [push_cast, ↓reduceIte, reduceCtorEq, Nat.reduceAdd, Nat.reduceSub, Nat.reduceEqDiff, Nat.reduceLeDiff, Nat.reduceLT, Nat.reduceBEq, Nat.reduceDiv, Nat.reduceMod, Nat.reducePow, Nat.reduceMul, Int.reduceToNat, Int.reduceLT, Int.reduceLE]) | (refine W_exit ?_; simp (maxSteps := 400000) (disch := omega) only [push_cast, ↓reduceIte, reduceCtorEq, Nat.reduceAdd, Nat.reduceSub, Nat.reduceEqDiff, Nat.reduceLeDiff, Nat.reduceLT, Nat.reduceBEq, Nat.reduceDiv, Nat.reduceMod, Nat.reducePow, Nat.reduceMul, Int.reduceToNat, Int.reduceLT, Int.reduceLE]) | refine And.intro (by omega) ?_ | refine And.intro (by intro hq; (try simp only [Bool.and_eq_true, Bool.or_eq_true, Bool.and_eq_false_iff, Bool.or_eq_false_iff, decide_eq_true_eq, decide_eq_false_iff_not, Bool.not_eq_true', Bool.not_eq_false', beq_iff_eq, beq_eq_false_iff_ne, ne_eq] at hq); omega) ?_ | fail)
      refine W_loopU (fun k : Nat => [(6, iv k)]) (fun k => []) (fun k => k ≤ 4 ∧ ∀ j, j < k → okBand (vals (rd l i) j) = true) (fun k => 4 - k) 0 ⟨by omega, fun j hj => by omega⟩ (by rfl) (by rfl) (fun k hk => ?_)
      obtain ⟨hk, hokk⟩ := hk
      simp (maxSteps := 400000) (disch := omega) only [push_cast, ↓reduceIte, reduceCtorEq, Nat.reduceAdd, Nat.reduceSub, Nat.reduceEqDiff, Nat.reduceLeDiff, Nat.reduceLT, Nat.reduceBEq, Nat.reduceDiv, Nat.reduceMod, Nat.reducePow, Nat.reduceMul, Int.reduceToNat, Int.reduceLT, Int.reduceLE]
      repeat' (first | refine WK_go ?_ | refine W_seqL ?_ | refine W_seq ?_ | (refine W_regL ?_; simp (maxSteps := 400000) (disch := omega) only [push_cast, ↓reduceIte, reduceCtorEq, Nat.reduceAdd, Nat.reduceSub, Nat.reduceEqDiff, Nat.reduceLeDiff, Nat.reduceLT, Nat.reduceBEq, Nat.reduceDiv, Nat.reduceMod, Nat.reducePow, Nat.reduceMul, Int.reduceToNat, Int.reduceLT, Int.reduceLE]) | refine W_block ?_ | (refine W_skip ?_; simp (maxSteps := 400000) (disch := omega) only [push_cast, ↓reduceIte, reduceCtorEq, Nat.reduceAdd, Nat.reduceSub, Nat.reduceEqDiff, Nat.reduceLeDiff, Nat.reduceLT, Nat.reduceBEq, Nat.reduceDiv, Nat.reduceMod, Nat.reducePow, Nat.reduceMul, Int.reduceToNat, Int.reduceLT, Int.reduceLE]) | (refine W_exit ?_; simp (maxSteps := 400000) (disch := omega) only [push_cast, ↓reduceIte, reduceCtorEq, Nat.reduceAdd, Nat.reduceSub, Nat.reduceEqDiff, Nat.reduceLeDiff, Nat.reduceLT, Nat.reduceBEq, Nat.reduceDiv, Nat.reduceMod, Nat.reducePow, Nat.reduceMul, Int.reduceToNat, Int.reduceLT, Int.reduceLE]) | refine And.intro (by omega) ?_ | refine And.intro (by intro hq; (try simp only [Bool.and_eq_true, Bool.or_eq_true, Bool.and_eq_false_iff, Bool.or_eq_false_iff, decide_eq_true_eq, decide_eq_false_iff_not, Bool.not_eq_true', Bool.not_eq_false', beq_iff_eq, beq_eq_false_iff_ne, ne_eq] at hq); omega) ?_ | fail)
      refine W_condD (by rfl) (fun h => ?_) (fun h => ?_)
      · have hk4 : k < 4 := by omega
        repeat' (first | refine WK_go ?_ | refine W_seqL ?_ | refine W_seq ?_ | (refine W_regL ?_; simp (maxSteps := 400000) (disch := omega) only [push_cast, ↓reduceIte, reduceCtorEq, Nat.reduceAdd, Nat.reduceSub, Nat.reduceEqDiff, Nat.reduceLeDiff, Nat.reduceLT, Nat.reduceBEq, Nat.reduceDiv, Nat.reduceMod, Nat.reducePow, Nat.reduceMul, Int.reduceToNat, Int.reduceLT, Int.reduceLE]) | refine W_block ?_ | (refine W_skip ?_; simp (maxSteps := 400000) (disch := omega) only [push_cast, ↓reduceIte, reduceCtorEq, Nat.reduceAdd, Nat.reduceSub, Nat.reduceEqDiff, Nat.reduceLeDiff, Nat.reduceLT, Nat.reduceBEq, Nat.reduceDiv, Nat.reduceMod, Nat.reducePow, Nat.reduceMul, Int.reduceToNat, Int.reduceLT, Int.reduceLE]) | (refine W_exit ?_; simp (maxSteps := 400000) (disch := omega) only [push_cast, ↓reduceIte, reduceCtorEq, Nat.reduceAdd, Nat.reduceSub, Nat.reduceEqDiff, Nat.reduceLeDiff, Nat.reduceLT, Nat.reduceBEq, Nat.reduceDiv, Nat.reduceMod, Nat.reducePow, Nat.reduceMul, Int.reduceToNat, Int.reduceLT, Int.reduceLE]) | refine And.intro (by omega) ?_ | refine And.intro (by intro hq; (try simp only [Bool.and_eq_true, Bool.or_eq_true, Bool.and_eq_false_iff, Bool.or_eq_false_iff, decide_eq_true_eq, decide_eq_false_iff_not, Bool.not_eq_true', Bool.not_eq_false', beq_iff_eq, beq_eq_false_iff_ne, ne_eq] at hq); omega) ?_ | (refine CallC.now (fn52 _) ?_; simp (maxSteps := 400000) (disch := omega) only [push_cast, ↓reduceIte, reduceCtorEq, Nat.reduceAdd, Nat.reduceSub, Nat.reduceEqDiff, Nat.reduceLeDiff, Nat.reduceLT, Nat.reduceBEq, Nat.reduceDiv, Nat.reduceMod, Nat.reducePow, Nat.reduceMul, Int.reduceToNat, Int.reduceLT, Int.reduceLE]) | fail)
        refine W_cond (by rfl) (fun hb => ?_) (fun hb => ?_)
        · repeat' (first | refine WK_go ?_ | refine W_seqL ?_ | refine W_seq ?_ | (refine W_regL ?_; simp (maxSteps := 400000) (disch := omega) only [push_cast, ↓reduceIte, reduceCtorEq, Nat.reduceAdd, Nat.reduceSub, Nat.reduceEqDiff, Nat.reduceLeDiff, Nat.reduceLT, Nat.reduceBEq, Nat.reduceDiv, Nat.reduceMod, Nat.reducePow, Nat.reduceMul, Int.reduceToNat, Int.reduceLT, Int.reduceLE]) | refine W_block ?_ | (refine W_skip ?_; simp (maxSteps := 400000) (disch := omega) only [push_cast, ↓reduceIte, reduceCtorEq, Nat.reduceAdd, Nat.reduceSub, Nat.reduceEqDiff, Nat.reduceLeDiff, Nat.reduceLT, Nat.reduceBEq, Nat.reduceDiv, Nat.reduceMod, Nat.reducePow, Nat.reduceMul, Int.reduceToNat, Int.reduceLT, Int.reduceLE]) | (refine W_exit ?_; simp (maxSteps := 400000) (disch := omega) only [push_cast, ↓reduceIte, reduceCtorEq, Nat.reduceAdd, Nat.reduceSub, Nat.reduceEqDiff, Nat.reduceLeDiff, Nat.reduceLT, Nat.reduceBEq, Nat.reduceDiv, Nat.reduceMod, Nat.reducePow, Nat.reduceMul, Int.reduceToNat, Int.reduceLT, Int.reduceLE]) | refine And.intro (by omega) ?_ | refine And.intro (by intro hq; (try simp only [Bool.and_eq_true, Bool.or_eq_true, Bool.and_eq_false_iff, Bool.or_eq_false_iff, decide_eq_true_eq, decide_eq_false_iff_not, Bool.not_eq_true', Bool.not_eq_false', beq_iff_eq, beq_eq_false_iff_ne, ne_eq] at hq); omega) ?_ | fail)
          have hbad : okR l i = false := by
            unfold okR
            rw [not_all_range hk4 (by simpa using hb), Bool.and_false]
          exact W_ret ⟨[_], ⟨rfl, rfl⟩, by rw [chk_bad hn64 hn2 hlt hbad]; rfl⟩
        repeat' (first | refine WK_go ?_ | refine W_seqL ?_ | refine W_seq ?_ | (refine W_regL ?_; simp (maxSteps := 400000) (disch := omega) only [push_cast, ↓reduceIte, reduceCtorEq, Nat.reduceAdd, Nat.reduceSub, Nat.reduceEqDiff, Nat.reduceLeDiff, Nat.reduceLT, Nat.reduceBEq, Nat.reduceDiv, Nat.reduceMod, Nat.reducePow, Nat.reduceMul, Int.reduceToNat, Int.reduceLT, Int.reduceLE]) | refine W_block ?_ | (refine W_skip ?_; simp (maxSteps := 400000) (disch := omega) only [push_cast, ↓reduceIte, reduceCtorEq, Nat.reduceAdd, Nat.reduceSub, Nat.reduceEqDiff, Nat.reduceLeDiff, Nat.reduceLT, Nat.reduceBEq, Nat.reduceDiv, Nat.reduceMod, Nat.reducePow, Nat.reduceMul, Int.reduceToNat, Int.reduceLT, Int.reduceLE]) | (refine W_exit ?_; simp (maxSteps := 400000) (disch := omega) only [push_cast, ↓reduceIte, reduceCtorEq, Nat.reduceAdd, Nat.reduceSub, Nat.reduceEqDiff, Nat.reduceLeDiff, Nat.reduceLT, Nat.reduceBEq, Nat.reduceDiv, Nat.reduceMod, Nat.reducePow, Nat.reduceMul, Int.reduceToNat, Int.reduceLT, Int.reduceLE]) | refine And.intro (by omega) ?_ | refine And.intro (by intro hq; (try simp only [Bool.and_eq_true, Bool.or_eq_true, Bool.and_eq_false_iff, Bool.or_eq_false_iff, decide_eq_true_eq, decide_eq_false_iff_not, Bool.not_eq_true', Bool.not_eq_false', beq_iff_eq, beq_eq_false_iff_ne, ne_eq] at hq); omega) ?_ | fail)
        refine ⟨k + 1, ⟨by omega, up_all hokk (by simpa using hb)⟩, by omega, by rfl, ?_⟩
        simp (maxSteps := 400000) (disch := omega) only [push_cast, ↓reduceIte, reduceCtorEq, Nat.reduceAdd, Nat.reduceSub, Nat.reduceEqDiff, Nat.reduceLeDiff, Nat.reduceLT, Nat.reduceBEq, Nat.reduceDiv, Nat.reduceMod, Nat.reducePow, Nat.reduceMul, Int.reduceToNat, Int.reduceLT, Int.reduceLE, S.mk.injEq, List.cons.injEq, Prod.mk.injEq, AV.v.injEq, Value.int.injEq, Value.bool.injEq, Blk.cells.injEq]
      · repeat' (first | refine WK_go ?_ | refine W_seqL ?_ | refine W_seq ?_ | (refine W_regL ?_; simp (maxSteps := 400000) (disch := omega) only [push_cast, ↓reduceIte, reduceCtorEq, Nat.reduceAdd, Nat.reduceSub, Nat.reduceEqDiff, Nat.reduceLeDiff, Nat.reduceLT, Nat.reduceBEq, Nat.reduceDiv, Nat.reduceMod, Nat.reducePow, Nat.reduceMul, Int.reduceToNat, Int.reduceLT, Int.reduceLE]) | refine W_block ?_ | (refine W_skip ?_; simp (maxSteps := 400000) (disch := omega) only [push_cast, ↓reduceIte, reduceCtorEq, Nat.reduceAdd, Nat.reduceSub, Nat.reduceEqDiff, Nat.reduceLeDiff, Nat.reduceLT, Nat.reduceBEq, Nat.reduceDiv, Nat.reduceMod, Nat.reducePow, Nat.reduceMul, Int.reduceToNat, Int.reduceLT, Int.reduceLE]) | (refine W_exit ?_; simp (maxSteps := 400000) (disch := omega) only [push_cast, ↓reduceIte, reduceCtorEq, Nat.reduceAdd, Nat.reduceSub, Nat.reduceEqDiff, Nat.reduceLeDiff, Nat.reduceLT, Nat.reduceBEq, Nat.reduceDiv, Nat.reduceMod, Nat.reducePow, Nat.reduceMul, Int.reduceToNat, Int.reduceLT, Int.reduceLE]) | refine And.intro (by omega) ?_ | refine And.intro (by intro hq; (try simp only [Bool.and_eq_true, Bool.or_eq_true, Bool.and_eq_false_iff, Bool.or_eq_false_iff, decide_eq_true_eq, decide_eq_false_iff_not, Bool.not_eq_true', Bool.not_eq_false', beq_iff_eq, beq_eq_false_iff_ne, ne_eq] at hq); omega) ?_ | fail)
        refine ⟨i + 1, ⟨by omega, up_all hok ?_⟩, by omega, by rfl, ?_⟩
        · unfold okR
          rw [hx1, hx2, hx3, hgood, all_range.2 (fun j hj => hokk j (by omega))]; rfl
        · simp (maxSteps := 400000) (disch := omega) only [push_cast, ↓reduceIte, reduceCtorEq, Nat.reduceAdd, Nat.reduceSub, Nat.reduceEqDiff, Nat.reduceLeDiff, Nat.reduceLT, Nat.reduceBEq, Nat.reduceDiv, Nat.reduceMod, Nat.reducePow, Nat.reduceMul, Int.reduceToNat, Int.reduceLT, Int.reduceLE, S.mk.injEq, List.cons.injEq, Prod.mk.injEq, AV.v.injEq, Value.int.injEq, Value.bool.injEq, Blk.cells.injEq]
    · repeat' (first | refine WK_go ?_ | refine W_seqL ?_ | refine W_seq ?_ | (refine W_regL ?_; simp (maxSteps := 400000) (disch := omega) only [push_cast, ↓reduceIte, reduceCtorEq, Nat.reduceAdd, Nat.reduceSub, Nat.reduceEqDiff, Nat.reduceLeDiff, Nat.reduceLT, Nat.reduceBEq, Nat.reduceDiv, Nat.reduceMod, Nat.reducePow, Nat.reduceMul, Int.reduceToNat, Int.reduceLT, Int.reduceLE]) | refine W_block ?_ | (refine W_skip ?_; simp (maxSteps := 400000) (disch := omega) only [push_cast, ↓reduceIte, reduceCtorEq, Nat.reduceAdd, Nat.reduceSub, Nat.reduceEqDiff, Nat.reduceLeDiff, Nat.reduceLT, Nat.reduceBEq, Nat.reduceDiv, Nat.reduceMod, Nat.reducePow, Nat.reduceMul, Int.reduceToNat, Int.reduceLT, Int.reduceLE]) | (refine W_exit ?_; simp (maxSteps := 400000) (disch := omega) only [push_cast, ↓reduceIte, reduceCtorEq, Nat.reduceAdd, Nat.reduceSub, Nat.reduceEqDiff, Nat.reduceLeDiff, Nat.reduceLT, Nat.reduceBEq, Nat.reduceDiv, Nat.reduceMod, Nat.reducePow, Nat.reduceMul, Int.reduceToNat, Int.reduceLT, Int.reduceLE]) | refine And.intro (by omega) ?_ | refine And.intro (by intro hq; (try simp only [Bool.and_eq_true, Bool.or_eq_true, Bool.and_eq_false_iff, Bool.or_eq_false_iff, decide_eq_true_eq, decide_eq_false_iff_not, Bool.not_eq_true', Bool.not_eq_false', beq_iff_eq, beq_eq_false_iff_ne, ne_eq] at hq); omega) ?_ | fail)
      refine ⟨fun j hj => hok j (by omega), ?_⟩
      (first | rfl | exact ⟨by rfl, by rfl⟩ | (refine ⟨by rfl, ?_⟩; simp (maxSteps := 400000) (disch := omega) only [push_cast, ↓reduceIte, reduceCtorEq, Nat.reduceAdd, Nat.reduceSub, Nat.reduceEqDiff, Nat.reduceLeDiff, Nat.reduceLT, Nat.reduceBEq, Nat.reduceDiv, Nat.reduceMod, Nat.reducePow, Nat.reduceMul, Int.reduceToNat, Int.reduceLT, Int.reduceLE, S.mk.injEq, List.cons.injEq, Prod.mk.injEq, AV.v.injEq, Value.int.injEq, Value.bool.injEq, Blk.cells.injEq]))
  have e1 : ((l.rs.length : Int) - 1).toNat = l.rs.length - 1 := by omega
  have hat : ∀ j, j < l.rs.length → 0 ≤ (rd l j).at_ ∧ (rd l j).at_ ≤ 1099511627776 := fun j hj => by
    have := hR j hj
    simp only [okR, Bool.and_eq_true, decide_eq_true_eq] at this
    exact this.1.1.1
  have htn : l.rs.getD (l.rs.length - 1) dR = rd l (l.rs.length - 1) := rfl
  have ht0 : l.rs.getD 0 dR = rd l 0 := rfl
  have b1 := hat (l.rs.length - 1) (by omega)
  have b2 := hat 0 (by omega)
  simp (maxSteps := 400000) (disch := omega) only [push_cast, ↓reduceIte, reduceCtorEq, Nat.reduceAdd, Nat.reduceSub, Nat.reduceEqDiff, Nat.reduceLeDiff, Nat.reduceLT, Nat.reduceBEq, Nat.reduceDiv, Nat.reduceMod, Nat.reducePow, Nat.reduceMul, Int.reduceToNat, Int.reduceLT, Int.reduceLE]
  repeat' (first | refine WK_go ?_ | refine W_seqL ?_ | refine W_seq ?_ | (refine W_regL ?_; simp (maxSteps := 400000) (disch := omega) only [push_cast, ↓reduceIte, reduceCtorEq, Nat.reduceAdd, Nat.reduceSub, Nat.reduceEqDiff, Nat.reduceLeDiff, Nat.reduceLT, Nat.reduceBEq, Nat.reduceDiv, Nat.reduceMod, Nat.reducePow, Nat.reduceMul, Int.reduceToNat, Int.reduceLT, Int.reduceLE, e1, htn, ht0]) | refine W_block ?_ | (refine W_skip ?_; simp (maxSteps := 400000) (disch := omega) only [push_cast, ↓reduceIte, reduceCtorEq, Nat.reduceAdd, Nat.reduceSub, Nat.reduceEqDiff, Nat.reduceLeDiff, Nat.reduceLT, Nat.reduceBEq, Nat.reduceDiv, Nat.reduceMod, Nat.reducePow, Nat.reduceMul, Int.reduceToNat, Int.reduceLT, Int.reduceLE, e1, htn, ht0]) | (refine W_exit ?_; simp (maxSteps := 400000) (disch := omega) only [push_cast, ↓reduceIte, reduceCtorEq, Nat.reduceAdd, Nat.reduceSub, Nat.reduceEqDiff, Nat.reduceLeDiff, Nat.reduceLT, Nat.reduceBEq, Nat.reduceDiv, Nat.reduceMod, Nat.reducePow, Nat.reduceMul, Int.reduceToNat, Int.reduceLT, Int.reduceLE, e1, htn, ht0]) | refine And.intro (by omega) ?_ | refine And.intro (by intro hq; (try simp only [Bool.and_eq_true, Bool.or_eq_true, Bool.and_eq_false_iff, Bool.or_eq_false_iff, decide_eq_true_eq, decide_eq_false_iff_not, Bool.not_eq_true', Bool.not_eq_false', beq_iff_eq, beq_eq_false_iff_ne, ne_eq] at hq); omega) ?_ | fail)
  refine W_condD (by rfl) (fun h => ?_) (fun h => ?_)
  · repeat' (first | refine WK_go ?_ | refine W_seqL ?_ | refine W_seq ?_ | (refine W_regL ?_; simp (maxSteps := 400000) (disch := omega) only [push_cast, ↓reduceIte, reduceCtorEq, Nat.reduceAdd, Nat.reduceSub, Nat.reduceEqDiff, Nat.reduceLeDiff, Nat.reduceLT, Nat.reduceBEq, Nat.reduceDiv, Nat.reduceMod, Nat.reducePow, Nat.reduceMul, Int.reduceToNat, Int.reduceLT, Int.reduceLE]) | refine W_block ?_ | (refine W_skip ?_; simp (maxSteps := 400000) (disch := omega) only [push_cast, ↓reduceIte, reduceCtorEq, Nat.reduceAdd, Nat.reduceSub, Nat.reduceEqDiff, Nat.reduceLeDiff, Nat.reduceLT, Nat.reduceBEq, Nat.reduceDiv, Nat.reduceMod, Nat.reducePow, Nat.reduceMul, Int.reduceToNat, Int.reduceLT, Int.reduceLE]) | (refine W_exit ?_; simp (maxSteps := 400000) (disch := omega) only [push_cast, ↓reduceIte, reduceCtorEq, Nat.reduceAdd, Nat.reduceSub, Nat.reduceEqDiff, Nat.reduceLeDiff, Nat.reduceLT, Nat.reduceBEq, Nat.reduceDiv, Nat.reduceMod, Nat.reducePow, Nat.reduceMul, Int.reduceToNat, Int.reduceLT, Int.reduceLE]) | refine And.intro (by omega) ?_ | refine And.intro (by intro hq; (try simp only [Bool.and_eq_true, Bool.or_eq_true, Bool.and_eq_false_iff, Bool.or_eq_false_iff, decide_eq_true_eq, decide_eq_false_iff_not, Bool.not_eq_true', Bool.not_eq_false', beq_iff_eq, beq_eq_false_iff_ne, ne_eq] at hq); omega) ?_ | fail)
    exact W_ret ⟨[_], ⟨rfl, rfl⟩, by unfold chkLog; rw [if_neg (by omega), if_neg (by omega), if_neg (by rw [all_range.2 hR]; simp), if_pos (show tn l - t0 l > 2000 from h)]; rfl⟩
  have hspan : ¬ (tn l - t0 l > 2000) := h
  refine W_skip ?_
  simp (maxSteps := 400000) (disch := omega) only [push_cast, ↓reduceIte, reduceCtorEq, Nat.reduceAdd, Nat.reduceSub, Nat.reduceEqDiff, Nat.reduceLeDiff, Nat.reduceLT, Nat.reduceBEq, Nat.reduceDiv, Nat.reduceMod, Nat.reducePow, Nat.reduceMul, Int.reduceToNat, Int.reduceLT, Int.reduceLE]
  refine WK_go (W_seqL (W_meetF [] [] (okD4 l = true) ?_ (fun hD => ?_)))
  · repeat' (first | refine WK_go ?_ | refine W_seqL ?_ | refine W_seq ?_ | (refine W_regL ?_; simp (maxSteps := 400000) (disch := omega) only [push_cast, ↓reduceIte, reduceCtorEq, Nat.reduceAdd, Nat.reduceSub, Nat.reduceEqDiff, Nat.reduceLeDiff, Nat.reduceLT, Nat.reduceBEq, Nat.reduceDiv, Nat.reduceMod, Nat.reducePow, Nat.reduceMul, Int.reduceToNat, Int.reduceLT, Int.reduceLE]) | refine W_block ?_ | (refine W_skip ?_; simp (maxSteps := 400000) (disch := omega) only [push_cast, ↓reduceIte, reduceCtorEq, Nat.reduceAdd, Nat.reduceSub, Nat.reduceEqDiff, Nat.reduceLeDiff, Nat.reduceLT, Nat.reduceBEq, Nat.reduceDiv, Nat.reduceMod, Nat.reducePow, Nat.reduceMul, Int.reduceToNat, Int.reduceLT, Int.reduceLE]) | (refine W_exit ?_; simp (maxSteps := 400000) (disch := omega) only [push_cast, ↓reduceIte, reduceCtorEq, Nat.reduceAdd, Nat.reduceSub, Nat.reduceEqDiff, Nat.reduceLeDiff, Nat.reduceLT, Nat.reduceBEq, Nat.reduceDiv, Nat.reduceMod, Nat.reducePow, Nat.reduceMul, Int.reduceToNat, Int.reduceLT, Int.reduceLE]) | refine And.intro (by omega) ?_ | refine And.intro (by intro hq; (try simp only [Bool.and_eq_true, Bool.or_eq_true, Bool.and_eq_false_iff, Bool.or_eq_false_iff, decide_eq_true_eq, decide_eq_false_iff_not, Bool.not_eq_true', Bool.not_eq_false', beq_iff_eq, beq_eq_false_iff_ne, ne_eq] at hq); omega) ?_ | fail)
    refine W_loopU (fun k : Nat => [(7, iv k)]) (fun k => []) (fun k => k ≤ 4 ∧ ∀ j, j < k → (decide (0 ≤ drift l j) && decide (drift l j ≤ 1048576)) = true) (fun k => 4 - k) 0 ⟨by omega, fun j hj => by omega⟩ (by rfl) (by rfl) (fun k hk => ?_)
    obtain ⟨hk, hokk⟩ := hk
    simp (maxSteps := 400000) (disch := omega) only [push_cast, ↓reduceIte, reduceCtorEq, Nat.reduceAdd, Nat.reduceSub, Nat.reduceEqDiff, Nat.reduceLeDiff, Nat.reduceLT, Nat.reduceBEq, Nat.reduceDiv, Nat.reduceMod, Nat.reducePow, Nat.reduceMul, Int.reduceToNat, Int.reduceLT, Int.reduceLE]
    repeat' (first | refine WK_go ?_ | refine W_seqL ?_ | refine W_seq ?_ | (refine W_regL ?_; simp (maxSteps := 400000) (disch := omega) only [push_cast, ↓reduceIte, reduceCtorEq, Nat.reduceAdd, Nat.reduceSub, Nat.reduceEqDiff, Nat.reduceLeDiff, Nat.reduceLT, Nat.reduceBEq, Nat.reduceDiv, Nat.reduceMod, Nat.reducePow, Nat.reduceMul, Int.reduceToNat, Int.reduceLT, Int.reduceLE]) | refine W_block ?_ | (refine W_skip ?_; simp (maxSteps := 400000) (disch := omega) only [push_cast, ↓reduceIte, reduceCtorEq, Nat.reduceAdd, Nat.reduceSub, Nat.reduceEqDiff, Nat.reduceLeDiff, Nat.reduceLT, Nat.reduceBEq, Nat.reduceDiv, Nat.reduceMod, Nat.reducePow, Nat.reduceMul, Int.reduceToNat, Int.reduceLT, Int.reduceLE]) | (refine W_exit ?_; simp (maxSteps := 400000) (disch := omega) only [push_cast, ↓reduceIte, reduceCtorEq, Nat.reduceAdd, Nat.reduceSub, Nat.reduceEqDiff, Nat.reduceLeDiff, Nat.reduceLT, Nat.reduceBEq, Nat.reduceDiv, Nat.reduceMod, Nat.reducePow, Nat.reduceMul, Int.reduceToNat, Int.reduceLT, Int.reduceLE]) | refine And.intro (by omega) ?_ | refine And.intro (by intro hq; (try simp only [Bool.and_eq_true, Bool.or_eq_true, Bool.and_eq_false_iff, Bool.or_eq_false_iff, decide_eq_true_eq, decide_eq_false_iff_not, Bool.not_eq_true', Bool.not_eq_false', beq_iff_eq, beq_eq_false_iff_ne, ne_eq] at hq); omega) ?_ | fail)
    refine W_condD (by rfl) (fun h => ?_) (fun h => ?_)
    · have hk4 : k < 4 := by omega
      repeat' (first | refine WK_go ?_ | refine W_seqL ?_ | refine W_seq ?_ | (refine W_regL ?_; simp (maxSteps := 400000) (disch := omega) only [push_cast, ↓reduceIte, reduceCtorEq, Nat.reduceAdd, Nat.reduceSub, Nat.reduceEqDiff, Nat.reduceLeDiff, Nat.reduceLT, Nat.reduceBEq, Nat.reduceDiv, Nat.reduceMod, Nat.reducePow, Nat.reduceMul, Int.reduceToNat, Int.reduceLT, Int.reduceLE]) | refine W_block ?_ | (refine W_skip ?_; simp (maxSteps := 400000) (disch := omega) only [push_cast, ↓reduceIte, reduceCtorEq, Nat.reduceAdd, Nat.reduceSub, Nat.reduceEqDiff, Nat.reduceLeDiff, Nat.reduceLT, Nat.reduceBEq, Nat.reduceDiv, Nat.reduceMod, Nat.reducePow, Nat.reduceMul, Int.reduceToNat, Int.reduceLT, Int.reduceLE]) | (refine W_exit ?_; simp (maxSteps := 400000) (disch := omega) only [push_cast, ↓reduceIte, reduceCtorEq, Nat.reduceAdd, Nat.reduceSub, Nat.reduceEqDiff, Nat.reduceLeDiff, Nat.reduceLT, Nat.reduceBEq, Nat.reduceDiv, Nat.reduceMod, Nat.reducePow, Nat.reduceMul, Int.reduceToNat, Int.reduceLT, Int.reduceLE]) | refine And.intro (by omega) ?_ | refine And.intro (by intro hq; (try simp only [Bool.and_eq_true, Bool.or_eq_true, Bool.and_eq_false_iff, Bool.or_eq_false_iff, decide_eq_true_eq, decide_eq_false_iff_not, Bool.not_eq_true', Bool.not_eq_false', beq_iff_eq, beq_eq_false_iff_ne, ne_eq] at hq); omega) ?_ | (refine CallC.now (fn50 _ _ _) ?_; simp (maxSteps := 400000) (disch := omega) only [push_cast, ↓reduceIte, reduceCtorEq, Nat.reduceAdd, Nat.reduceSub, Nat.reduceEqDiff, Nat.reduceLeDiff, Nat.reduceLT, Nat.reduceBEq, Nat.reduceDiv, Nat.reduceMod, Nat.reducePow, Nat.reduceMul, Int.reduceToNat, Int.reduceLT, Int.reduceLE]) | fail)
      refine W_cond (by rfl) (fun hb => ?_) (fun hb => ?_)
      · repeat' (first | refine WK_go ?_ | refine W_seqL ?_ | refine W_seq ?_ | (refine W_regL ?_; simp (maxSteps := 400000) (disch := omega) only [push_cast, ↓reduceIte, reduceCtorEq, Nat.reduceAdd, Nat.reduceSub, Nat.reduceEqDiff, Nat.reduceLeDiff, Nat.reduceLT, Nat.reduceBEq, Nat.reduceDiv, Nat.reduceMod, Nat.reducePow, Nat.reduceMul, Int.reduceToNat, Int.reduceLT, Int.reduceLE]) | refine W_block ?_ | (refine W_skip ?_; simp (maxSteps := 400000) (disch := omega) only [push_cast, ↓reduceIte, reduceCtorEq, Nat.reduceAdd, Nat.reduceSub, Nat.reduceEqDiff, Nat.reduceLeDiff, Nat.reduceLT, Nat.reduceBEq, Nat.reduceDiv, Nat.reduceMod, Nat.reducePow, Nat.reduceMul, Int.reduceToNat, Int.reduceLT, Int.reduceLE]) | (refine W_exit ?_; simp (maxSteps := 400000) (disch := omega) only [push_cast, ↓reduceIte, reduceCtorEq, Nat.reduceAdd, Nat.reduceSub, Nat.reduceEqDiff, Nat.reduceLeDiff, Nat.reduceLT, Nat.reduceBEq, Nat.reduceDiv, Nat.reduceMod, Nat.reducePow, Nat.reduceMul, Int.reduceToNat, Int.reduceLT, Int.reduceLE]) | refine And.intro (by omega) ?_ | refine And.intro (by intro hq; (try simp only [Bool.and_eq_true, Bool.or_eq_true, Bool.and_eq_false_iff, Bool.or_eq_false_iff, decide_eq_true_eq, decide_eq_false_iff_not, Bool.not_eq_true', Bool.not_eq_false', beq_iff_eq, beq_eq_false_iff_ne, ne_eq] at hq); omega) ?_ | fail)
        exact W_ret ⟨[_], ⟨rfl, rfl⟩, by
          unfold chkLog
          rw [if_neg (by omega), if_neg (by omega), if_neg (by rw [all_range.2 hR]; simp), if_neg hspan, if_pos (by unfold okD4; exact not_all_range hk4 (by rw [← Bool.not_eq_true']; exact hb))]; rfl⟩
      repeat' (first | refine WK_go ?_ | refine W_seqL ?_ | refine W_seq ?_ | (refine W_regL ?_; simp (maxSteps := 400000) (disch := omega) only [push_cast, ↓reduceIte, reduceCtorEq, Nat.reduceAdd, Nat.reduceSub, Nat.reduceEqDiff, Nat.reduceLeDiff, Nat.reduceLT, Nat.reduceBEq, Nat.reduceDiv, Nat.reduceMod, Nat.reducePow, Nat.reduceMul, Int.reduceToNat, Int.reduceLT, Int.reduceLE]) | refine W_block ?_ | (refine W_skip ?_; simp (maxSteps := 400000) (disch := omega) only [push_cast, ↓reduceIte, reduceCtorEq, Nat.reduceAdd, Nat.reduceSub, Nat.reduceEqDiff, Nat.reduceLeDiff, Nat.reduceLT, Nat.reduceBEq, Nat.reduceDiv, Nat.reduceMod, Nat.reducePow, Nat.reduceMul, Int.reduceToNat, Int.reduceLT, Int.reduceLE]) | (refine W_exit ?_; simp (maxSteps := 400000) (disch := omega) only [push_cast, ↓reduceIte, reduceCtorEq, Nat.reduceAdd, Nat.reduceSub, Nat.reduceEqDiff, Nat.reduceLeDiff, Nat.reduceLT, Nat.reduceBEq, Nat.reduceDiv, Nat.reduceMod, Nat.reducePow, Nat.reduceMul, Int.reduceToNat, Int.reduceLT, Int.reduceLE]) | refine And.intro (by omega) ?_ | refine And.intro (by intro hq; (try simp only [Bool.and_eq_true, Bool.or_eq_true, Bool.and_eq_false_iff, Bool.or_eq_false_iff, decide_eq_true_eq, decide_eq_false_iff_not, Bool.not_eq_true', Bool.not_eq_false', beq_iff_eq, beq_eq_false_iff_ne, ne_eq] at hq); omega) ?_ | fail)
      refine ⟨k + 1, ⟨by omega, up_all hokk (by simpa using hb)⟩, by omega, by rfl, ?_⟩
      simp (maxSteps := 400000) (disch := omega) only [push_cast, ↓reduceIte, reduceCtorEq, Nat.reduceAdd, Nat.reduceSub, Nat.reduceEqDiff, Nat.reduceLeDiff, Nat.reduceLT, Nat.reduceBEq, Nat.reduceDiv, Nat.reduceMod, Nat.reducePow, Nat.reduceMul, Int.reduceToNat, Int.reduceLT, Int.reduceLE, S.mk.injEq, List.cons.injEq, Prod.mk.injEq, AV.v.injEq, Value.int.injEq, Value.bool.injEq, Blk.cells.injEq]
    · repeat' (first | refine WK_go ?_ | refine W_seqL ?_ | refine W_seq ?_ | (refine W_regL ?_; simp (maxSteps := 400000) (disch := omega) only [push_cast, ↓reduceIte, reduceCtorEq, Nat.reduceAdd, Nat.reduceSub, Nat.reduceEqDiff, Nat.reduceLeDiff, Nat.reduceLT, Nat.reduceBEq, Nat.reduceDiv, Nat.reduceMod, Nat.reducePow, Nat.reduceMul, Int.reduceToNat, Int.reduceLT, Int.reduceLE]) | refine W_block ?_ | (refine W_skip ?_; simp (maxSteps := 400000) (disch := omega) only [push_cast, ↓reduceIte, reduceCtorEq, Nat.reduceAdd, Nat.reduceSub, Nat.reduceEqDiff, Nat.reduceLeDiff, Nat.reduceLT, Nat.reduceBEq, Nat.reduceDiv, Nat.reduceMod, Nat.reducePow, Nat.reduceMul, Int.reduceToNat, Int.reduceLT, Int.reduceLE]) | (refine W_exit ?_; simp (maxSteps := 400000) (disch := omega) only [push_cast, ↓reduceIte, reduceCtorEq, Nat.reduceAdd, Nat.reduceSub, Nat.reduceEqDiff, Nat.reduceLeDiff, Nat.reduceLT, Nat.reduceBEq, Nat.reduceDiv, Nat.reduceMod, Nat.reducePow, Nat.reduceMul, Int.reduceToNat, Int.reduceLT, Int.reduceLE]) | refine And.intro (by omega) ?_ | refine And.intro (by intro hq; (try simp only [Bool.and_eq_true, Bool.or_eq_true, Bool.and_eq_false_iff, Bool.or_eq_false_iff, decide_eq_true_eq, decide_eq_false_iff_not, Bool.not_eq_true', Bool.not_eq_false', beq_iff_eq, beq_eq_false_iff_ne, ne_eq] at hq); omega) ?_ | fail)
      refine ⟨all_range.2 (fun j hj => hokk j (by omega)), ?_⟩
      (first | rfl | exact ⟨by rfl, by rfl⟩ | (refine ⟨by rfl, ?_⟩; simp (maxSteps := 400000) (disch := omega) only [push_cast, ↓reduceIte, reduceCtorEq, Nat.reduceAdd, Nat.reduceSub, Nat.reduceEqDiff, Nat.reduceLeDiff, Nat.reduceLT, Nat.reduceBEq, Nat.reduceDiv, Nat.reduceMod, Nat.reducePow, Nat.reduceMul, Int.reduceToNat, Int.reduceLT, Int.reduceLE, S.mk.injEq, List.cons.injEq, Prod.mk.injEq, AV.v.injEq, Value.int.injEq, Value.bool.injEq, Blk.cells.injEq]))
  have hg : Good l := {
    n2 := hn2
    n64 := hn64
    at0 := hat
    inc := fun i hi => by
      have := hR (i + 1) hi
      simp only [okR, Bool.and_eq_true, Bool.not_eq_true', Bool.and_eq_false_iff, decide_eq_false_iff_not, Nat.add_sub_cancel] at this
      have := this.1.1.2
      omega
    pl := fun i hi => by
      have := hR i hi
      simp only [okR, Bool.and_eq_true] at this
      exact this.1.2
    vl := fun i k hi hk => by
      have := hR i hi
      simp only [okR, Bool.and_eq_true] at this
      exact all_range.1 this.2 k hk
    span := by omega
    dr := fun k hk => by
      have := all_range.1 hD k hk
      simpa using this }
  have htt : 0 ≤ tn l - t0 l := by
    have := (hg.tI (i := 0) (by omega))
    omega
  obtain ⟨L, hL⟩ : ∃ L : Nat, tn l - t0 l = L := ⟨(tn l - t0 l).toNat, by omega⟩
  have hLn : (tn l - t0 l + 1).toNat = L + 1 := by omega
  have c53 := fn53 l (by omega) (by omega) (by unfold tn; omega) (by unfold t0; omega)
  rw [hL] at c53
  have hbadM : ∀ m, m < L + 1 → okM l m = false → chkLog l = 16 := fun m hm hf => by
    unfold chkLog
    rw [if_neg (by omega), if_neg (by omega), if_neg (by rw [all_range.2 hR]; simp), if_neg hspan, if_neg (by rw [hD]; simp), hLn, if_pos (not_all_range hm hf)]
  simp (maxSteps := 400000) (disch := omega) only [push_cast, ↓reduceIte, reduceCtorEq, Nat.reduceAdd, Nat.reduceSub, Nat.reduceEqDiff, Nat.reduceLeDiff, Nat.reduceLT, Nat.reduceBEq, Nat.reduceDiv, Nat.reduceMod, Nat.reducePow, Nat.reduceMul, Int.reduceToNat, Int.reduceLT, Int.reduceLE]
  refine W_seqL (W_meetF [] [] (∀ j, j < L + 1 → okM l j = true) ?_ (fun hM => ?_))
  · repeat' (first | refine WK_go ?_ | refine W_seqL ?_ | refine W_seq ?_ | (refine W_regL ?_; simp (maxSteps := 400000) (disch := omega) only [push_cast, ↓reduceIte, reduceCtorEq, Nat.reduceAdd, Nat.reduceSub, Nat.reduceEqDiff, Nat.reduceLeDiff, Nat.reduceLT, Nat.reduceBEq, Nat.reduceDiv, Nat.reduceMod, Nat.reducePow, Nat.reduceMul, Int.reduceToNat, Int.reduceLT, Int.reduceLE]) | refine W_block ?_ | (refine W_skip ?_; simp (maxSteps := 400000) (disch := omega) only [push_cast, ↓reduceIte, reduceCtorEq, Nat.reduceAdd, Nat.reduceSub, Nat.reduceEqDiff, Nat.reduceLeDiff, Nat.reduceLT, Nat.reduceBEq, Nat.reduceDiv, Nat.reduceMod, Nat.reducePow, Nat.reduceMul, Int.reduceToNat, Int.reduceLT, Int.reduceLE]) | (refine W_exit ?_; simp (maxSteps := 400000) (disch := omega) only [push_cast, ↓reduceIte, reduceCtorEq, Nat.reduceAdd, Nat.reduceSub, Nat.reduceEqDiff, Nat.reduceLeDiff, Nat.reduceLT, Nat.reduceBEq, Nat.reduceDiv, Nat.reduceMod, Nat.reducePow, Nat.reduceMul, Int.reduceToNat, Int.reduceLT, Int.reduceLE]) | refine And.intro (by omega) ?_ | refine And.intro (by intro hq; (try simp only [Bool.and_eq_true, Bool.or_eq_true, Bool.and_eq_false_iff, Bool.or_eq_false_iff, decide_eq_true_eq, decide_eq_false_iff_not, Bool.not_eq_true', Bool.not_eq_false', beq_iff_eq, beq_eq_false_iff_ne, ne_eq] at hq); omega) ?_ | fail)
    refine W_loopU (fun m : Nat => [(8, iv m)]) (fun m => []) (fun m => m ≤ L + 1 ∧ ∀ j, j < m → okM l j = true) (fun m => L + 1 - m) 0 ⟨by omega, fun j hj => by omega⟩ (by rfl) (by rfl) (fun m hm => ?_)
    obtain ⟨hm, hokm⟩ := hm
    simp (maxSteps := 400000) (disch := omega) only [push_cast, ↓reduceIte, reduceCtorEq, Nat.reduceAdd, Nat.reduceSub, Nat.reduceEqDiff, Nat.reduceLeDiff, Nat.reduceLT, Nat.reduceBEq, Nat.reduceDiv, Nat.reduceMod, Nat.reducePow, Nat.reduceMul, Int.reduceToNat, Int.reduceLT, Int.reduceLE]
    repeat' (first | refine WK_go ?_ | refine W_seqL ?_ | refine W_seq ?_ | (refine W_regL ?_; simp (maxSteps := 400000) (disch := omega) only [push_cast, ↓reduceIte, reduceCtorEq, Nat.reduceAdd, Nat.reduceSub, Nat.reduceEqDiff, Nat.reduceLeDiff, Nat.reduceLT, Nat.reduceBEq, Nat.reduceDiv, Nat.reduceMod, Nat.reducePow, Nat.reduceMul, Int.reduceToNat, Int.reduceLT, Int.reduceLE]) | refine W_block ?_ | (refine W_skip ?_; simp (maxSteps := 400000) (disch := omega) only [push_cast, ↓reduceIte, reduceCtorEq, Nat.reduceAdd, Nat.reduceSub, Nat.reduceEqDiff, Nat.reduceLeDiff, Nat.reduceLT, Nat.reduceBEq, Nat.reduceDiv, Nat.reduceMod, Nat.reducePow, Nat.reduceMul, Int.reduceToNat, Int.reduceLT, Int.reduceLE]) | (refine W_exit ?_; simp (maxSteps := 400000) (disch := omega) only [push_cast, ↓reduceIte, reduceCtorEq, Nat.reduceAdd, Nat.reduceSub, Nat.reduceEqDiff, Nat.reduceLeDiff, Nat.reduceLT, Nat.reduceBEq, Nat.reduceDiv, Nat.reduceMod, Nat.reducePow, Nat.reduceMul, Int.reduceToNat, Int.reduceLT, Int.reduceLE]) | refine And.intro (by omega) ?_ | refine And.intro (by intro hq; (try simp only [Bool.and_eq_true, Bool.or_eq_true, Bool.and_eq_false_iff, Bool.or_eq_false_iff, decide_eq_true_eq, decide_eq_false_iff_not, Bool.not_eq_true', Bool.not_eq_false', beq_iff_eq, beq_eq_false_iff_ne, ne_eq] at hq); omega) ?_ | (refine CallC.now (c53) ?_; simp (maxSteps := 400000) (disch := omega) only [push_cast, ↓reduceIte, reduceCtorEq, Nat.reduceAdd, Nat.reduceSub, Nat.reduceEqDiff, Nat.reduceLeDiff, Nat.reduceLT, Nat.reduceBEq, Nat.reduceDiv, Nat.reduceMod, Nat.reducePow, Nat.reduceMul, Int.reduceToNat, Int.reduceLT, Int.reduceLE]) | fail)
    refine W_condD (by rfl) (fun h => ?_) (fun h => ?_)
    · have hmL : m < L + 1 := by omega
      repeat' (first | refine WK_go ?_ | refine W_seqL ?_ | refine W_seq ?_ | (refine W_regL ?_; simp (maxSteps := 400000) (disch := omega) only [push_cast, ↓reduceIte, reduceCtorEq, Nat.reduceAdd, Nat.reduceSub, Nat.reduceEqDiff, Nat.reduceLeDiff, Nat.reduceLT, Nat.reduceBEq, Nat.reduceDiv, Nat.reduceMod, Nat.reducePow, Nat.reduceMul, Int.reduceToNat, Int.reduceLT, Int.reduceLE]) | refine W_block ?_ | (refine W_skip ?_; simp (maxSteps := 400000) (disch := omega) only [push_cast, ↓reduceIte, reduceCtorEq, Nat.reduceAdd, Nat.reduceSub, Nat.reduceEqDiff, Nat.reduceLeDiff, Nat.reduceLT, Nat.reduceBEq, Nat.reduceDiv, Nat.reduceMod, Nat.reducePow, Nat.reduceMul, Int.reduceToNat, Int.reduceLT, Int.reduceLE]) | (refine W_exit ?_; simp (maxSteps := 400000) (disch := omega) only [push_cast, ↓reduceIte, reduceCtorEq, Nat.reduceAdd, Nat.reduceSub, Nat.reduceEqDiff, Nat.reduceLeDiff, Nat.reduceLT, Nat.reduceBEq, Nat.reduceDiv, Nat.reduceMod, Nat.reducePow, Nat.reduceMul, Int.reduceToNat, Int.reduceLT, Int.reduceLE]) | refine And.intro (by omega) ?_ | refine And.intro (by intro hq; (try simp only [Bool.and_eq_true, Bool.or_eq_true, Bool.and_eq_false_iff, Bool.or_eq_false_iff, decide_eq_true_eq, decide_eq_false_iff_not, Bool.not_eq_true', Bool.not_eq_false', beq_iff_eq, beq_eq_false_iff_ne, ne_eq] at hq); omega) ?_ | (refine CallC.now (fn16 l m (by omega) (by omega) (by unfold t0; omega) (by omega)) ?_; simp (maxSteps := 400000) (disch := omega) only [push_cast, ↓reduceIte, reduceCtorEq, Nat.reduceAdd, Nat.reduceSub, Nat.reduceEqDiff, Nat.reduceLeDiff, Nat.reduceLT, Nat.reduceBEq, Nat.reduceDiv, Nat.reduceMod, Nat.reducePow, Nat.reduceMul, Int.reduceToNat, Int.reduceLT, Int.reduceLE]) | fail)
      refine W_condD (by rfl) (fun hb => ?_) (fun hb => ?_)
      · repeat' (first | refine WK_go ?_ | refine W_seqL ?_ | refine W_seq ?_ | (refine W_regL ?_; simp (maxSteps := 400000) (disch := omega) only [push_cast, ↓reduceIte, reduceCtorEq, Nat.reduceAdd, Nat.reduceSub, Nat.reduceEqDiff, Nat.reduceLeDiff, Nat.reduceLT, Nat.reduceBEq, Nat.reduceDiv, Nat.reduceMod, Nat.reducePow, Nat.reduceMul, Int.reduceToNat, Int.reduceLT, Int.reduceLE]) | refine W_block ?_ | (refine W_skip ?_; simp (maxSteps := 400000) (disch := omega) only [push_cast, ↓reduceIte, reduceCtorEq, Nat.reduceAdd, Nat.reduceSub, Nat.reduceEqDiff, Nat.reduceLeDiff, Nat.reduceLT, Nat.reduceBEq, Nat.reduceDiv, Nat.reduceMod, Nat.reducePow, Nat.reduceMul, Int.reduceToNat, Int.reduceLT, Int.reduceLE]) | (refine W_exit ?_; simp (maxSteps := 400000) (disch := omega) only [push_cast, ↓reduceIte, reduceCtorEq, Nat.reduceAdd, Nat.reduceSub, Nat.reduceEqDiff, Nat.reduceLeDiff, Nat.reduceLT, Nat.reduceBEq, Nat.reduceDiv, Nat.reduceMod, Nat.reducePow, Nat.reduceMul, Int.reduceToNat, Int.reduceLT, Int.reduceLE]) | refine And.intro (by omega) ?_ | refine And.intro (by intro hq; (try simp only [Bool.and_eq_true, Bool.or_eq_true, Bool.and_eq_false_iff, Bool.or_eq_false_iff, decide_eq_true_eq, decide_eq_false_iff_not, Bool.not_eq_true', Bool.not_eq_false', beq_iff_eq, beq_eq_false_iff_ne, ne_eq] at hq); omega) ?_ | fail)
        exact W_ret ⟨[_], ⟨rfl, rfl⟩, by
          rw [hbadM m hmL (by unfold okM; rw [decide_eq_false (by omega), Bool.false_and])]; rfl⟩
      repeat' (first | refine WK_go ?_ | refine W_seqL ?_ | refine W_seq ?_ | (refine W_regL ?_; simp (maxSteps := 400000) (disch := omega) only [push_cast, ↓reduceIte, reduceCtorEq, Nat.reduceAdd, Nat.reduceSub, Nat.reduceEqDiff, Nat.reduceLeDiff, Nat.reduceLT, Nat.reduceBEq, Nat.reduceDiv, Nat.reduceMod, Nat.reducePow, Nat.reduceMul, Int.reduceToNat, Int.reduceLT, Int.reduceLE]) | refine W_block ?_ | (refine W_skip ?_; simp (maxSteps := 400000) (disch := omega) only [push_cast, ↓reduceIte, reduceCtorEq, Nat.reduceAdd, Nat.reduceSub, Nat.reduceEqDiff, Nat.reduceLeDiff, Nat.reduceLT, Nat.reduceBEq, Nat.reduceDiv, Nat.reduceMod, Nat.reducePow, Nat.reduceMul, Int.reduceToNat, Int.reduceLT, Int.reduceLE]) | (refine W_exit ?_; simp (maxSteps := 400000) (disch := omega) only [push_cast, ↓reduceIte, reduceCtorEq, Nat.reduceAdd, Nat.reduceSub, Nat.reduceEqDiff, Nat.reduceLeDiff, Nat.reduceLT, Nat.reduceBEq, Nat.reduceDiv, Nat.reduceMod, Nat.reducePow, Nat.reduceMul, Int.reduceToNat, Int.reduceLT, Int.reduceLE]) | refine And.intro (by omega) ?_ | refine And.intro (by intro hq; (try simp only [Bool.and_eq_true, Bool.or_eq_true, Bool.and_eq_false_iff, Bool.or_eq_false_iff, decide_eq_true_eq, decide_eq_false_iff_not, Bool.not_eq_true', Bool.not_eq_false', beq_iff_eq, beq_eq_false_iff_ne, ne_eq] at hq); omega) ?_ | fail)
      refine W_loopU (fun k : Nat => [(10, iv k)]) (fun k => []) (fun k => k ≤ 4 ∧ ∀ j, j < k → decide ((value l m j).lo ≤ (value l m j).hi) = true) (fun k => 4 - k) 0 ⟨by omega, fun j hj => by omega⟩ (by rfl) (by rfl) (fun k hk => ?_)
      obtain ⟨hk, hokk⟩ := hk
      simp (maxSteps := 400000) (disch := omega) only [push_cast, ↓reduceIte, reduceCtorEq, Nat.reduceAdd, Nat.reduceSub, Nat.reduceEqDiff, Nat.reduceLeDiff, Nat.reduceLT, Nat.reduceBEq, Nat.reduceDiv, Nat.reduceMod, Nat.reducePow, Nat.reduceMul, Int.reduceToNat, Int.reduceLT, Int.reduceLE]
      repeat' (first | refine WK_go ?_ | refine W_seqL ?_ | refine W_seq ?_ | (refine W_regL ?_; simp (maxSteps := 400000) (disch := omega) only [push_cast, ↓reduceIte, reduceCtorEq, Nat.reduceAdd, Nat.reduceSub, Nat.reduceEqDiff, Nat.reduceLeDiff, Nat.reduceLT, Nat.reduceBEq, Nat.reduceDiv, Nat.reduceMod, Nat.reducePow, Nat.reduceMul, Int.reduceToNat, Int.reduceLT, Int.reduceLE]) | refine W_block ?_ | (refine W_skip ?_; simp (maxSteps := 400000) (disch := omega) only [push_cast, ↓reduceIte, reduceCtorEq, Nat.reduceAdd, Nat.reduceSub, Nat.reduceEqDiff, Nat.reduceLeDiff, Nat.reduceLT, Nat.reduceBEq, Nat.reduceDiv, Nat.reduceMod, Nat.reducePow, Nat.reduceMul, Int.reduceToNat, Int.reduceLT, Int.reduceLE]) | (refine W_exit ?_; simp (maxSteps := 400000) (disch := omega) only [push_cast, ↓reduceIte, reduceCtorEq, Nat.reduceAdd, Nat.reduceSub, Nat.reduceEqDiff, Nat.reduceLeDiff, Nat.reduceLT, Nat.reduceBEq, Nat.reduceDiv, Nat.reduceMod, Nat.reducePow, Nat.reduceMul, Int.reduceToNat, Int.reduceLT, Int.reduceLE]) | refine And.intro (by omega) ?_ | refine And.intro (by intro hq; (try simp only [Bool.and_eq_true, Bool.or_eq_true, Bool.and_eq_false_iff, Bool.or_eq_false_iff, decide_eq_true_eq, decide_eq_false_iff_not, Bool.not_eq_true', Bool.not_eq_false', beq_iff_eq, beq_eq_false_iff_ne, ne_eq] at hq); omega) ?_ | fail)
      refine W_condD (by rfl) (fun h => ?_) (fun h => ?_)
      · have hk4 : k < 4 := by omega
        repeat' (first | refine WK_go ?_ | refine W_seqL ?_ | refine W_seq ?_ | (refine W_regL ?_; simp (maxSteps := 400000) (disch := omega) only [push_cast, ↓reduceIte, reduceCtorEq, Nat.reduceAdd, Nat.reduceSub, Nat.reduceEqDiff, Nat.reduceLeDiff, Nat.reduceLT, Nat.reduceBEq, Nat.reduceDiv, Nat.reduceMod, Nat.reducePow, Nat.reduceMul, Int.reduceToNat, Int.reduceLT, Int.reduceLE]) | refine W_block ?_ | (refine W_skip ?_; simp (maxSteps := 400000) (disch := omega) only [push_cast, ↓reduceIte, reduceCtorEq, Nat.reduceAdd, Nat.reduceSub, Nat.reduceEqDiff, Nat.reduceLeDiff, Nat.reduceLT, Nat.reduceBEq, Nat.reduceDiv, Nat.reduceMod, Nat.reducePow, Nat.reduceMul, Int.reduceToNat, Int.reduceLT, Int.reduceLE]) | (refine W_exit ?_; simp (maxSteps := 400000) (disch := omega) only [push_cast, ↓reduceIte, reduceCtorEq, Nat.reduceAdd, Nat.reduceSub, Nat.reduceEqDiff, Nat.reduceLeDiff, Nat.reduceLT, Nat.reduceBEq, Nat.reduceDiv, Nat.reduceMod, Nat.reducePow, Nat.reduceMul, Int.reduceToNat, Int.reduceLT, Int.reduceLE]) | refine And.intro (by omega) ?_ | refine And.intro (by intro hq; (try simp only [Bool.and_eq_true, Bool.or_eq_true, Bool.and_eq_false_iff, Bool.or_eq_false_iff, decide_eq_true_eq, decide_eq_false_iff_not, Bool.not_eq_true', Bool.not_eq_false', beq_iff_eq, beq_eq_false_iff_ne, ne_eq] at hq); omega) ?_ | (refine CallC.now (fn17 l m k hg (by omega) hk4) ?_; simp (maxSteps := 400000) (disch := omega) only [push_cast, ↓reduceIte, reduceCtorEq, Nat.reduceAdd, Nat.reduceSub, Nat.reduceEqDiff, Nat.reduceLeDiff, Nat.reduceLT, Nat.reduceBEq, Nat.reduceDiv, Nat.reduceMod, Nat.reducePow, Nat.reduceMul, Int.reduceToNat, Int.reduceLT, Int.reduceLE]) | fail)
        refine W_condD (by rfl) (fun hv => ?_) (fun hv => ?_)
        · repeat' (first | refine WK_go ?_ | refine W_seqL ?_ | refine W_seq ?_ | (refine W_regL ?_; simp (maxSteps := 400000) (disch := omega) only [push_cast, ↓reduceIte, reduceCtorEq, Nat.reduceAdd, Nat.reduceSub, Nat.reduceEqDiff, Nat.reduceLeDiff, Nat.reduceLT, Nat.reduceBEq, Nat.reduceDiv, Nat.reduceMod, Nat.reducePow, Nat.reduceMul, Int.reduceToNat, Int.reduceLT, Int.reduceLE]) | refine W_block ?_ | (refine W_skip ?_; simp (maxSteps := 400000) (disch := omega) only [push_cast, ↓reduceIte, reduceCtorEq, Nat.reduceAdd, Nat.reduceSub, Nat.reduceEqDiff, Nat.reduceLeDiff, Nat.reduceLT, Nat.reduceBEq, Nat.reduceDiv, Nat.reduceMod, Nat.reducePow, Nat.reduceMul, Int.reduceToNat, Int.reduceLT, Int.reduceLE]) | (refine W_exit ?_; simp (maxSteps := 400000) (disch := omega) only [push_cast, ↓reduceIte, reduceCtorEq, Nat.reduceAdd, Nat.reduceSub, Nat.reduceEqDiff, Nat.reduceLeDiff, Nat.reduceLT, Nat.reduceBEq, Nat.reduceDiv, Nat.reduceMod, Nat.reducePow, Nat.reduceMul, Int.reduceToNat, Int.reduceLT, Int.reduceLE]) | refine And.intro (by omega) ?_ | refine And.intro (by intro hq; (try simp only [Bool.and_eq_true, Bool.or_eq_true, Bool.and_eq_false_iff, Bool.or_eq_false_iff, decide_eq_true_eq, decide_eq_false_iff_not, Bool.not_eq_true', Bool.not_eq_false', beq_iff_eq, beq_eq_false_iff_ne, ne_eq] at hq); omega) ?_ | fail)
          exact W_ret ⟨[_], ⟨rfl, rfl⟩, by
            rw [hbadM m hmL (by unfold okM; rw [not_all_range hk4 (decide_eq_false (by omega)), Bool.and_false])]; rfl⟩
        repeat' (first | refine WK_go ?_ | refine W_seqL ?_ | refine W_seq ?_ | (refine W_regL ?_; simp (maxSteps := 400000) (disch := omega) only [push_cast, ↓reduceIte, reduceCtorEq, Nat.reduceAdd, Nat.reduceSub, Nat.reduceEqDiff, Nat.reduceLeDiff, Nat.reduceLT, Nat.reduceBEq, Nat.reduceDiv, Nat.reduceMod, Nat.reducePow, Nat.reduceMul, Int.reduceToNat, Int.reduceLT, Int.reduceLE]) | refine W_block ?_ | (refine W_skip ?_; simp (maxSteps := 400000) (disch := omega) only [push_cast, ↓reduceIte, reduceCtorEq, Nat.reduceAdd, Nat.reduceSub, Nat.reduceEqDiff, Nat.reduceLeDiff, Nat.reduceLT, Nat.reduceBEq, Nat.reduceDiv, Nat.reduceMod, Nat.reducePow, Nat.reduceMul, Int.reduceToNat, Int.reduceLT, Int.reduceLE]) | (refine W_exit ?_; simp (maxSteps := 400000) (disch := omega) only [push_cast, ↓reduceIte, reduceCtorEq, Nat.reduceAdd, Nat.reduceSub, Nat.reduceEqDiff, Nat.reduceLeDiff, Nat.reduceLT, Nat.reduceBEq, Nat.reduceDiv, Nat.reduceMod, Nat.reducePow, Nat.reduceMul, Int.reduceToNat, Int.reduceLT, Int.reduceLE]) | refine And.intro (by omega) ?_ | refine And.intro (by intro hq; (try simp only [Bool.and_eq_true, Bool.or_eq_true, Bool.and_eq_false_iff, Bool.or_eq_false_iff, decide_eq_true_eq, decide_eq_false_iff_not, Bool.not_eq_true', Bool.not_eq_false', beq_iff_eq, beq_eq_false_iff_ne, ne_eq] at hq); omega) ?_ | fail)
        refine ⟨k + 1, ⟨by omega, up_all hokk (decide_eq_true (by omega))⟩, by omega, by rfl, ?_⟩
        simp (maxSteps := 400000) (disch := omega) only [push_cast, ↓reduceIte, reduceCtorEq, Nat.reduceAdd, Nat.reduceSub, Nat.reduceEqDiff, Nat.reduceLeDiff, Nat.reduceLT, Nat.reduceBEq, Nat.reduceDiv, Nat.reduceMod, Nat.reducePow, Nat.reduceMul, Int.reduceToNat, Int.reduceLT, Int.reduceLE, S.mk.injEq, List.cons.injEq, Prod.mk.injEq, AV.v.injEq, Value.int.injEq, Value.bool.injEq, Blk.cells.injEq]
      · repeat' (first | refine WK_go ?_ | refine W_seqL ?_ | refine W_seq ?_ | (refine W_regL ?_; simp (maxSteps := 400000) (disch := omega) only [push_cast, ↓reduceIte, reduceCtorEq, Nat.reduceAdd, Nat.reduceSub, Nat.reduceEqDiff, Nat.reduceLeDiff, Nat.reduceLT, Nat.reduceBEq, Nat.reduceDiv, Nat.reduceMod, Nat.reducePow, Nat.reduceMul, Int.reduceToNat, Int.reduceLT, Int.reduceLE]) | refine W_block ?_ | (refine W_skip ?_; simp (maxSteps := 400000) (disch := omega) only [push_cast, ↓reduceIte, reduceCtorEq, Nat.reduceAdd, Nat.reduceSub, Nat.reduceEqDiff, Nat.reduceLeDiff, Nat.reduceLT, Nat.reduceBEq, Nat.reduceDiv, Nat.reduceMod, Nat.reducePow, Nat.reduceMul, Int.reduceToNat, Int.reduceLT, Int.reduceLE]) | (refine W_exit ?_; simp (maxSteps := 400000) (disch := omega) only [push_cast, ↓reduceIte, reduceCtorEq, Nat.reduceAdd, Nat.reduceSub, Nat.reduceEqDiff, Nat.reduceLeDiff, Nat.reduceLT, Nat.reduceBEq, Nat.reduceDiv, Nat.reduceMod, Nat.reducePow, Nat.reduceMul, Int.reduceToNat, Int.reduceLT, Int.reduceLE]) | refine And.intro (by omega) ?_ | refine And.intro (by intro hq; (try simp only [Bool.and_eq_true, Bool.or_eq_true, Bool.and_eq_false_iff, Bool.or_eq_false_iff, decide_eq_true_eq, decide_eq_false_iff_not, Bool.not_eq_true', Bool.not_eq_false', beq_iff_eq, beq_eq_false_iff_ne, ne_eq] at hq); omega) ?_ | fail)
        refine ⟨m + 1, ⟨by omega, up_all hokm ?_⟩, by omega, by rfl, ?_⟩
        · unfold okM
          rw [decide_eq_true (by omega), all_range.2 (fun j hj => hokk j (by omega))]; rfl
        · simp (maxSteps := 400000) (disch := omega) only [push_cast, ↓reduceIte, reduceCtorEq, Nat.reduceAdd, Nat.reduceSub, Nat.reduceEqDiff, Nat.reduceLeDiff, Nat.reduceLT, Nat.reduceBEq, Nat.reduceDiv, Nat.reduceMod, Nat.reducePow, Nat.reduceMul, Int.reduceToNat, Int.reduceLT, Int.reduceLE, S.mk.injEq, List.cons.injEq, Prod.mk.injEq, AV.v.injEq, Value.int.injEq, Value.bool.injEq, Blk.cells.injEq]
    · repeat' (first | refine WK_go ?_ | refine W_seqL ?_ | refine W_seq ?_ | (refine W_regL ?_; simp (maxSteps := 400000) (disch := omega) only [push_cast, ↓reduceIte, reduceCtorEq, Nat.reduceAdd, Nat.reduceSub, Nat.reduceEqDiff, Nat.reduceLeDiff, Nat.reduceLT, Nat.reduceBEq, Nat.reduceDiv, Nat.reduceMod, Nat.reducePow, Nat.reduceMul, Int.reduceToNat, Int.reduceLT, Int.reduceLE]) | refine W_block ?_ | (refine W_skip ?_; simp (maxSteps := 400000) (disch := omega) only [push_cast, ↓reduceIte, reduceCtorEq, Nat.reduceAdd, Nat.reduceSub, Nat.reduceEqDiff, Nat.reduceLeDiff, Nat.reduceLT, Nat.reduceBEq, Nat.reduceDiv, Nat.reduceMod, Nat.reducePow, Nat.reduceMul, Int.reduceToNat, Int.reduceLT, Int.reduceLE]) | (refine W_exit ?_; simp (maxSteps := 400000) (disch := omega) only [push_cast, ↓reduceIte, reduceCtorEq, Nat.reduceAdd, Nat.reduceSub, Nat.reduceEqDiff, Nat.reduceLeDiff, Nat.reduceLT, Nat.reduceBEq, Nat.reduceDiv, Nat.reduceMod, Nat.reducePow, Nat.reduceMul, Int.reduceToNat, Int.reduceLT, Int.reduceLE]) | refine And.intro (by omega) ?_ | refine And.intro (by intro hq; (try simp only [Bool.and_eq_true, Bool.or_eq_true, Bool.and_eq_false_iff, Bool.or_eq_false_iff, decide_eq_true_eq, decide_eq_false_iff_not, Bool.not_eq_true', Bool.not_eq_false', beq_iff_eq, beq_eq_false_iff_ne, ne_eq] at hq); omega) ?_ | fail)
      refine ⟨fun j hj => hokm j (by omega), ?_⟩
      (first | rfl | exact ⟨by rfl, by rfl⟩ | (refine ⟨by rfl, ?_⟩; simp (maxSteps := 400000) (disch := omega) only [push_cast, ↓reduceIte, reduceCtorEq, Nat.reduceAdd, Nat.reduceSub, Nat.reduceEqDiff, Nat.reduceLeDiff, Nat.reduceLT, Nat.reduceBEq, Nat.reduceDiv, Nat.reduceMod, Nat.reducePow, Nat.reduceMul, Int.reduceToNat, Int.reduceLT, Int.reduceLE, S.mk.injEq, List.cons.injEq, Prod.mk.injEq, AV.v.injEq, Value.int.injEq, Value.bool.injEq, Blk.cells.injEq]))
  simp (maxSteps := 400000) (disch := omega) only [push_cast, ↓reduceIte, reduceCtorEq, Nat.reduceAdd, Nat.reduceSub, Nat.reduceEqDiff, Nat.reduceLeDiff, Nat.reduceLT, Nat.reduceBEq, Nat.reduceDiv, Nat.reduceMod, Nat.reducePow, Nat.reduceMul, Int.reduceToNat, Int.reduceLT, Int.reduceLE]
  repeat' (first | refine WK_go ?_ | refine W_seqL ?_ | refine W_seq ?_ | (refine W_regL ?_; simp (maxSteps := 400000) (disch := omega) only [push_cast, ↓reduceIte, reduceCtorEq, Nat.reduceAdd, Nat.reduceSub, Nat.reduceEqDiff, Nat.reduceLeDiff, Nat.reduceLT, Nat.reduceBEq, Nat.reduceDiv, Nat.reduceMod, Nat.reducePow, Nat.reduceMul, Int.reduceToNat, Int.reduceLT, Int.reduceLE]) | refine W_block ?_ | (refine W_skip ?_; simp (maxSteps := 400000) (disch := omega) only [push_cast, ↓reduceIte, reduceCtorEq, Nat.reduceAdd, Nat.reduceSub, Nat.reduceEqDiff, Nat.reduceLeDiff, Nat.reduceLT, Nat.reduceBEq, Nat.reduceDiv, Nat.reduceMod, Nat.reducePow, Nat.reduceMul, Int.reduceToNat, Int.reduceLT, Int.reduceLE]) | (refine W_exit ?_; simp (maxSteps := 400000) (disch := omega) only [push_cast, ↓reduceIte, reduceCtorEq, Nat.reduceAdd, Nat.reduceSub, Nat.reduceEqDiff, Nat.reduceLeDiff, Nat.reduceLT, Nat.reduceBEq, Nat.reduceDiv, Nat.reduceMod, Nat.reducePow, Nat.reduceMul, Int.reduceToNat, Int.reduceLT, Int.reduceLE]) | refine And.intro (by omega) ?_ | refine And.intro (by intro hq; (try simp only [Bool.and_eq_true, Bool.or_eq_true, Bool.and_eq_false_iff, Bool.or_eq_false_iff, decide_eq_true_eq, decide_eq_false_iff_not, Bool.not_eq_true', Bool.not_eq_false', beq_iff_eq, beq_eq_false_iff_ne, ne_eq] at hq); omega) ?_ | fail)
  exact W_ret ⟨[_], ⟨rfl, rfl⟩, by
    unfold chkLog
    rw [if_neg (by omega), if_neg (by omega), if_neg (by rw [all_range.2 hR]; simp), if_neg hspan, if_neg (by rw [hD]; simp), hLn, if_neg (by rw [all_range.2 hM]; simp)]
    rfl⟩
end Go.Proofs.Ytgijpimjfoabjaa

/- The program's small functions of chapter 11. -/
namespace Go.Proofs.Ytgijpimjfoabjaa
open Go Sy
set_option maxRecDepth 100000
set_option maxHeartbeats 4000000
set_option linter.unusedVariables false
set_option linter.unusedSimpArgs false
/-- within -/
theorem fn49 (x lo hi : Int) : Sy.Fn Try.prog 49 [iv x, iv lo, iv hi] (bv (decide (lo ≤ x) && decide (x ≤ hi))) := by
  refine Fn_of_W mixed Xt49 rfl ?_
  refine W_seq (W_regL ?_)
  simp (maxSteps := 400000) (disch := omega) only [push_cast, ↓reduceIte, reduceCtorEq, Nat.reduceAdd, Nat.reduceSub, Nat.reduceEqDiff, Nat.reduceLeDiff, Nat.reduceLT, Nat.reduceBEq, Nat.reduceDiv, Nat.reduceMod, Nat.reducePow, Nat.reduceMul, Int.reduceToNat, Int.reduceLT, Int.reduceLE]
  refine W_seq (W_regL ?_)
  simp (maxSteps := 400000) (disch := omega) only [push_cast, ↓reduceIte, reduceCtorEq, Nat.reduceAdd, Nat.reduceSub, Nat.reduceEqDiff, Nat.reduceLeDiff, Nat.reduceLT, Nat.reduceBEq, Nat.reduceDiv, Nat.reduceMod, Nat.reducePow, Nat.reduceMul, Int.reduceToNat, Int.reduceLT, Int.reduceLE]
  exact W_ret ⟨[_], ⟨rfl, rfl⟩, rfl⟩
theorem okBand_two (b : Band) : (decide (-1073741824 ≤ b.lo) && decide (b.lo ≤ b.hi) && decide (b.hi ≤ 1073741824)) = okBand b := by
  unfold okBand
  rw [Bool.and_comm (decide (-1073741824 ≤ b.lo))]
/-- checkBand -/
theorem fn61 (b : Band) : Sy.Fn Try.prog 61 [.agg (cBand b)] (bv (okBand b)) := by
  refine Fn_of_W mixed Xt61 rfl ?_
  refine W_seq (W_regL ?_)
  simp (maxSteps := 400000) (disch := omega) only [push_cast, ↓reduceIte, reduceCtorEq, Nat.reduceAdd, Nat.reduceSub, Nat.reduceEqDiff, Nat.reduceLeDiff, Nat.reduceLT, Nat.reduceBEq, Nat.reduceDiv, Nat.reduceMod, Nat.reducePow, Nat.reduceMul, Int.reduceToNat, Int.reduceLT, Int.reduceLE]
  refine W_seq (W_regL ?_)
  simp (maxSteps := 400000) (disch := omega) only [push_cast, ↓reduceIte, reduceCtorEq, Nat.reduceAdd, Nat.reduceSub, Nat.reduceEqDiff, Nat.reduceLeDiff, Nat.reduceLT, Nat.reduceBEq, Nat.reduceDiv, Nat.reduceMod, Nat.reducePow, Nat.reduceMul, Int.reduceToNat, Int.reduceLT, Int.reduceLE]
  refine CallC.now (fn49 _ _ _) ?_
  simp (maxSteps := 400000) (disch := omega) only [push_cast, ↓reduceIte, reduceCtorEq, Nat.reduceAdd, Nat.reduceSub, Nat.reduceEqDiff, Nat.reduceLeDiff, Nat.reduceLT, Nat.reduceBEq, Nat.reduceDiv, Nat.reduceMod, Nat.reducePow, Nat.reduceMul, Int.reduceToNat, Int.reduceLT, Int.reduceLE]
  exact W_ret ⟨[_], ⟨rfl, rfl⟩, by rw [← okBand_two]; rfl⟩
theorem fn69 (x : Int) : Sy.Fn Try.prog 69 [iv x] (bv (!(decide (0 ≤ x) && decide (x ≤ 1048576)))) := by
  refine Fn_of_W mixed Xt69 rfl ?_
  refine W_seq (W_regL ?_)
  simp (maxSteps := 400000) (disch := omega) only [push_cast, ↓reduceIte, reduceCtorEq, Nat.reduceAdd, Nat.reduceSub, Nat.reduceEqDiff, Nat.reduceLeDiff, Nat.reduceLT, Nat.reduceBEq, Nat.reduceDiv, Nat.reduceMod, Nat.reducePow, Nat.reduceMul, Int.reduceToNat, Int.reduceLT, Int.reduceLE]
  refine W_seq (W_regL ?_)
  simp (maxSteps := 400000) (disch := omega) only [push_cast, ↓reduceIte, reduceCtorEq, Nat.reduceAdd, Nat.reduceSub, Nat.reduceEqDiff, Nat.reduceLeDiff, Nat.reduceLT, Nat.reduceBEq, Nat.reduceDiv, Nat.reduceMod, Nat.reducePow, Nat.reduceMul, Int.reduceToNat, Int.reduceLT, Int.reduceLE]
  refine CallC.now (fn49 _ _ _) ?_
  simp (maxSteps := 400000) (disch := omega) only [push_cast, ↓reduceIte, reduceCtorEq, Nat.reduceAdd, Nat.reduceSub, Nat.reduceEqDiff, Nat.reduceLeDiff, Nat.reduceLT, Nat.reduceBEq, Nat.reduceDiv, Nat.reduceMod, Nat.reducePow, Nat.reduceMul, Int.reduceToNat, Int.reduceLT, Int.reduceLE]
  exact W_ret ⟨[_], ⟨rfl, rfl⟩, rfl⟩
theorem fn71 (b : Band) : Sy.Fn Try.prog 71 [.agg (cBand b)] (bv (!okBand b)) := by
  refine Fn_of_W mixed Xt71 rfl ?_
  refine W_seq (W_regL ?_)
  simp (maxSteps := 400000) (disch := omega) only [push_cast, ↓reduceIte, reduceCtorEq, Nat.reduceAdd, Nat.reduceSub, Nat.reduceEqDiff, Nat.reduceLeDiff, Nat.reduceLT, Nat.reduceBEq, Nat.reduceDiv, Nat.reduceMod, Nat.reducePow, Nat.reduceMul, Int.reduceToNat, Int.reduceLT, Int.reduceLE]
  refine W_seq (W_regL ?_)
  simp (maxSteps := 400000) (disch := omega) only [push_cast, ↓reduceIte, reduceCtorEq, Nat.reduceAdd, Nat.reduceSub, Nat.reduceEqDiff, Nat.reduceLeDiff, Nat.reduceLT, Nat.reduceBEq, Nat.reduceDiv, Nat.reduceMod, Nat.reducePow, Nat.reduceMul, Int.reduceToNat, Int.reduceLT, Int.reduceLE]
  refine CallC.now (fn61 _) ?_
  simp (maxSteps := 400000) (disch := omega) only [push_cast, ↓reduceIte, reduceCtorEq, Nat.reduceAdd, Nat.reduceSub, Nat.reduceEqDiff, Nat.reduceLeDiff, Nat.reduceLT, Nat.reduceBEq, Nat.reduceDiv, Nat.reduceMod, Nat.reducePow, Nat.reduceMul, Int.reduceToNat, Int.reduceLT, Int.reduceLE]
  exact W_ret ⟨[_], ⟨rfl, rfl⟩, rfl⟩
def meet1 (a b : Band) : Band := ⟨max a.lo b.lo, min a.hi b.hi⟩
def meetL : Band → List Band → Band
  | a, [] => a
  | a, b :: r => meetL (meet1 a b) r
theorem meetL_append (b : Band) : ∀ (l : List Band) (a : Band), meetL a (l ++ [b]) = meet1 (meetL a l) b
  | [], a => rfl
  | x :: l, a => meetL_append b l _
theorem take_getD {α : Type} (l : List α) (d : α) (i : Nat) (h : i < l.length) : l.take (i + 1) = l.take i ++ [l.getD i d] := by
  rw [List.take_succ_eq_append_getElem h]
  simp [h]
theorem fn83 (l : List Band) (h1 : 1 ≤ l.length) (h2 : l.length ≤ 1000000) : Sy.Fn Try.prog 83 [.sl 2 dB cBand l] (.agg (cBand (meetL (l.getD 0 dB) (l.drop 1)))) := by
  refine Fn_of_W mixed Xt83 rfl ?_
  refine W_seq (W_regL ?_)
  simp (maxSteps := 400000) (disch := omega) only [push_cast, ↓reduceIte, reduceCtorEq, Nat.reduceAdd, Nat.reduceSub, Nat.reduceEqDiff, Nat.reduceLeDiff, Nat.reduceLT, Nat.reduceBEq, Nat.reduceDiv, Nat.reduceMod, Nat.reducePow, Nat.reduceMul, Int.reduceToNat, Int.reduceLT, Int.reduceLE]
  refine W_seq (W_regL ?_)
  simp (maxSteps := 400000) (disch := omega) only [push_cast, ↓reduceIte, reduceCtorEq, Nat.reduceAdd, Nat.reduceSub, Nat.reduceEqDiff, Nat.reduceLeDiff, Nat.reduceLT, Nat.reduceBEq, Nat.reduceDiv, Nat.reduceMod, Nat.reducePow, Nat.reduceMul, Int.reduceToNat, Int.reduceLT, Int.reduceLE]
  refine ⟨by omega, ?_⟩
  refine W_seq (W_seq ?_)
  refine W_regL ?_
  simp (maxSteps := 400000) (disch := omega) only [push_cast, ↓reduceIte, reduceCtorEq, Nat.reduceAdd, Nat.reduceSub, Nat.reduceEqDiff, Nat.reduceLeDiff, Nat.reduceLT, Nat.reduceBEq, Nat.reduceDiv, Nat.reduceMod, Nat.reducePow, Nat.reduceMul, Int.reduceToNat, Int.reduceLT, Int.reduceLE]
  refine ⟨by omega, ?_⟩
  have hd : (l.drop 1).length = l.length - 1 := by simp
  generalize l.drop 1 = m at hd ⊢
  generalize l.getD 0 dB = b0
  refine W_block ?_
  refine W_loop (fun i : Nat => ⟨[(2, .own 0 0), (3, .own 4 0), (10, .sl 2 dB cBand m), (11, iv m.length), (12, iv i)], [(0, .cells [iv 0, iv 0]), (4, .cells (cBand (meetL b0 (m.take i))))], 11⟩) (fun i => i ≤ m.length) (fun i => m.length - i) 0 (by omega) (le_to [2, 3, 10, 11, 12] [0, 4] 11 rfl rfl) (fun i hi => ?_)
  refine W_seq ?_
  refine W_regL ?_
  simp (maxSteps := 400000) (disch := omega) only [push_cast, ↓reduceIte, reduceCtorEq, Nat.reduceAdd, Nat.reduceSub, Nat.reduceEqDiff, Nat.reduceLeDiff, Nat.reduceLT, Nat.reduceBEq, Nat.reduceDiv, Nat.reduceMod, Nat.reducePow, Nat.reduceMul, Int.reduceToNat, Int.reduceLT, Int.reduceLE]
  refine W_seq (W_cond (by rfl) (fun h => ?_) (fun h => ?_))
  · have h := of_decide_eq_true h
    have hlt : i < m.length := by omega
    refine W_skip ?_
    simp (maxSteps := 400000) (disch := omega) only [push_cast, ↓reduceIte, reduceCtorEq, Nat.reduceAdd, Nat.reduceSub, Nat.reduceEqDiff, Nat.reduceLeDiff, Nat.reduceLT, Nat.reduceBEq, Nat.reduceDiv, Nat.reduceMod, Nat.reducePow, Nat.reduceMul, Int.reduceToNat, Int.reduceLT, Int.reduceLE]
    refine W_seq (W_block (W_seq ?_))
    refine W_regL ?_
    simp (maxSteps := 400000) (disch := omega) only [push_cast, ↓reduceIte, reduceCtorEq, Nat.reduceAdd, Nat.reduceSub, Nat.reduceEqDiff, Nat.reduceLeDiff, Nat.reduceLT, Nat.reduceBEq, Nat.reduceDiv, Nat.reduceMod, Nat.reducePow, Nat.reduceMul, Int.reduceToNat, Int.reduceLT, Int.reduceLE]
    refine ⟨by omega, ?_⟩
    refine W_regL ?_
    simp (maxSteps := 400000) (disch := omega) only [push_cast, ↓reduceIte, reduceCtorEq, Nat.reduceAdd, Nat.reduceSub, Nat.reduceEqDiff, Nat.reduceLeDiff, Nat.reduceLT, Nat.reduceBEq, Nat.reduceDiv, Nat.reduceMod, Nat.reducePow, Nat.reduceMul, Int.reduceToNat, Int.reduceLT, Int.reduceLE]
    refine W_regL ?_
    simp (maxSteps := 400000) (disch := omega) only [push_cast, ↓reduceIte, reduceCtorEq, Nat.reduceAdd, Nat.reduceSub, Nat.reduceEqDiff, Nat.reduceLeDiff, Nat.reduceLT, Nat.reduceBEq, Nat.reduceDiv, Nat.reduceMod, Nat.reducePow, Nat.reduceMul, Int.reduceToNat, Int.reduceLT, Int.reduceLE]
    refine ⟨i + 1, by omega, by omega, le_to [2, 3, 10, 11, 12] [0, 4] 11 rfl ?_⟩
    simp (maxSteps := 400000) (disch := omega) only [push_cast, ↓reduceIte, reduceCtorEq, Nat.reduceAdd, Nat.reduceSub, Nat.reduceEqDiff, Nat.reduceLeDiff, Nat.reduceLT, Nat.reduceBEq, Nat.reduceDiv, Nat.reduceMod, Nat.reducePow, Nat.reduceMul, Int.reduceToNat, Int.reduceLT, Int.reduceLE, S.mk.injEq, List.cons.injEq, Prod.mk.injEq, AV.v.injEq, Value.int.injEq, Value.bool.injEq, Blk.cells.injEq]
    rw [take_getD m dB i hlt, meetL_append]
    all_goals first | rfl | omega | exact ⟨rfl, rfl⟩ | exact ⟨rfl, by omega⟩ | exact ⟨by omega, rfl⟩ | exact ⟨by omega, rfl, rfl⟩
  · have h := of_decide_eq_false h
    refine W_exit ?_
    simp (maxSteps := 400000) (disch := omega) only [push_cast, ↓reduceIte, reduceCtorEq, Nat.reduceAdd, Nat.reduceSub, Nat.reduceEqDiff, Nat.reduceLeDiff, Nat.reduceLT, Nat.reduceBEq, Nat.reduceDiv, Nat.reduceMod, Nat.reducePow, Nat.reduceMul, Int.reduceToNat, Int.reduceLT, Int.reduceLE]
    have e : i = m.length := by omega
    subst e
    rw [List.take_length]
    refine W_seq (W_regL ?_)
    simp (maxSteps := 400000) (disch := omega) only [push_cast, ↓reduceIte, reduceCtorEq, Nat.reduceAdd, Nat.reduceSub, Nat.reduceEqDiff, Nat.reduceLeDiff, Nat.reduceLT, Nat.reduceBEq, Nat.reduceDiv, Nat.reduceMod, Nat.reducePow, Nat.reduceMul, Int.reduceToNat, Int.reduceLT, Int.reduceLE]
    exact W_ret ⟨[_], ⟨⟨by simp, rfl⟩, rfl⟩, rfl⟩
end Go.Proofs.Ytgijpimjfoabjaa

