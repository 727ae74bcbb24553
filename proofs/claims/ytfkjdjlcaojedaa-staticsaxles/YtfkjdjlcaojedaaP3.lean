/- Part 3 of the proof of: What the ends of a line, and the axles of a vehicle, carry is what the definitions say, or refused. -/
import Derived.Test.YtfkjdjlcaojedaaP2
import Derived.Test.YtfkjdjlcaojedaaChecked
import Derived.Lib.Mul64
import Derived.Laws.Bits64b
/- Print of my own generator (wip/sy/gen2.lean). -/
namespace Go.Proofs.Ytfkjdjlcaojedaa
open Go Sy
set_option maxRecDepth 100000
/- carried: [9] -/
/- carried: [12] -/
/- carried: [11] -/
/- carried: [12, 13, 14, 15] -/
/- carried: [21] -/
/- carried: [26] -/
def Xn12_1 : C := regL [1, 2, 3, 4, 5] none [⟨some 5, .box true 67 (.tmp 0), none⟩, ⟨some 10, .mv (.const (.bool false)), none⟩]
def Xn12_4 : C := regL [1, 2, 3, 4, 5, 22] none [⟨some 21, .ld 67 4 true (.tmp 5), none⟩, ⟨some 22, .call 41 [.tmp 21], none⟩]
def Xn12_7 : C := regL [10] none [⟨some 23, .call 17 [], none⟩, ⟨some 10, .mv (.tmp 23), none⟩]
def Xn12_6 : C := .seq Xn12_7 .ret
def Xn12_5 : C := .cond (.tmp 22) Xn12_6 .skip
def Xn12_3 : C := .seq Xn12_4 Xn12_5
def Xn12_11 : C := regL [1, 2, 3, 4, 5, 11, 12, 13] none [⟨some 25, .mv (.tmp 1), none⟩, ⟨some 26, .mv (.tmp 2), none⟩, ⟨some 27, .mv (.tmp 3), none⟩, ⟨some 28, .mv (.tmp 4), none⟩, ⟨some 29, .call 16 [.tmp 25, .tmp 26, .tmp 27, .tmp 28], none⟩, ⟨some 24, .mv (.tmp 29), none⟩, ⟨some 30, .ext 0 (.tmp 24), none⟩, ⟨some 31, .ext 1 (.tmp 24), none⟩, ⟨some 32, .ext 2 (.tmp 24), none⟩, ⟨some 11, .mv (.tmp 30), none⟩, ⟨some 12, .mv (.tmp 31), none⟩, ⟨some 13, .mv (.tmp 32), none⟩]
def Xn12_13 : C := regL [1, 2, 3, 5, 11, 12, 13, 14, 15, 16] none [⟨some 34, .mv (.tmp 1), none⟩, ⟨some 35, .mv (.tmp 2), none⟩, ⟨some 36, .mv (.tmp 3), none⟩, ⟨some 37, .mv (.tmp 4), none⟩, ⟨some 38, .call 42 [.tmp 34, .tmp 35, .tmp 36, .tmp 37], none⟩, ⟨some 33, .mv (.tmp 38), none⟩, ⟨some 39, .ext 0 (.tmp 33), none⟩, ⟨some 40, .ext 1 (.tmp 33), none⟩, ⟨some 41, .ext 2 (.tmp 33), none⟩, ⟨some 14, .mv (.tmp 39), none⟩, ⟨some 15, .mv (.tmp 40), none⟩, ⟨some 16, .mv (.tmp 41), none⟩]
def Xn12_15 : C := regL [1, 2, 3, 5, 11, 12, 13, 14, 15, 16, 17, 18] none [⟨some 43, .ld 67 4 true (.tmp 5), none⟩, ⟨some 44, .mv (.tmp 1), none⟩, ⟨some 45, .mv (.tmp 2), none⟩, ⟨some 46, .mv (.tmp 3), none⟩, ⟨some 47, .call 43 [.tmp 43, .tmp 44, .tmp 45, .tmp 46], none⟩, ⟨some 42, .mv (.tmp 47), none⟩, ⟨some 48, .ext 0 (.tmp 42), none⟩, ⟨some 49, .ext 1 (.tmp 42), none⟩, ⟨some 17, .mv (.tmp 48), none⟩, ⟨some 18, .mv (.tmp 49), none⟩]
def Xn12_17 : C := regL [11, 12, 13, 14, 15, 16, 17, 18, 19, 20] none [⟨some 51, .ld 67 4 true (.tmp 5), none⟩, ⟨some 52, .mv (.tmp 1), none⟩, ⟨some 53, .mv (.tmp 2), none⟩, ⟨some 54, .mv (.tmp 3), none⟩, ⟨some 55, .call 44 [.tmp 51, .tmp 52, .tmp 53, .tmp 54], none⟩, ⟨some 50, .mv (.tmp 55), none⟩, ⟨some 56, .ext 0 (.tmp 50), none⟩, ⟨some 57, .ext 1 (.tmp 50), none⟩, ⟨some 19, .mv (.tmp 56), none⟩, ⟨some 20, .mv (.tmp 57), none⟩]
def Xn12_19 : C := regL [10] none [⟨some 58, .mv (.tmp 11), none⟩, ⟨some 59, .mv (.tmp 14), none⟩, ⟨some 60, .bin 2 .eql (.tmp 58) (.tmp 59), none⟩, ⟨some 61, .mv (.tmp 60), none⟩, ⟨some 62, .mv (.tmp 12), some (61, true)⟩, ⟨some 63, .mv (.tmp 15), some (61, true)⟩, ⟨some 64, .bin 2 .eql (.tmp 62) (.tmp 63), some (61, true)⟩, ⟨some 65, .pick 61 (.tmp 64) (.const (.bool false)), none⟩, ⟨some 66, .mv (.tmp 65), none⟩, ⟨some 67, .mv (.tmp 13), some (66, true)⟩, ⟨some 68, .mv (.tmp 16), some (66, true)⟩, ⟨some 69, .bin 22 .eql (.tmp 67) (.tmp 68), some (66, true)⟩, ⟨some 70, .pick 66 (.tmp 69) (.const (.bool false)), none⟩, ⟨some 71, .mv (.tmp 70), none⟩, ⟨some 72, .mv (.tmp 18), some (71, true)⟩, ⟨some 73, .mv (.tmp 20), some (71, true)⟩, ⟨some 74, .bin 22 .eql (.tmp 72) (.tmp 73), some (71, true)⟩, ⟨some 75, .pick 71 (.tmp 74) (.const (.bool false)), none⟩, ⟨some 76, .mv (.tmp 75), none⟩, ⟨some 77, .mv (.tmp 17), some (76, true)⟩, ⟨some 78, .mv (.tmp 19), some (76, true)⟩, ⟨some 79, .call 40 [.tmp 77, .tmp 78], some (76, true)⟩, ⟨some 80, .pick 76 (.tmp 79) (.const (.bool false)), none⟩, ⟨some 81, .mv (.tmp 80), none⟩, ⟨some 82, .call 17 [], some (81, true)⟩, ⟨some 83, .pick 81 (.tmp 82) (.const (.bool false)), none⟩, ⟨some 10, .mv (.tmp 83), none⟩]
def Xn12_18 : C := .seq Xn12_19 .ret
def Xn12_16 : C := .seq Xn12_17 Xn12_18
def Xn12_14 : C := .seq Xn12_15 Xn12_16
def Xn12_12 : C := .seq Xn12_13 Xn12_14
def Xn12_10 : C := .seq Xn12_11 Xn12_12
def Xn12_2 : C := seqL [1, 2, 3, 4, 5] Xn12_3 Xn12_10
def Xn12_0 : C := .seq Xn12_1 Xn12_2
theorem Xt12 : Text Try.prog 12 Xn12_0 84 5 [.t 10] := ⟨⟨Try.f12, [5], Try.func12, by kernel_rfl, by kernel_rfl, by kernel_rfl, by kernel_rfl⟩⟩
/- carried: [12] -/
/- carried: [12] -/
def Xn16_1 : C := regL [0, 1, 2, 3] none [⟨some 8, .mv (.const (.int .i64 0)), none⟩, ⟨some 9, .mv (.const (.int .i64 0)), none⟩, ⟨some 10, .mv (.const (.int .i64 0)), none⟩]
def Xn16_3 : C := regL [0, 1, 2, 3, 11] none [⟨some 11, .mv (.func 52), none⟩]
def Xn16_7 : C := regL [0, 1, 2, 3, 12] none [⟨some 13, .mv (.tmp 0), none⟩, ⟨some 14, .call 54 [.tmp 13], none⟩, ⟨some 15, .un .not (.tmp 14), none⟩, ⟨some 16, .mv (.tmp 15), none⟩, ⟨some 17, .mv (.tmp 11), some (16, false)⟩, ⟨some 18, .mv (.tmp 1), some (16, false)⟩, ⟨some 19, .callv (.tmp 17) [.tmp 18], some (16, false)⟩, ⟨some 20, .un .not (.tmp 19), some (16, false)⟩, ⟨some 21, .pick 16 (.const (.bool true)) (.tmp 20), none⟩, ⟨some 22, .mv (.tmp 21), none⟩, ⟨some 23, .mv (.tmp 11), some (22, false)⟩, ⟨some 24, .mv (.tmp 2), some (22, false)⟩, ⟨some 25, .callv (.tmp 23) [.tmp 24], some (22, false)⟩, ⟨some 26, .un .not (.tmp 25), some (22, false)⟩, ⟨some 27, .pick 22 (.const (.bool true)) (.tmp 26), none⟩, ⟨some 28, .mv (.tmp 27), none⟩, ⟨some 29, .mv (.tmp 11), some (28, false)⟩, ⟨some 30, .mv (.tmp 3), some (28, false)⟩, ⟨some 31, .callv (.tmp 29) [.tmp 30], some (28, false)⟩, ⟨some 32, .un .not (.tmp 31), some (28, false)⟩, ⟨some 33, .pick 28 (.const (.bool true)) (.tmp 32), none⟩, ⟨some 12, .mv (.tmp 33), none⟩]
def Xn16_10 : C := regL [8, 9, 10] none [⟨some 8, .mv (.const (.int .i64 0)), none⟩, ⟨some 9, .mv (.const (.int .i64 0)), none⟩, ⟨some 10, .mv (.const (.int .i64 3)), none⟩]
def Xn16_9 : C := .seq Xn16_10 .ret
def Xn16_13 : C := regL [0, 1, 2, 3, 34] none [⟨some 35, .mv (.tmp 1), none⟩, ⟨some 36, .mv (.tmp 2), none⟩, ⟨some 37, .bin 2 .geq (.tmp 35) (.tmp 36), none⟩, ⟨some 34, .mv (.tmp 37), none⟩]
def Xn16_16 : C := regL [8, 9, 10] none [⟨some 8, .mv (.const (.int .i64 0)), none⟩, ⟨some 9, .mv (.const (.int .i64 0)), none⟩, ⟨some 10, .mv (.const (.int .i64 9)), none⟩]
def Xn16_15 : C := .seq Xn16_16 .ret
def Xn16_19 : C := regL [0, 1, 2, 3, 38] none [⟨some 39, .mv (.tmp 3), none⟩, ⟨some 40, .mv (.tmp 1), none⟩, ⟨some 41, .mv (.tmp 2), none⟩, ⟨some 42, .call 53 [.tmp 39, .tmp 40, .tmp 41], none⟩, ⟨some 43, .un .not (.tmp 42), none⟩, ⟨some 38, .mv (.tmp 43), none⟩]
def Xn16_22 : C := regL [8, 9, 10] none [⟨some 8, .mv (.const (.int .i64 0)), none⟩, ⟨some 9, .mv (.const (.int .i64 0)), none⟩, ⟨some 10, .mv (.const (.int .i64 19)), none⟩]
def Xn16_21 : C := .seq Xn16_22 .ret
def Xn16_20 : C := .cond (.tmp 38) Xn16_21 .skip
def Xn16_18 : C := .seq Xn16_19 Xn16_20
def Xn16_14 : C := .cond (.tmp 34) Xn16_15 Xn16_18
def Xn16_12 : C := .seq Xn16_13 Xn16_14
def Xn16_8 : C := .cond (.tmp 12) Xn16_9 Xn16_12
def Xn16_6 : C := .seq Xn16_7 Xn16_8
def Xn16_5 : C := .block 0 Xn16_6
def Xn16_26 : C := regL [8, 9, 10] none [⟨some 44, .mv (.tmp 0), none⟩, ⟨some 45, .mv (.tmp 2), none⟩, ⟨some 46, .mv (.tmp 3), none⟩, ⟨some 47, .bin 2 .sub (.tmp 45) (.tmp 46), none⟩, ⟨some 48, .mv (.tmp 2), none⟩, ⟨some 49, .mv (.tmp 1), none⟩, ⟨some 50, .bin 2 .sub (.tmp 48) (.tmp 49), none⟩, ⟨some 51, .bld (.agg #[.int .i64 0, .int .i64 0, .int .i64 0]) [(0, 1, .tmp 44), (1, 1, .tmp 47), (2, 1, .tmp 50)], none⟩, ⟨some 52, .call 55 [.tmp 51], none⟩, ⟨some 53, .mv (.tmp 0), none⟩, ⟨some 54, .mv (.tmp 3), none⟩, ⟨some 55, .mv (.tmp 1), none⟩, ⟨some 56, .bin 2 .sub (.tmp 54) (.tmp 55), none⟩, ⟨some 57, .mv (.tmp 2), none⟩, ⟨some 58, .mv (.tmp 1), none⟩, ⟨some 59, .bin 2 .sub (.tmp 57) (.tmp 58), none⟩, ⟨some 60, .bld (.agg #[.int .i64 0, .int .i64 0, .int .i64 0]) [(0, 1, .tmp 53), (1, 1, .tmp 56), (2, 1, .tmp 59)], none⟩, ⟨some 61, .call 55 [.tmp 60], none⟩, ⟨some 8, .mv (.tmp 52), none⟩, ⟨some 9, .mv (.tmp 61), none⟩, ⟨some 10, .mv (.const (.int .i64 0)), none⟩]
def Xn16_25 : C := .seq Xn16_26 .ret
def Xn16_4 : C := seqL [0, 1, 2, 3] Xn16_5 Xn16_25
def Xn16_2 : C := .seq Xn16_3 Xn16_4
def Xn16_0 : C := .seq Xn16_1 Xn16_2
theorem Xt16 : Text Try.prog 16 Xn16_0 62 4 [.t 8, .t 9, .t 10] := ⟨⟨Try.f16, [], Try.func16, by kernel_rfl, by kernel_rfl, by kernel_rfl, by kernel_rfl⟩⟩
def Xn17_1 : C := regL [] none [⟨some 0, .mv (.const (.bool false)), none⟩]
def Xn17_3 : C := regL [1, 2] none [⟨some 9, .call 35 [], none⟩, ⟨some 10, .bld (.agg #[.int .i64 0, .int .i64 0]) [(0, 1, .const (.int .i64 2000))], none⟩, ⟨some 11, .call 21 [.tmp 9, .const (.int .i64 16000), .tmp 10], none⟩, ⟨some 8, .mv (.tmp 11), none⟩, ⟨some 12, .ext 0 (.tmp 8), none⟩, ⟨some 13, .ext 1 (.tmp 8), none⟩, ⟨some 1, .alc 30 (.agg #[.int .i64 0, .int .i64 0, .int .i64 0]), none⟩, ⟨none, .st 30 3 (.tmp 1) (.tmp 12), none⟩, ⟨some 2, .mv (.tmp 13), none⟩]
def Xn17_5 : C := regL [1, 2, 3, 4] none [⟨some 15, .call 35 [], none⟩, ⟨some 16, .bld (.agg #[.int .i64 0, .int .i64 0]) [(0, 1, .const (.int .i64 5000))], none⟩, ⟨some 17, .call 19 [.tmp 15, .tmp 16], none⟩, ⟨some 14, .mv (.tmp 17), none⟩, ⟨some 18, .ext 0 (.tmp 14), none⟩, ⟨some 19, .ext 1 (.tmp 14), none⟩, ⟨some 3, .mv (.tmp 18), none⟩, ⟨some 4, .mv (.tmp 19), none⟩]
def Xn17_7 : C := regL [1, 2, 3, 4, 5, 6, 7] none [⟨some 21, .call 16 [.const (.int .i64 1000), .const (.int .i64 0), .const (.int .i64 3), .const (.int .i64 1)], none⟩, ⟨some 20, .mv (.tmp 21), none⟩, ⟨some 22, .ext 0 (.tmp 20), none⟩, ⟨some 23, .ext 1 (.tmp 20), none⟩, ⟨some 24, .ext 2 (.tmp 20), none⟩, ⟨some 5, .mv (.tmp 22), none⟩, ⟨some 6, .mv (.tmp 23), none⟩, ⟨some 7, .mv (.tmp 24), none⟩]
def Xn17_9 : C := regL [0] none [⟨some 25, .mv (.tmp 2), none⟩, ⟨some 26, .mv (.tmp 4), none⟩, ⟨some 27, .bin 22 .add (.tmp 25) (.tmp 26), none⟩, ⟨some 28, .mv (.tmp 7), none⟩, ⟨some 29, .bin 22 .add (.tmp 27) (.tmp 28), none⟩, ⟨some 30, .bin 22 .eql (.tmp 29) (.const (.int .i64 0)), none⟩, ⟨some 31, .mv (.tmp 30), none⟩, ⟨some 32, .ld 30 3 true (.tmp 1), some (31, true)⟩, ⟨some 33, .bld (.agg #[.int .i64 0, .int .i64 0, .int .i64 0]) [(0, 1, .const (.int .i64 4000)), (1, 1, .const (.int .i64 3000)), (2, 1, .const (.int .i64 5000))], some (31, true)⟩, ⟨some 34, .eqb 21 false (.tmp 32) (.tmp 33), some (31, true)⟩, ⟨some 35, .pick 31 (.tmp 34) (.const (.bool false)), none⟩, ⟨some 36, .mv (.tmp 35), none⟩, ⟨some 37, .mv (.tmp 3), some (36, true)⟩, ⟨some 38, .bin 3 .eql (.tmp 37) (.const (.int .i64 0)), some (36, true)⟩, ⟨some 39, .pick 36 (.tmp 38) (.const (.bool false)), none⟩, ⟨some 40, .mv (.tmp 39), none⟩, ⟨some 41, .mv (.tmp 5), some (40, true)⟩, ⟨some 42, .bin 2 .eql (.tmp 41) (.const (.int .i64 667)), some (40, true)⟩, ⟨some 43, .pick 40 (.tmp 42) (.const (.bool false)), none⟩, ⟨some 44, .mv (.tmp 43), none⟩, ⟨some 45, .mv (.tmp 6), some (44, true)⟩, ⟨some 46, .bin 2 .eql (.tmp 45) (.const (.int .i64 334)), some (44, true)⟩, ⟨some 47, .pick 44 (.tmp 46) (.const (.bool false)), none⟩, ⟨some 0, .mv (.tmp 47), none⟩]
def Xn17_8 : C := .seq Xn17_9 .ret
def Xn17_6 : C := .seq Xn17_7 Xn17_8
def Xn17_4 : C := .seq Xn17_5 Xn17_6
def Xn17_2 : C := .seq Xn17_3 Xn17_4
def Xn17_0 : C := .seq Xn17_1 Xn17_2
theorem Xt17 : Text Try.prog 17 Xn17_0 48 0 [.t 0] := ⟨⟨Try.f17, [], Try.func17, by kernel_rfl, by kernel_rfl, by kernel_rfl, by kernel_rfl⟩⟩
def Xn19_1 : C := regL [0, 3] none [⟨some 3, .box true 29 (.tmp 1), none⟩, ⟨some 4, .mv (.const (.int .i64 0)), none⟩, ⟨some 5, .mv (.const (.int .i64 0)), none⟩]
def Xn19_3 : C := regL [3, 6, 7] none [⟨some 10, .mv (.tmp 0), none⟩, ⟨some 11, .call 56 [.tmp 10], none⟩, ⟨some 9, .mv (.tmp 11), none⟩, ⟨some 12, .ext 0 (.tmp 9), none⟩, ⟨some 13, .ext 1 (.tmp 9), none⟩, ⟨some 6, .mv (.tmp 12), none⟩, ⟨some 7, .mv (.tmp 13), none⟩]
def Xn19_6 : C := regL [3, 6, 7, 15] none [⟨some 14, .mv (.tmp 7), none⟩, ⟨some 15, .bin 22 .neq (.tmp 14) (.const (.int .i64 0)), none⟩]
def Xn19_9 : C := regL [4, 5] none [⟨some 16, .mv (.tmp 7), none⟩, ⟨some 4, .mv (.const (.int .i64 0)), none⟩, ⟨some 5, .mv (.tmp 16), none⟩]
def Xn19_8 : C := .seq Xn19_9 .ret
def Xn19_7 : C := .cond (.tmp 15) Xn19_8 .skip
def Xn19_5 : C := .seq Xn19_6 Xn19_7
def Xn19_14 : C := regL [3, 6, 19] none [⟨some 17, .ld 29 2 true (.tmp 3), none⟩, ⟨some 18, .call 57 [.tmp 17], none⟩, ⟨some 19, .un .not (.tmp 18), none⟩]
def Xn19_17 : C := regL [4, 5] none [⟨some 4, .mv (.const (.int .i64 0)), none⟩, ⟨some 5, .mv (.const (.int .i64 3)), none⟩]
def Xn19_16 : C := .seq Xn19_17 .ret
def Xn19_15 : C := .cond (.tmp 19) Xn19_16 .skip
def Xn19_13 : C := .seq Xn19_14 Xn19_15
def Xn19_22 : C := regL [8] none [⟨some 20, .mv (.tmp 6), none⟩, ⟨some 21, .ld 29 2 true (.tmp 3), none⟩, ⟨some 22, .call 58 [.tmp 20, .tmp 21], none⟩, ⟨some 8, .mv (.tmp 22), none⟩]
def Xn19_24 : C := regL [8, 24] none [⟨some 23, .mv (.tmp 8), none⟩, ⟨some 24, .bin 3 .geq (.tmp 23) (.const (.int .i64 0)), none⟩]
def Xn19_27 : C := regL [4, 5] none [⟨some 25, .mv (.tmp 8), none⟩, ⟨some 4, .mv (.tmp 25), none⟩, ⟨some 5, .mv (.const (.int .i64 0)), none⟩]
def Xn19_26 : C := .seq Xn19_27 .ret
def Xn19_25 : C := .cond (.tmp 24) Xn19_26 .skip
def Xn19_23 : C := .seq Xn19_24 Xn19_25
def Xn19_21 : C := .seq Xn19_22 Xn19_23
def Xn19_31 : C := regL [4, 5] none [⟨some 4, .mv (.const (.int .i64 0)), none⟩, ⟨some 5, .mv (.const (.int .i64 5)), none⟩]
def Xn19_30 : C := .seq Xn19_31 .ret
def Xn19_20 : C := seqL [] Xn19_21 Xn19_30
def Xn19_12 : C := seqL [3, 6] Xn19_13 Xn19_20
def Xn19_4 : C := seqL [3, 6] Xn19_5 Xn19_12
def Xn19_2 : C := .seq Xn19_3 Xn19_4
def Xn19_0 : C := .seq Xn19_1 Xn19_2
theorem Xt19 : Text Try.prog 19 Xn19_0 26 2 [.t 4, .t 5] := ⟨⟨Try.f19, [3], Try.func19, by kernel_rfl, by kernel_rfl, by kernel_rfl, by kernel_rfl⟩⟩
def Xn21_1 : C := regL [0, 1, 5, 6] none [⟨some 5, .box true 29 (.tmp 2), none⟩, ⟨some 6, .alc 30 (.agg #[.int .i64 0, .int .i64 0, .int .i64 0]), none⟩, ⟨some 7, .mv (.const (.int .i64 0)), none⟩]
def Xn21_3 : C := regL [1, 5, 6, 8, 9] none [⟨some 11, .mv (.tmp 0), none⟩, ⟨some 12, .call 56 [.tmp 11], none⟩, ⟨some 10, .mv (.tmp 12), none⟩, ⟨some 13, .ext 0 (.tmp 10), none⟩, ⟨some 14, .ext 1 (.tmp 10), none⟩, ⟨some 8, .mv (.tmp 13), none⟩, ⟨some 9, .mv (.tmp 14), none⟩]
def Xn21_6 : C := regL [1, 5, 6, 8, 9, 16] none [⟨some 15, .mv (.tmp 9), none⟩, ⟨some 16, .bin 22 .neq (.tmp 15) (.const (.int .i64 0)), none⟩]
def Xn21_9 : C := regL [6, 7] none [⟨some 17, .bld (.agg #[.int .i64 0, .int .i64 0, .int .i64 0]) [], none⟩, ⟨some 18, .mv (.tmp 9), none⟩, ⟨none, .st 30 3 (.tmp 6) (.tmp 17), none⟩, ⟨some 7, .mv (.tmp 18), none⟩]
def Xn21_8 : C := .seq Xn21_9 .ret
def Xn21_7 : C := .cond (.tmp 16) Xn21_8 .skip
def Xn21_5 : C := .seq Xn21_6 Xn21_7
def Xn21_13 : C := regL [6, 7] none [⟨some 19, .mv (.tmp 8), none⟩, ⟨some 20, .mv (.tmp 1), none⟩, ⟨some 21, .ld 29 2 true (.tmp 5), none⟩, ⟨some 22, .call 59 [.tmp 19, .tmp 20, .tmp 21], none⟩, ⟨some 23, .ext 0 (.tmp 22), none⟩, ⟨some 24, .ext 1 (.tmp 22), none⟩, ⟨none, .st 30 3 (.tmp 6) (.tmp 23), none⟩, ⟨some 7, .mv (.tmp 24), none⟩]
def Xn21_12 : C := .seq Xn21_13 .ret
def Xn21_4 : C := seqL [1, 5, 6, 8] Xn21_5 Xn21_12
def Xn21_2 : C := .seq Xn21_3 Xn21_4
def Xn21_0 : C := .seq Xn21_1 Xn21_2
theorem Xt21 : Text Try.prog 21 Xn21_0 25 3 [.c 6 3 true, .t 7] := ⟨⟨Try.f21, [5], Try.func21, by kernel_rfl, by kernel_rfl, by kernel_rfl, by kernel_rfl⟩⟩
/- carried: [3] -/
/- carried: [10] -/
/- carried: [8] -/
def Xn35_1 : C := regL [] none [⟨some 0, .mv (.const (.slice none 0 0)), none⟩]
def Xn35_3 : C := regL [0] none [⟨some 1, .bld (.agg #[.int .i64 0, .int .i64 0, .int .i64 0, .int .i64 0, .int .i64 0, .int .i64 0]) [(3, 1, .const (.int .i64 10000)), (4, 1, .const (.int .i64 100)), (5, 1, .const (.int .i64 900))], none⟩, ⟨some 2, .bld (.agg #[.int .i64 0, .int .i64 0, .int .i64 0, .int .i64 0, .int .i64 0, .int .i64 0]) [(0, 1, .const (.int .i64 4000)), (1, 1, .const (.int .i64 2000)), (2, 1, .const (.int .i64 1)), (3, 1, .const (.int .i64 10000)), (4, 1, .const (.int .i64 100)), (5, 1, .const (.int .i64 900))], none⟩, ⟨some 3, .bld (.agg #[.int .i64 0, .int .i64 0, .int .i64 0, .int .i64 0, .int .i64 0, .int .i64 0]) [(0, 1, .const (.int .i64 4000)), (1, 1, .const (.int .i64 (-2000))), (2, 1, .const (.int .i64 2)), (3, 1, .const (.int .i64 10000)), (4, 1, .const (.int .i64 100)), (5, 1, .const (.int .i64 900))], none⟩, ⟨some 4, .bld (.agg #[.int .i64 0, .int .i64 0, .int .i64 0, .int .i64 0, .int .i64 0, .int .i64 0]) [(1, 1, .const (.int .i64 1000)), (3, 1, .const (.int .i64 10000)), (4, 1, .const (.int .i64 100)), (5, 1, .const (.int .i64 900))], none⟩, ⟨some 5, .bls 62 6 4 (.agg #[.int .i64 0, .int .i64 0, .int .i64 0, .int .i64 0, .int .i64 0, .int .i64 0]) [(0, 6, .tmp 1), (6, 6, .tmp 2), (12, 6, .tmp 3), (18, 6, .tmp 4)], none⟩, ⟨some 0, .mv (.tmp 5), none⟩]
def Xn35_2 : C := .seq Xn35_3 .ret
def Xn35_0 : C := .seq Xn35_1 Xn35_2
theorem Xt35 : Text Try.prog 35 Xn35_0 6 0 [.t 0] := ⟨⟨Try.f35, [], Try.func35, by kernel_rfl, by kernel_rfl, by kernel_rfl, by kernel_rfl⟩⟩
/- carried: [11, 30] -/
/- carried: [8, 9] -/
def Xn40_1 : C := regL [0, 1] none [⟨some 4, .mv (.const (.bool false)), none⟩]
def Xn40_4 : C := regL [0, 1, 10] none [⟨some 6, .mv (.tmp 0), none⟩, ⟨some 7, .len (.tmp 6), none⟩, ⟨some 8, .mv (.tmp 1), none⟩, ⟨some 9, .len (.tmp 8), none⟩, ⟨some 10, .bin 3 .neq (.tmp 7) (.tmp 9), none⟩]
def Xn40_7 : C := regL [4] none [⟨some 4, .mv (.const (.bool false)), none⟩]
def Xn40_6 : C := .seq Xn40_7 .ret
def Xn40_5 : C := .cond (.tmp 10) Xn40_6 .skip
def Xn40_3 : C := .seq Xn40_4 Xn40_5
def Xn40_12 : C := regL [0, 1, 5] none [⟨some 5, .mv (.const (.int .i64 0)), none⟩]
def Xn40_17 : C := regL [0, 1, 5, 14] none [⟨some 11, .mv (.tmp 5), none⟩, ⟨some 12, .mv (.tmp 0), none⟩, ⟨some 13, .len (.tmp 12), none⟩, ⟨some 14, .bin 3 .lss (.tmp 11) (.tmp 13), none⟩]
def Xn40_18 : C := .cond (.tmp 14) .skip (.exit 0)
def Xn40_16 : C := .seq Xn40_17 Xn40_18
def Xn40_24 : C := regL [0, 1, 5, 25] (some [0, 0, 3, 7, 0, 0, 48, 112, 255]) [⟨some 17, .mv (.tmp 0), none⟩, ⟨some 18, .mv (.tmp 5), none⟩, ⟨some 19, .ia 1 (.tmp 17) (.tmp 18), none⟩, ⟨some 20, .ld 2 1 false (.tmp 19), none⟩, ⟨some 21, .mv (.tmp 1), none⟩, ⟨some 22, .mv (.tmp 5), none⟩, ⟨some 23, .ia 1 (.tmp 21) (.tmp 22), none⟩, ⟨some 24, .ld 2 1 false (.tmp 23), none⟩, ⟨some 25, .bin 2 .neq (.tmp 20) (.tmp 24), none⟩]
def Xn40_27 : C := regL [4] none [⟨some 4, .mv (.const (.bool false)), none⟩]
def Xn40_26 : C := .seq Xn40_27 .ret
def Xn40_25 : C := .cond (.tmp 25) Xn40_26 .skip
def Xn40_23 : C := .seq Xn40_24 Xn40_25
def Xn40_22 : C := .block 1 Xn40_23
def Xn40_30 : C := regL [0, 1, 5] none [⟨some 15, .mv (.tmp 5), none⟩, ⟨some 16, .bin 3 .add (.tmp 15) (.const (.int .i64 1)), none⟩, ⟨some 5, .mv (.tmp 16), none⟩]
def Xn40_21 : C := seqL [0, 1, 5] Xn40_22 Xn40_30
def Xn40_15 : C := seqL [0, 1, 5] Xn40_16 Xn40_21
/- carried: [5] -/
def Xn40_14 : C := loopL [0, 1, 5] Xn40_15
def Xn40_13 : C := .block 0 Xn40_14
def Xn40_11 : C := .seq Xn40_12 Xn40_13
def Xn40_32 : C := regL [4] none [⟨some 4, .mv (.const (.bool true)), none⟩]
def Xn40_31 : C := .seq Xn40_32 .ret
def Xn40_10 : C := seqL [] Xn40_11 Xn40_31
def Xn40_2 : C := seqL [0, 1] Xn40_3 Xn40_10
def Xn40_0 : C := .seq Xn40_1 Xn40_2
theorem Xt40 : Text Try.prog 40 Xn40_0 26 2 [.t 4] := ⟨⟨Try.f40, [], Try.func40, by kernel_rfl, by kernel_rfl, by kernel_rfl, by kernel_rfl⟩⟩
def Xn41_1 : C := regL [1] none [⟨some 1, .box true 67 (.tmp 0), none⟩, ⟨some 2, .mv (.const (.bool false)), none⟩]
def Xn41_4 : C := regL [1, 13] none [⟨some 4, .fa 1 (.tmp 1), none⟩, ⟨some 5, .ld 65 1 false (.tmp 4), none⟩, ⟨some 6, .len (.tmp 5), none⟩, ⟨some 7, .bin 3 .gtr (.tmp 6) (.const (.int .i64 20)), none⟩, ⟨some 8, .mv (.tmp 7), none⟩, ⟨some 9, .fa 0 (.tmp 1), some (8, false)⟩, ⟨some 10, .ld 9 1 false (.tmp 9), some (8, false)⟩, ⟨some 11, .slen (.tmp 10), some (8, false)⟩, ⟨some 12, .bin 3 .gtr (.tmp 11) (.const (.int .i64 100)), some (8, false)⟩, ⟨some 13, .pick 8 (.const (.bool true)) (.tmp 12), none⟩]
def Xn41_7 : C := regL [2] none [⟨some 2, .mv (.const (.bool true)), none⟩]
def Xn41_6 : C := .seq Xn41_7 .ret
def Xn41_5 : C := .cond (.tmp 13) Xn41_6 .skip
def Xn41_3 : C := .seq Xn41_4 Xn41_5
def Xn41_12 : C := regL [1, 3] none [⟨some 3, .mv (.const (.int .i64 0)), none⟩]
def Xn41_17 : C := regL [1, 3, 18] none [⟨some 14, .mv (.tmp 3), none⟩, ⟨some 15, .fa 1 (.tmp 1), none⟩, ⟨some 16, .ld 65 1 false (.tmp 15), none⟩, ⟨some 17, .len (.tmp 16), none⟩, ⟨some 18, .bin 3 .lss (.tmp 14) (.tmp 17), none⟩]
def Xn41_18 : C := .cond (.tmp 18) .skip (.exit 0)
def Xn41_16 : C := .seq Xn41_17 Xn41_18
def Xn41_24 : C := regL [1, 3, 28] none [⟨some 21, .fa 1 (.tmp 1), none⟩, ⟨some 22, .ld 65 1 false (.tmp 21), none⟩, ⟨some 23, .mv (.tmp 3), none⟩, ⟨some 24, .ia 11 (.tmp 22) (.tmp 23), none⟩, ⟨some 25, .fa 10 (.tmp 24), none⟩, ⟨some 26, .ld 119 1 false (.tmp 25), none⟩, ⟨some 27, .len (.tmp 26), none⟩, ⟨some 28, .bin 3 .gtr (.tmp 27) (.const (.int .i64 40)), none⟩]
def Xn41_27 : C := regL [2] none [⟨some 2, .mv (.const (.bool true)), none⟩]
def Xn41_26 : C := .seq Xn41_27 .ret
def Xn41_25 : C := .cond (.tmp 28) Xn41_26 .skip
def Xn41_23 : C := .seq Xn41_24 Xn41_25
def Xn41_22 : C := .block 1 Xn41_23
def Xn41_30 : C := regL [1, 3] none [⟨some 19, .mv (.tmp 3), none⟩, ⟨some 20, .bin 3 .add (.tmp 19) (.const (.int .i64 1)), none⟩, ⟨some 3, .mv (.tmp 20), none⟩]
def Xn41_21 : C := seqL [1, 3] Xn41_22 Xn41_30
def Xn41_15 : C := seqL [1, 3] Xn41_16 Xn41_21
/- carried: [3] -/
def Xn41_14 : C := loopL [1, 3] Xn41_15
def Xn41_13 : C := .block 0 Xn41_14
def Xn41_11 : C := .seq Xn41_12 Xn41_13
def Xn41_32 : C := regL [2] none [⟨some 2, .mv (.const (.bool false)), none⟩]
def Xn41_31 : C := .seq Xn41_32 .ret
def Xn41_10 : C := seqL [] Xn41_11 Xn41_31
def Xn41_2 : C := seqL [1] Xn41_3 Xn41_10
def Xn41_0 : C := .seq Xn41_1 Xn41_2
theorem Xt41 : Text Try.prog 41 Xn41_0 29 1 [.t 2] := ⟨⟨Try.f41, [1], Try.func41, by kernel_rfl, by kernel_rfl, by kernel_rfl, by kernel_rfl⟩⟩
def Xn42_1 : C := regL [0, 1, 2, 3] none [⟨some 8, .mv (.const (.int .i64 0)), none⟩, ⟨some 9, .mv (.const (.int .i64 0)), none⟩, ⟨some 10, .mv (.const (.int .i64 0)), none⟩]
def Xn42_4 : C := regL [0, 1, 2, 3, 28] none [⟨some 11, .mv (.tmp 0), none⟩, ⟨some 12, .call 75 [.tmp 11], none⟩, ⟨some 13, .bin 22 .neq (.tmp 12) (.const (.int .i64 0)), none⟩, ⟨some 14, .mv (.tmp 13), none⟩, ⟨some 15, .mv (.tmp 1), some (14, false)⟩, ⟨some 16, .call 74 [.tmp 15, .const (.int .i64 (-16777216)), .const (.int .i64 16777216)], some (14, false)⟩, ⟨some 17, .un .not (.tmp 16), some (14, false)⟩, ⟨some 18, .pick 14 (.const (.bool true)) (.tmp 17), none⟩, ⟨some 19, .mv (.tmp 18), none⟩, ⟨some 20, .mv (.tmp 2), some (19, false)⟩, ⟨some 21, .call 74 [.tmp 20, .const (.int .i64 (-16777216)), .const (.int .i64 16777216)], some (19, false)⟩, ⟨some 22, .un .not (.tmp 21), some (19, false)⟩, ⟨some 23, .pick 19 (.const (.bool true)) (.tmp 22), none⟩, ⟨some 24, .mv (.tmp 23), none⟩, ⟨some 25, .mv (.tmp 3), some (24, false)⟩, ⟨some 26, .call 74 [.tmp 25, .const (.int .i64 (-16777216)), .const (.int .i64 16777216)], some (24, false)⟩, ⟨some 27, .un .not (.tmp 26), some (24, false)⟩, ⟨some 28, .pick 24 (.const (.bool true)) (.tmp 27), none⟩]
def Xn42_7 : C := regL [8, 9, 10] none [⟨some 8, .mv (.const (.int .i64 0)), none⟩, ⟨some 9, .mv (.const (.int .i64 0)), none⟩, ⟨some 10, .mv (.const (.int .i64 3)), none⟩]
def Xn42_6 : C := .seq Xn42_7 .ret
def Xn42_5 : C := .cond (.tmp 28) Xn42_6 .skip
def Xn42_3 : C := .seq Xn42_4 Xn42_5
def Xn42_12 : C := regL [0, 1, 2, 3, 31] none [⟨some 29, .mv (.tmp 1), none⟩, ⟨some 30, .mv (.tmp 2), none⟩, ⟨some 31, .bin 2 .geq (.tmp 29) (.tmp 30), none⟩]
def Xn42_15 : C := regL [8, 9, 10] none [⟨some 8, .mv (.const (.int .i64 0)), none⟩, ⟨some 9, .mv (.const (.int .i64 0)), none⟩, ⟨some 10, .mv (.const (.int .i64 9)), none⟩]
def Xn42_14 : C := .seq Xn42_15 .ret
def Xn42_13 : C := .cond (.tmp 31) Xn42_14 .skip
def Xn42_11 : C := .seq Xn42_12 Xn42_13
def Xn42_20 : C := regL [0, 1, 2, 3, 36] none [⟨some 32, .mv (.tmp 3), none⟩, ⟨some 33, .mv (.tmp 1), none⟩, ⟨some 34, .mv (.tmp 2), none⟩, ⟨some 35, .call 74 [.tmp 32, .tmp 33, .tmp 34], none⟩, ⟨some 36, .un .not (.tmp 35), none⟩]
def Xn42_23 : C := regL [8, 9, 10] none [⟨some 8, .mv (.const (.int .i64 0)), none⟩, ⟨some 9, .mv (.const (.int .i64 0)), none⟩, ⟨some 10, .mv (.const (.int .i64 19)), none⟩]
def Xn42_22 : C := .seq Xn42_23 .ret
def Xn42_21 : C := .cond (.tmp 36) Xn42_22 .skip
def Xn42_19 : C := .seq Xn42_20 Xn42_21
def Xn42_27 : C := regL [8, 9, 10] none [⟨some 37, .mv (.tmp 0), none⟩, ⟨some 38, .mv (.tmp 2), none⟩, ⟨some 39, .mv (.tmp 3), none⟩, ⟨some 40, .bin 2 .sub (.tmp 38) (.tmp 39), none⟩, ⟨some 41, .mv (.tmp 2), none⟩, ⟨some 42, .mv (.tmp 1), none⟩, ⟨some 43, .bin 2 .sub (.tmp 41) (.tmp 42), none⟩, ⟨some 44, .call 81 [.tmp 37, .tmp 40, .tmp 43], none⟩, ⟨some 45, .mv (.tmp 0), none⟩, ⟨some 46, .mv (.tmp 3), none⟩, ⟨some 47, .mv (.tmp 1), none⟩, ⟨some 48, .bin 2 .sub (.tmp 46) (.tmp 47), none⟩, ⟨some 49, .mv (.tmp 2), none⟩, ⟨some 50, .mv (.tmp 1), none⟩, ⟨some 51, .bin 2 .sub (.tmp 49) (.tmp 50), none⟩, ⟨some 52, .call 81 [.tmp 45, .tmp 48, .tmp 51], none⟩, ⟨some 8, .mv (.tmp 44), none⟩, ⟨some 9, .mv (.tmp 52), none⟩, ⟨some 10, .mv (.const (.int .i64 0)), none⟩]
def Xn42_26 : C := .seq Xn42_27 .ret
def Xn42_18 : C := seqL [0, 1, 2, 3] Xn42_19 Xn42_26
def Xn42_10 : C := seqL [0, 1, 2, 3] Xn42_11 Xn42_18
def Xn42_2 : C := seqL [0, 1, 2, 3] Xn42_3 Xn42_10
def Xn42_0 : C := .seq Xn42_1 Xn42_2
theorem Xt42 : Text Try.prog 42 Xn42_0 53 4 [.t 8, .t 9, .t 10] := ⟨⟨Try.f42, [], Try.func42, by kernel_rfl, by kernel_rfl, by kernel_rfl, by kernel_rfl⟩⟩
def Xn43_1 : C := regL [1, 2, 3, 4] none [⟨some 4, .box true 67 (.tmp 0), none⟩, ⟨some 8, .mv (.const (.slice none 0 0)), none⟩, ⟨some 9, .mv (.const (.int .i64 0)), none⟩]
def Xn43_4 : C := regL [1, 2, 3, 4, 10] none [⟨some 17, .ld 67 4 true (.tmp 4), none⟩, ⟨some 18, .call 82 [.tmp 17], none⟩, ⟨some 10, .mv (.tmp 18), none⟩]
def Xn43_6 : C := regL [1, 2, 3, 4, 10, 20] none [⟨some 19, .mv (.tmp 10), none⟩, ⟨some 20, .bin 22 .neq (.tmp 19) (.const (.int .i64 0)), none⟩]
def Xn43_9 : C := regL [8, 9] none [⟨some 21, .mv (.tmp 10), none⟩, ⟨some 8, .mv (.const (.slice none 0 0)), none⟩, ⟨some 9, .mv (.tmp 21), none⟩]
def Xn43_8 : C := .seq Xn43_9 .ret
def Xn43_7 : C := .cond (.tmp 20) Xn43_8 .skip
def Xn43_5 : C := .seq Xn43_6 Xn43_7
def Xn43_3 : C := .seq Xn43_4 Xn43_5
def Xn43_15 : C := regL [1, 2, 3, 4, 22] none [⟨some 23, .mv (.tmp 1), none⟩, ⟨some 24, .call 54 [.tmp 23], none⟩, ⟨some 25, .un .not (.tmp 24), none⟩, ⟨some 26, .mv (.tmp 25), none⟩, ⟨some 27, .mv (.tmp 2), some (26, false)⟩, ⟨some 28, .call 53 [.tmp 27, .const (.int .i64 1), .const (.int .i64 16777216)], some (26, false)⟩, ⟨some 29, .un .not (.tmp 28), some (26, false)⟩, ⟨some 30, .pick 26 (.const (.bool true)) (.tmp 29), none⟩, ⟨some 22, .mv (.tmp 30), none⟩]
def Xn43_18 : C := regL [8, 9] none [⟨some 8, .mv (.const (.slice none 0 0)), none⟩, ⟨some 9, .mv (.const (.int .i64 3)), none⟩]
def Xn43_17 : C := .seq Xn43_18 .ret
def Xn43_21 : C := regL [1, 2, 3, 4, 31] none [⟨some 32, .mv (.tmp 3), none⟩, ⟨some 33, .mv (.tmp 2), none⟩, ⟨some 34, .call 53 [.tmp 32, .const (.int .i64 0), .tmp 33], none⟩, ⟨some 35, .un .not (.tmp 34), none⟩, ⟨some 31, .mv (.tmp 35), none⟩]
def Xn43_24 : C := regL [8, 9] none [⟨some 8, .mv (.const (.slice none 0 0)), none⟩, ⟨some 9, .mv (.const (.int .i64 19)), none⟩]
def Xn43_23 : C := .seq Xn43_24 .ret
def Xn43_22 : C := .cond (.tmp 31) Xn43_23 .skip
def Xn43_20 : C := .seq Xn43_21 Xn43_22
def Xn43_16 : C := .cond (.tmp 22) Xn43_17 Xn43_20
def Xn43_14 : C := .seq Xn43_15 Xn43_16
def Xn43_13 : C := .block 0 Xn43_14
def Xn43_28 : C := regL [1, 2, 3, 4, 11] none [⟨some 36, .fa 1 (.tmp 4), none⟩, ⟨some 37, .ld 65 1 false (.tmp 36), none⟩, ⟨some 38, .len (.tmp 37), none⟩, ⟨some 39, .mks 2 1 8 (.int .i64 0) (.tmp 38) (.tmp 38), none⟩, ⟨some 11, .mv (.tmp 39), none⟩]
def Xn43_31 : C := regL [1, 2, 3, 4, 11, 44] none [⟨some 40, .fa 2 (.tmp 4), none⟩, ⟨some 41, .ld 3 1 false (.tmp 40), none⟩, ⟨some 42, .fa 3 (.tmp 4), none⟩, ⟨some 43, .ld 3 1 false (.tmp 42), none⟩, ⟨some 44, .bin 3 .eql (.tmp 41) (.tmp 43), none⟩]
def Xn43_33 : C := regL [4, 11] none [⟨some 45, .mv (.tmp 11), none⟩, ⟨some 46, .fa 2 (.tmp 4), none⟩, ⟨some 47, .ld 3 1 false (.tmp 46), none⟩, ⟨some 48, .mv (.tmp 1), none⟩, ⟨some 49, .ia 1 (.tmp 45) (.tmp 47), none⟩, ⟨none, .st 2 1 (.tmp 49) (.tmp 48), none⟩]
def Xn43_34 : C := regL [4, 11] (some [0, 0, 2, 0, 0, 16, 0, 0, 0, 448, 960, 1984, 1984, 1984, 4039, 20423, 57343, 122879]) [⟨some 51, .mv (.tmp 11), none⟩, ⟨some 52, .fa 2 (.tmp 4), none⟩, ⟨some 53, .ld 3 1 false (.tmp 52), none⟩, ⟨some 54, .mv (.tmp 11), none⟩, ⟨some 55, .fa 3 (.tmp 4), none⟩, ⟨some 56, .ld 3 1 false (.tmp 55), none⟩, ⟨some 57, .mv (.tmp 1), none⟩, ⟨some 58, .mv (.tmp 2), none⟩, ⟨some 59, .mv (.tmp 3), none⟩, ⟨some 60, .call 16 [.tmp 57, .const (.int .i64 0), .tmp 58, .tmp 59], none⟩, ⟨some 50, .mv (.tmp 60), none⟩, ⟨some 61, .ext 0 (.tmp 50), none⟩, ⟨some 62, .ext 1 (.tmp 50), none⟩, ⟨some 63, .ext 2 (.tmp 50), none⟩, ⟨some 64, .ia 1 (.tmp 51) (.tmp 53), none⟩, ⟨none, .st 2 1 (.tmp 64) (.tmp 61), none⟩, ⟨some 65, .ia 1 (.tmp 54) (.tmp 56), none⟩, ⟨none, .st 2 1 (.tmp 65) (.tmp 62), none⟩]
def Xn43_32 : C := .cond (.tmp 44) Xn43_33 Xn43_34
def Xn43_30 : C := .seq Xn43_31 Xn43_32
def Xn43_36 : C := regL [4, 11, 12] none [⟨some 12, .mv (.const (.slice none 0 0)), none⟩]
def Xn43_39 : C := regL [11, 12, 67, 68, 69] none [⟨some 66, .fa 1 (.tmp 4), none⟩, ⟨some 67, .ld 65 1 false (.tmp 66), none⟩, ⟨some 68, .len (.tmp 67), none⟩, ⟨some 69, .mv (.const (.int .i64 0)), none⟩]
def Xn43_43 : C := regL [11, 12, 67, 68, 69, 70] none [⟨some 70, .bin 3 .lss (.tmp 69) (.tmp 68), none⟩]
def Xn43_45 : C := .cond (.tmp 70) .skip (.exit 1)
def Xn43_51 : C := regL [11, 12, 13, 14, 67, 68, 69] none [⟨some 71, .mv (.tmp 69), none⟩, ⟨some 72, .ia 11 (.tmp 67) (.tmp 69), none⟩, ⟨some 73, .ld 121 11 true (.tmp 72), none⟩, ⟨some 14, .alc 121 (.agg #[.int .i64 0, .int .i64 0, .int .i64 0, .int .i64 0, .int .i64 0, .int .i64 0, .int .i64 0, .int .i64 0, .int .i64 0, .int .i64 0, .slice none 0 0]), none⟩, ⟨some 13, .mv (.tmp 71), none⟩, ⟨none, .st 121 11 (.tmp 14) (.tmp 73), none⟩]
def Xn43_53 : C := regL [11, 12, 13, 14, 15, 67, 68, 69] none [⟨some 74, .fa 10 (.tmp 14), none⟩, ⟨some 75, .ld 119 1 false (.tmp 74), none⟩, ⟨some 76, .len (.tmp 75), none⟩, ⟨some 15, .mv (.tmp 76), none⟩]
def Xn43_55 : C := regL [11, 12, 14, 16, 67, 68, 69] (some [0, 1, 0, 0, 12, 28, 63, 0, 255, 511, 0, 2047, 0, 8191]) [⟨some 77, .fa 7 (.tmp 14), none⟩, ⟨some 78, .ld 2 1 false (.tmp 77), none⟩, ⟨some 79, .mv (.tmp 11), none⟩, ⟨some 80, .mv (.tmp 13), none⟩, ⟨some 81, .ia 1 (.tmp 79) (.tmp 80), none⟩, ⟨some 82, .ld 2 1 false (.tmp 81), none⟩, ⟨some 83, .bin 2 .add (.tmp 78) (.tmp 82), none⟩, ⟨some 84, .mv (.tmp 15), none⟩, ⟨some 85, .bin 2 .add (.tmp 83) (.tmp 84), none⟩, ⟨some 86, .bin 2 .sub (.tmp 85) (.const (.int .i64 1)), none⟩, ⟨some 87, .mv (.tmp 15), none⟩, ⟨some 88, .bin 2 .quo (.tmp 86) (.tmp 87), none⟩, ⟨some 16, .alc 2 (.int .i64 0), none⟩, ⟨none, .st 2 1 (.tmp 16) (.tmp 88), none⟩]
def Xn43_58 : C := regL [11, 12, 16, 67, 68, 69, 92] none [⟨some 89, .fa 10 (.tmp 14), none⟩, ⟨some 90, .ld 119 1 false (.tmp 89), none⟩, ⟨some 91, .mkf 84 [] [.tmp 16], none⟩, ⟨some 92, .call 83 [.tmp 90, .tmp 91], none⟩]
def Xn43_61 : C := regL [8, 9] none [⟨some 8, .mv (.const (.slice none 0 0)), none⟩, ⟨some 9, .mv (.const (.int .i64 14)), none⟩]
def Xn43_60 : C := .seq Xn43_61 .ret
def Xn43_59 : C := .cond (.tmp 92) Xn43_60 .skip
def Xn43_57 : C := .seq Xn43_58 Xn43_59
def Xn43_64 : C := regL [11, 12, 67, 68, 69] none [⟨some 93, .mv (.tmp 12), none⟩, ⟨some 94, .ld 2 1 false (.tmp 16), none⟩, ⟨some 95, .bls 2 1 1 (.int .i64 0) [(0, 1, .tmp 94)], none⟩, ⟨some 96, .app 2 1 8 (.tmp 93) (.tmp 95), none⟩, ⟨some 12, .mv (.tmp 96), none⟩]
def Xn43_56 : C := seqL [11, 12, 16, 67, 68, 69] Xn43_57 Xn43_64
def Xn43_54 : C := .seq Xn43_55 Xn43_56
def Xn43_52 : C := .seq Xn43_53 Xn43_54
def Xn43_50 : C := .seq Xn43_51 Xn43_52
def Xn43_49 : C := .block 2 Xn43_50
def Xn43_65 : C := regL [11, 12, 67, 68, 69] none [⟨some 97, .bin 3 .add (.tmp 69) (.const (.int .i64 1)), none⟩, ⟨some 69, .mv (.tmp 97), none⟩]
def Xn43_48 : C := seqL [11, 12, 67, 68, 69] Xn43_49 Xn43_65
def Xn43_44 : C := seqL [11, 12, 67, 68, 69] Xn43_45 Xn43_48
def Xn43_42 : C := .seq Xn43_43 Xn43_44
/- carried: [12, 69] -/
def Xn43_41 : C := loopL [11, 12, 67, 68, 69] Xn43_42
def Xn43_40 : C := .block 1 Xn43_41
def Xn43_38 : C := .seq Xn43_39 Xn43_40
def Xn43_67 : C := regL [8, 9] none [⟨some 98, .mv (.tmp 12), none⟩, ⟨some 8, .mv (.tmp 98), none⟩, ⟨some 9, .mv (.const (.int .i64 0)), none⟩]
def Xn43_66 : C := .seq Xn43_67 .ret
def Xn43_37 : C := seqL [12] Xn43_38 Xn43_66
def Xn43_35 : C := .seq Xn43_36 Xn43_37
def Xn43_29 : C := seqL [4, 11] Xn43_30 Xn43_35
def Xn43_27 : C := .seq Xn43_28 Xn43_29
def Xn43_12 : C := seqL [1, 2, 3, 4] Xn43_13 Xn43_27
def Xn43_2 : C := seqL [1, 2, 3, 4] Xn43_3 Xn43_12
def Xn43_0 : C := .seq Xn43_1 Xn43_2
theorem Xt43 : Text Try.prog 43 Xn43_0 99 4 [.t 8, .t 9] := ⟨⟨Try.f43, [4], Try.func43, by kernel_rfl, by kernel_rfl, by kernel_rfl, by kernel_rfl⟩⟩
def Xn44_1 : C := regL [1, 2, 3, 4] none [⟨some 4, .box true 67 (.tmp 0), none⟩, ⟨some 8, .mv (.const (.slice none 0 0)), none⟩, ⟨some 9, .mv (.const (.int .i64 0)), none⟩]
def Xn44_4 : C := regL [1, 2, 3, 4, 20] none [⟨some 18, .ld 67 4 true (.tmp 4), none⟩, ⟨some 19, .call 85 [.tmp 18], none⟩, ⟨some 20, .bin 22 .neq (.tmp 19) (.const (.int .i64 0)), none⟩]
def Xn44_7 : C := regL [8, 9] none [⟨some 21, .ld 67 4 true (.tmp 4), none⟩, ⟨some 22, .call 85 [.tmp 21], none⟩, ⟨some 8, .mv (.const (.slice none 0 0)), none⟩, ⟨some 9, .mv (.tmp 22), none⟩]
def Xn44_6 : C := .seq Xn44_7 .ret
def Xn44_5 : C := .cond (.tmp 20) Xn44_6 .skip
def Xn44_3 : C := .seq Xn44_4 Xn44_5
def Xn44_12 : C := regL [1, 2, 3, 4, 30] none [⟨some 23, .mv (.tmp 1), none⟩, ⟨some 24, .call 75 [.tmp 23], none⟩, ⟨some 25, .bin 22 .neq (.tmp 24) (.const (.int .i64 0)), none⟩, ⟨some 26, .mv (.tmp 25), none⟩, ⟨some 27, .mv (.tmp 2), some (26, false)⟩, ⟨some 28, .call 74 [.tmp 27, .const (.int .i64 1), .const (.int .i64 16777216)], some (26, false)⟩, ⟨some 29, .un .not (.tmp 28), some (26, false)⟩, ⟨some 30, .pick 26 (.const (.bool true)) (.tmp 29), none⟩]
def Xn44_15 : C := regL [8, 9] none [⟨some 8, .mv (.const (.slice none 0 0)), none⟩, ⟨some 9, .mv (.const (.int .i64 3)), none⟩]
def Xn44_14 : C := .seq Xn44_15 .ret
def Xn44_13 : C := .cond (.tmp 30) Xn44_14 .skip
def Xn44_11 : C := .seq Xn44_12 Xn44_13
def Xn44_20 : C := regL [1, 2, 3, 4, 34] none [⟨some 31, .mv (.tmp 3), none⟩, ⟨some 32, .mv (.tmp 2), none⟩, ⟨some 33, .call 74 [.tmp 31, .const (.int .i64 0), .tmp 32], none⟩, ⟨some 34, .un .not (.tmp 33), none⟩]
def Xn44_23 : C := regL [8, 9] none [⟨some 8, .mv (.const (.slice none 0 0)), none⟩, ⟨some 9, .mv (.const (.int .i64 19)), none⟩]
def Xn44_22 : C := .seq Xn44_23 .ret
def Xn44_21 : C := .cond (.tmp 34) Xn44_22 .skip
def Xn44_19 : C := .seq Xn44_20 Xn44_21
def Xn44_27 : C := regL [1, 4, 10, 11] none [⟨some 36, .mv (.tmp 1), none⟩, ⟨some 37, .mv (.tmp 2), none⟩, ⟨some 38, .mv (.tmp 3), none⟩, ⟨some 39, .call 42 [.tmp 36, .const (.int .i64 0), .tmp 37, .tmp 38], none⟩, ⟨some 35, .mv (.tmp 39), none⟩, ⟨some 40, .ext 0 (.tmp 35), none⟩, ⟨some 41, .ext 1 (.tmp 35), none⟩, ⟨some 42, .ext 2 (.tmp 35), none⟩, ⟨some 10, .mv (.tmp 40), none⟩, ⟨some 11, .mv (.tmp 41), none⟩, ⟨some 12, .mv (.tmp 42), none⟩]
def Xn44_29 : C := regL [1, 4, 10, 11, 13] none [⟨some 13, .mv (.const (.slice none 0 0)), none⟩]
def Xn44_32 : C := regL [1, 4, 10, 11, 13, 14] none [⟨some 14, .mv (.const (.int .i64 0)), none⟩]
def Xn44_37 : C := regL [1, 4, 10, 11, 13, 14, 47] none [⟨some 43, .mv (.tmp 14), none⟩, ⟨some 44, .fa 1 (.tmp 4), none⟩, ⟨some 45, .ld 65 1 false (.tmp 44), none⟩, ⟨some 46, .len (.tmp 45), none⟩, ⟨some 47, .bin 3 .lss (.tmp 43) (.tmp 46), none⟩]
def Xn44_38 : C := .cond (.tmp 47) .skip (.exit 0)
def Xn44_36 : C := .seq Xn44_37 Xn44_38
def Xn44_44 : C := regL [1, 4, 10, 11, 13, 14, 15] none [⟨some 50, .fa 1 (.tmp 4), none⟩, ⟨some 51, .ld 65 1 false (.tmp 50), none⟩, ⟨some 52, .mv (.tmp 14), none⟩, ⟨some 53, .ia 11 (.tmp 51) (.tmp 52), none⟩, ⟨some 54, .fa 7 (.tmp 53), none⟩, ⟨some 55, .ld 2 1 false (.tmp 54), none⟩, ⟨some 15, .mv (.tmp 55), none⟩]
def Xn44_47 : C := regL [1, 4, 10, 11, 13, 14, 15, 66] none [⟨some 56, .fa 2 (.tmp 4), none⟩, ⟨some 57, .ld 3 1 false (.tmp 56), none⟩, ⟨some 58, .fa 3 (.tmp 4), none⟩, ⟨some 59, .ld 3 1 false (.tmp 58), none⟩, ⟨some 60, .bin 3 .eql (.tmp 57) (.tmp 59), none⟩, ⟨some 61, .mv (.tmp 60), none⟩, ⟨some 62, .mv (.tmp 14), some (61, true)⟩, ⟨some 63, .fa 2 (.tmp 4), some (61, true)⟩, ⟨some 64, .ld 3 1 false (.tmp 63), some (61, true)⟩, ⟨some 65, .bin 3 .eql (.tmp 62) (.tmp 64), some (61, true)⟩, ⟨some 66, .pick 61 (.tmp 65) (.const (.bool false)), none⟩]
def Xn44_49 : C := regL [1, 4, 10, 11, 13, 14, 15] none [⟨some 67, .mv (.tmp 15), none⟩, ⟨some 68, .mv (.tmp 1), none⟩, ⟨some 69, .bin 2 .add (.tmp 67) (.tmp 68), none⟩, ⟨some 15, .mv (.tmp 69), none⟩]
def Xn44_51 : C := regL [1, 4, 10, 11, 13, 14, 15, 73] none [⟨some 70, .mv (.tmp 14), none⟩, ⟨some 71, .fa 2 (.tmp 4), none⟩, ⟨some 72, .ld 3 1 false (.tmp 71), none⟩, ⟨some 73, .bin 3 .eql (.tmp 70) (.tmp 72), none⟩]
def Xn44_53 : C := regL [1, 4, 10, 11, 13, 14, 15] none [⟨some 74, .mv (.tmp 15), none⟩, ⟨some 75, .mv (.tmp 10), none⟩, ⟨some 76, .bin 2 .add (.tmp 74) (.tmp 75), none⟩, ⟨some 15, .mv (.tmp 76), none⟩]
def Xn44_55 : C := regL [1, 4, 10, 11, 13, 14, 15, 80] none [⟨some 77, .mv (.tmp 14), none⟩, ⟨some 78, .fa 3 (.tmp 4), none⟩, ⟨some 79, .ld 3 1 false (.tmp 78), none⟩, ⟨some 80, .bin 3 .eql (.tmp 77) (.tmp 79), none⟩]
def Xn44_57 : C := regL [1, 4, 10, 11, 13, 14, 15] none [⟨some 81, .mv (.tmp 15), none⟩, ⟨some 82, .mv (.tmp 11), none⟩, ⟨some 83, .bin 2 .add (.tmp 81) (.tmp 82), none⟩, ⟨some 15, .mv (.tmp 83), none⟩]
def Xn44_56 : C := .cond (.tmp 80) Xn44_57 .skip
def Xn44_54 : C := .seq Xn44_55 Xn44_56
def Xn44_52 : C := .cond (.tmp 73) Xn44_53 Xn44_54
def Xn44_50 : C := .seq Xn44_51 Xn44_52
def Xn44_48 : C := .cond (.tmp 66) Xn44_49 Xn44_50
def Xn44_46 : C := .seq Xn44_47 Xn44_48
def Xn44_60 : C := regL [1, 4, 10, 11, 13, 14, 16] none [⟨some 84, .mv (.tmp 15), none⟩, ⟨some 85, .fa 1 (.tmp 4), none⟩, ⟨some 86, .ld 65 1 false (.tmp 85), none⟩, ⟨some 87, .mv (.tmp 14), none⟩, ⟨some 88, .ia 11 (.tmp 86) (.tmp 87), none⟩, ⟨some 89, .fa 10 (.tmp 88), none⟩, ⟨some 90, .ld 119 1 false (.tmp 89), none⟩, ⟨some 91, .len (.tmp 90), none⟩, ⟨some 92, .call 81 [.tmp 84, .const (.int .i64 1), .tmp 91], none⟩, ⟨some 16, .mv (.tmp 92), none⟩]
def Xn44_63 : C := regL [1, 4, 10, 11, 13, 14, 16, 17] none [⟨some 17, .mv (.const (.int .i64 0)), none⟩]
def Xn44_68 : C := regL [1, 4, 10, 11, 13, 14, 16, 17, 101] none [⟨some 93, .mv (.tmp 17), none⟩, ⟨some 94, .fa 1 (.tmp 4), none⟩, ⟨some 95, .ld 65 1 false (.tmp 94), none⟩, ⟨some 96, .mv (.tmp 14), none⟩, ⟨some 97, .ia 11 (.tmp 95) (.tmp 96), none⟩, ⟨some 98, .fa 10 (.tmp 97), none⟩, ⟨some 99, .ld 119 1 false (.tmp 98), none⟩, ⟨some 100, .len (.tmp 99), none⟩, ⟨some 101, .bin 3 .lss (.tmp 93) (.tmp 100), none⟩]
def Xn44_69 : C := .cond (.tmp 101) .skip (.exit 2)
def Xn44_67 : C := .seq Xn44_68 Xn44_69
def Xn44_75 : C := regL [1, 4, 10, 11, 13, 14, 16, 17, 115] none [⟨some 104, .mv (.tmp 16), none⟩, ⟨some 105, .fa 1 (.tmp 4), none⟩, ⟨some 106, .ld 65 1 false (.tmp 105), none⟩, ⟨some 107, .mv (.tmp 14), none⟩, ⟨some 108, .ia 11 (.tmp 106) (.tmp 107), none⟩, ⟨some 109, .fa 10 (.tmp 108), none⟩, ⟨some 110, .ld 119 1 false (.tmp 109), none⟩, ⟨some 111, .mv (.tmp 17), none⟩, ⟨some 112, .ia 3 (.tmp 110) (.tmp 111), none⟩, ⟨some 113, .fa 1 (.tmp 112), none⟩, ⟨some 114, .ld 2 1 false (.tmp 113), none⟩, ⟨some 115, .bin 2 .gtr (.tmp 104) (.tmp 114), none⟩]
def Xn44_78 : C := regL [8, 9] none [⟨some 8, .mv (.const (.slice none 0 0)), none⟩, ⟨some 9, .mv (.const (.int .i64 14)), none⟩]
def Xn44_77 : C := .seq Xn44_78 .ret
def Xn44_76 : C := .cond (.tmp 115) Xn44_77 .skip
def Xn44_74 : C := .seq Xn44_75 Xn44_76
def Xn44_73 : C := .block 3 Xn44_74
def Xn44_81 : C := regL [1, 4, 10, 11, 13, 14, 16, 17] none [⟨some 102, .mv (.tmp 17), none⟩, ⟨some 103, .bin 3 .add (.tmp 102) (.const (.int .i64 1)), none⟩, ⟨some 17, .mv (.tmp 103), none⟩]
def Xn44_72 : C := seqL [1, 4, 10, 11, 13, 14, 16, 17] Xn44_73 Xn44_81
def Xn44_66 : C := seqL [1, 4, 10, 11, 13, 14, 16, 17] Xn44_67 Xn44_72
/- carried: [17] -/
def Xn44_65 : C := loopL [1, 4, 10, 11, 13, 14, 16, 17] Xn44_66
def Xn44_64 : C := .block 2 Xn44_65
def Xn44_62 : C := .seq Xn44_63 Xn44_64
def Xn44_82 : C := regL [1, 4, 10, 11, 13, 14] none [⟨some 116, .mv (.tmp 13), none⟩, ⟨some 117, .mv (.tmp 16), none⟩, ⟨some 118, .bls 2 1 1 (.int .i64 0) [(0, 1, .tmp 117)], none⟩, ⟨some 119, .app 2 1 8 (.tmp 116) (.tmp 118), none⟩, ⟨some 13, .mv (.tmp 119), none⟩]
def Xn44_61 : C := seqL [1, 4, 10, 11, 13, 14, 16] Xn44_62 Xn44_82
def Xn44_59 : C := .seq Xn44_60 Xn44_61
def Xn44_45 : C := seqL [1, 4, 10, 11, 13, 14, 15] Xn44_46 Xn44_59
def Xn44_43 : C := .seq Xn44_44 Xn44_45
def Xn44_42 : C := .block 1 Xn44_43
def Xn44_83 : C := regL [1, 4, 10, 11, 13, 14] none [⟨some 48, .mv (.tmp 14), none⟩, ⟨some 49, .bin 3 .add (.tmp 48) (.const (.int .i64 1)), none⟩, ⟨some 14, .mv (.tmp 49), none⟩]
def Xn44_41 : C := seqL [1, 4, 10, 11, 13, 14] Xn44_42 Xn44_83
def Xn44_35 : C := seqL [1, 4, 10, 11, 13, 14] Xn44_36 Xn44_41
/- carried: [13, 14] -/
def Xn44_34 : C := loopL [1, 4, 10, 11, 13, 14] Xn44_35
def Xn44_33 : C := .block 0 Xn44_34
def Xn44_31 : C := .seq Xn44_32 Xn44_33
def Xn44_85 : C := regL [8, 9] none [⟨some 120, .mv (.tmp 13), none⟩, ⟨some 8, .mv (.tmp 120), none⟩, ⟨some 9, .mv (.const (.int .i64 0)), none⟩]
def Xn44_84 : C := .seq Xn44_85 .ret
def Xn44_30 : C := seqL [13] Xn44_31 Xn44_84
def Xn44_28 : C := .seq Xn44_29 Xn44_30
def Xn44_26 : C := .seq Xn44_27 Xn44_28
def Xn44_18 : C := seqL [1, 2, 3, 4] Xn44_19 Xn44_26
def Xn44_10 : C := seqL [1, 2, 3, 4] Xn44_11 Xn44_18
def Xn44_2 : C := seqL [1, 2, 3, 4] Xn44_3 Xn44_10
def Xn44_0 : C := .seq Xn44_1 Xn44_2
theorem Xt44 : Text Try.prog 44 Xn44_0 121 4 [.t 8, .t 9] := ⟨⟨Try.f44, [4], Try.func44, by kernel_rfl, by kernel_rfl, by kernel_rfl, by kernel_rfl⟩⟩
/- carried: [10] -/
/- carried: [5] -/
end Go.Proofs.Ytfkjdjlcaojedaa

/- Print of my own generator (wip/sy/gen2.lean). -/
namespace Go.Proofs.Ytfkjdjlcaojedaa
open Go Sy
set_option maxRecDepth 100000
/- carried: [6] -/
/- carried: [4, 5] -/
def Xn52_1 : C := regL [0] none [⟨some 2, .mv (.const (.bool false)), none⟩]
def Xn52_3 : C := regL [2] none [⟨some 3, .mv (.tmp 0), none⟩, ⟨some 4, .call 53 [.tmp 3, .const (.int .i64 (-16777216)), .const (.int .i64 16777216)], none⟩, ⟨some 2, .mv (.tmp 4), none⟩]
def Xn52_2 : C := .seq Xn52_3 .ret
def Xn52_0 : C := .seq Xn52_1 Xn52_2
theorem Xt52 : Text Try.prog 52 Xn52_0 5 1 [.t 2] := ⟨⟨Try.f52, [], Try.func52, by kernel_rfl, by kernel_rfl, by kernel_rfl, by kernel_rfl⟩⟩
def Xn53_1 : C := regL [0, 1, 2] none [⟨some 6, .mv (.const (.bool false)), none⟩]
def Xn53_3 : C := regL [6] none [⟨some 7, .mv (.tmp 0), none⟩, ⟨some 8, .mv (.tmp 1), none⟩, ⟨some 9, .bin 2 .geq (.tmp 7) (.tmp 8), none⟩, ⟨some 10, .mv (.tmp 9), none⟩, ⟨some 11, .mv (.tmp 0), some (10, true)⟩, ⟨some 12, .mv (.tmp 2), some (10, true)⟩, ⟨some 13, .bin 2 .leq (.tmp 11) (.tmp 12), some (10, true)⟩, ⟨some 14, .pick 10 (.tmp 13) (.const (.bool false)), none⟩, ⟨some 6, .mv (.tmp 14), none⟩]
def Xn53_2 : C := .seq Xn53_3 .ret
def Xn53_0 : C := .seq Xn53_1 Xn53_2
theorem Xt53 : Text Try.prog 53 Xn53_0 15 3 [.t 6] := ⟨⟨Try.f53, [], Try.func53, by kernel_rfl, by kernel_rfl, by kernel_rfl, by kernel_rfl⟩⟩
def Xn54_1 : C := regL [0] none [⟨some 2, .mv (.const (.bool false)), none⟩]
def Xn54_3 : C := regL [2] none [⟨some 3, .mv (.tmp 0), none⟩, ⟨some 4, .call 53 [.tmp 3, .const (.int .i64 1), .const (.int .i64 16777216)], none⟩, ⟨some 2, .mv (.tmp 4), none⟩]
def Xn54_2 : C := .seq Xn54_3 .ret
def Xn54_0 : C := .seq Xn54_1 Xn54_2
theorem Xt54 : Text Try.prog 54 Xn54_0 5 1 [.t 2] := ⟨⟨Try.f54, [], Try.func54, by kernel_rfl, by kernel_rfl, by kernel_rfl, by kernel_rfl⟩⟩
def Xn55_1 : C := regL [1] none [⟨some 1, .box true 89 (.tmp 0), none⟩, ⟨some 2, .mv (.const (.int .i64 0)), none⟩]
def Xn55_3 : C := regL [2] none [⟨some 3, .fa 0 (.tmp 1), none⟩, ⟨some 4, .ld 2 1 false (.tmp 3), none⟩, ⟨some 5, .un .neg (.tmp 4), none⟩, ⟨some 6, .fa 1 (.tmp 1), none⟩, ⟨some 7, .ld 2 1 false (.tmp 6), none⟩, ⟨some 8, .fa 2 (.tmp 1), none⟩, ⟨some 9, .ld 2 1 false (.tmp 8), none⟩, ⟨some 10, .bld (.agg #[.int .i64 0, .int .i64 0, .int .i64 0]) [(0, 1, .tmp 5), (1, 1, .tmp 7), (2, 1, .tmp 9)], none⟩, ⟨some 11, .call 94 [.tmp 10], none⟩, ⟨some 12, .un .neg (.tmp 11), none⟩, ⟨some 2, .mv (.tmp 12), none⟩]
def Xn55_2 : C := .seq Xn55_3 .ret
def Xn55_0 : C := .seq Xn55_1 Xn55_2
theorem Xt55 : Text Try.prog 55 Xn55_0 13 1 [.t 2] := ⟨⟨Try.f55, [1], Try.func55, by kernel_rfl, by kernel_rfl, by kernel_rfl, by kernel_rfl⟩⟩
def Xn56_1 : C := regL [0] none [⟨some 2, .mv (.const (.pointer none)), none⟩, ⟨some 3, .mv (.const (.int .i64 0)), none⟩]
def Xn56_4 : C := regL [0, 17] none [⟨some 10, .mv (.tmp 0), none⟩, ⟨some 11, .len (.tmp 10), none⟩, ⟨some 12, .bin 3 .lss (.tmp 11) (.const (.int .i64 3)), none⟩, ⟨some 13, .mv (.tmp 12), none⟩, ⟨some 14, .mv (.tmp 0), some (13, false)⟩, ⟨some 15, .len (.tmp 14), some (13, false)⟩, ⟨some 16, .bin 3 .gtr (.tmp 15) (.const (.int .i64 48)), some (13, false)⟩, ⟨some 17, .pick 13 (.const (.bool true)) (.tmp 16), none⟩]
def Xn56_7 : C := regL [2, 3] none [⟨some 2, .mv (.const (.pointer none)), none⟩, ⟨some 3, .mv (.const (.int .i64 6)), none⟩]
def Xn56_6 : C := .seq Xn56_7 .ret
def Xn56_5 : C := .cond (.tmp 17) Xn56_6 .skip
def Xn56_3 : C := .seq Xn56_4 Xn56_5
def Xn56_11 : C := regL [0, 4] none [⟨some 18, .mv (.tmp 0), none⟩, ⟨some 19, .bld (.agg #[.slice none 0 0, .int .i64 0, .int .i64 0, .int .i64 0, .int .i64 0, .int .i64 0, .int .i64 0, .int .i64 0, .int .i64 0, .int .i64 0, .int .i64 0]) [(0, 1, .tmp 18)], none⟩, ⟨some 20, .box false 96 (.tmp 19), none⟩, ⟨some 4, .mv (.tmp 20), none⟩]
def Xn56_14 : C := regL [4, 21, 22, 23] none [⟨some 21, .mv (.tmp 0), none⟩, ⟨some 22, .len (.tmp 21), none⟩, ⟨some 23, .mv (.const (.int .i64 0)), none⟩]
def Xn56_18 : C := regL [4, 21, 22, 23, 24] none [⟨some 24, .bin 3 .lss (.tmp 23) (.tmp 22), none⟩]
def Xn56_20 : C := .cond (.tmp 24) .skip (.exit 0)
def Xn56_26 : C := regL [4, 6, 21, 22, 23] none [⟨some 25, .ia 6 (.tmp 21) (.tmp 23), none⟩, ⟨some 26, .ld 62 6 true (.tmp 25), none⟩, ⟨some 6, .alc 62 (.agg #[.int .i64 0, .int .i64 0, .int .i64 0, .int .i64 0, .int .i64 0, .int .i64 0]), none⟩, ⟨none, .st 62 6 (.tmp 6) (.tmp 26), none⟩]
def Xn56_28 : C := regL [4, 6, 7, 21, 22, 23] none [⟨some 27, .fa 0 (.tmp 6), none⟩, ⟨some 28, .ld 2 1 false (.tmp 27), none⟩, ⟨some 29, .call 53 [.tmp 28, .const (.int .i64 (-131072)), .const (.int .i64 131072)], none⟩, ⟨some 30, .mv (.tmp 29), none⟩, ⟨some 31, .fa 1 (.tmp 6), some (30, true)⟩, ⟨some 32, .ld 2 1 false (.tmp 31), some (30, true)⟩, ⟨some 33, .call 53 [.tmp 32, .const (.int .i64 (-131072)), .const (.int .i64 131072)], some (30, true)⟩, ⟨some 34, .pick 30 (.tmp 33) (.const (.bool false)), none⟩, ⟨some 35, .mv (.tmp 34), none⟩, ⟨some 36, .fa 2 (.tmp 6), some (35, true)⟩, ⟨some 37, .ld 3 1 false (.tmp 36), some (35, true)⟩, ⟨some 38, .bin 3 .geq (.tmp 37) (.const (.int .i64 0)), some (35, true)⟩, ⟨some 39, .pick 35 (.tmp 38) (.const (.bool false)), none⟩, ⟨some 40, .mv (.tmp 39), none⟩, ⟨some 41, .fa 2 (.tmp 6), some (40, true)⟩, ⟨some 42, .ld 3 1 false (.tmp 41), some (40, true)⟩, ⟨some 43, .bin 3 .leq (.tmp 42) (.const (.int .i64 2)), some (40, true)⟩, ⟨some 44, .pick 40 (.tmp 43) (.const (.bool false)), none⟩, ⟨some 7, .mv (.tmp 44), none⟩]
def Xn56_31 : C := regL [4, 6, 21, 22, 23, 69] none [⟨some 45, .mv (.tmp 7), none⟩, ⟨some 46, .un .not (.tmp 45), none⟩, ⟨some 47, .mv (.tmp 46), none⟩, ⟨some 48, .fa 3 (.tmp 6), some (47, false)⟩, ⟨some 49, .ld 2 1 false (.tmp 48), some (47, false)⟩, ⟨some 50, .call 53 [.tmp 49, .const (.int .i64 1), .const (.int .i64 1048576)], some (47, false)⟩, ⟨some 51, .un .not (.tmp 50), some (47, false)⟩, ⟨some 52, .pick 47 (.const (.bool true)) (.tmp 51), none⟩, ⟨some 53, .mv (.tmp 52), none⟩, ⟨some 54, .fa 4 (.tmp 6), some (53, false)⟩, ⟨some 55, .ld 2 1 false (.tmp 54), some (53, false)⟩, ⟨some 56, .bin 2 .lss (.tmp 55) (.const (.int .i64 0)), some (53, false)⟩, ⟨some 57, .pick 53 (.const (.bool true)) (.tmp 56), none⟩, ⟨some 58, .mv (.tmp 57), none⟩, ⟨some 59, .fa 4 (.tmp 6), some (58, false)⟩, ⟨some 60, .ld 2 1 false (.tmp 59), some (58, false)⟩, ⟨some 61, .fa 5 (.tmp 6), some (58, false)⟩, ⟨some 62, .ld 2 1 false (.tmp 61), some (58, false)⟩, ⟨some 63, .bin 2 .gtr (.tmp 60) (.tmp 62), some (58, false)⟩, ⟨some 64, .pick 58 (.const (.bool true)) (.tmp 63), none⟩, ⟨some 65, .mv (.tmp 64), none⟩, ⟨some 66, .fa 5 (.tmp 6), some (65, false)⟩, ⟨some 67, .ld 2 1 false (.tmp 66), some (65, false)⟩, ⟨some 68, .bin 2 .gtr (.tmp 67) (.const (.int .i64 4096)), some (65, false)⟩, ⟨some 69, .pick 65 (.const (.bool true)) (.tmp 68), none⟩]
def Xn56_34 : C := regL [2, 3] none [⟨some 2, .mv (.const (.pointer none)), none⟩, ⟨some 3, .mv (.const (.int .i64 2)), none⟩]
def Xn56_33 : C := .seq Xn56_34 .ret
def Xn56_32 : C := .cond (.tmp 69) Xn56_33 .skip
def Xn56_30 : C := .seq Xn56_31 Xn56_32
def Xn56_38 : C := regL [4, 6, 21, 22, 23, 74, 75] none [⟨some 70, .fa 0 (.tmp 6), none⟩, ⟨some 71, .ld 2 1 false (.tmp 70), none⟩, ⟨some 72, .fa 1 (.tmp 6), none⟩, ⟨some 73, .ld 2 1 false (.tmp 72), none⟩, ⟨some 74, .bld (.agg #[.int .i64 0, .int .i64 0, .int .i64 0]) [(0, 1, .const (.int .i64 1)), (1, 1, .tmp 71), (2, 1, .tmp 73)], none⟩, ⟨some 75, .mv (.const (.int .i64 0)), none⟩]
def Xn56_42 : C := regL [4, 6, 21, 22, 23, 74, 75, 76] none [⟨some 76, .bin 3 .lss (.tmp 75) (.const (.int .i64 3)), none⟩]
def Xn56_44 : C := .cond (.tmp 76) .skip (.exit 2)
def Xn56_50 : C := regL [4, 6, 8, 9, 21, 22, 23, 74, 75] none [⟨some 77, .mv (.tmp 75), none⟩, ⟨some 78, .idx 3 1 false (.tmp 74) (.tmp 75), none⟩, ⟨some 8, .mv (.tmp 77), none⟩, ⟨some 9, .mv (.tmp 78), none⟩]
def Xn56_51 : C := regL [4, 6, 21, 22, 23, 74, 75] (some [0, 0, 2, 0, 1, 17, 55, 127, 255, 0, 1023, 1, 2049, 6151, 16383, 32767]) [⟨some 79, .mv (.tmp 4), none⟩, ⟨some 80, .fa 2 (.tmp 6), none⟩, ⟨some 81, .ld 3 1 false (.tmp 80), none⟩, ⟨some 82, .mv (.tmp 8), none⟩, ⟨some 83, .nilc (.tmp 79), none⟩, ⟨some 84, .fa 1 (.tmp 83), none⟩, ⟨some 85, .iaa 3 3 (.tmp 84) (.tmp 81), none⟩, ⟨some 86, .iaa 3 1 (.tmp 85) (.tmp 82), none⟩, ⟨some 87, .ld 2 1 false (.tmp 86), none⟩, ⟨some 88, .mv (.tmp 9), none⟩, ⟨some 89, .bin 2 .add (.tmp 87) (.tmp 88), none⟩, ⟨some 90, .nilc (.tmp 79), none⟩, ⟨some 91, .fa 1 (.tmp 90), none⟩, ⟨some 92, .iaa 3 3 (.tmp 91) (.tmp 81), none⟩, ⟨some 93, .iaa 3 1 (.tmp 92) (.tmp 82), none⟩, ⟨none, .st 2 1 (.tmp 93) (.tmp 89), none⟩]
def Xn56_49 : C := .seq Xn56_50 Xn56_51
def Xn56_48 : C := .block 3 Xn56_49
def Xn56_52 : C := regL [4, 6, 21, 22, 23, 74, 75] none [⟨some 94, .bin 3 .add (.tmp 75) (.const (.int .i64 1)), none⟩, ⟨some 75, .mv (.tmp 94), none⟩]
def Xn56_47 : C := seqL [4, 6, 21, 22, 23, 74, 75] Xn56_48 Xn56_52
def Xn56_43 : C := seqL [4, 6, 21, 22, 23, 74, 75] Xn56_44 Xn56_47
def Xn56_41 : C := .seq Xn56_42 Xn56_43
/- carried: [75] -/
def Xn56_40 : C := loopL [4, 6, 21, 22, 23, 74, 75] Xn56_41
def Xn56_39 : C := .block 2 Xn56_40
def Xn56_37 : C := .seq Xn56_38 Xn56_39
def Xn56_29 : C := seqL [4, 6, 21, 22, 23] Xn56_30 Xn56_37
def Xn56_27 : C := .seq Xn56_28 Xn56_29
def Xn56_25 : C := .seq Xn56_26 Xn56_27
def Xn56_24 : C := .block 1 Xn56_25
def Xn56_53 : C := regL [4, 21, 22, 23] none [⟨some 95, .bin 3 .add (.tmp 23) (.const (.int .i64 1)), none⟩, ⟨some 23, .mv (.tmp 95), none⟩]
def Xn56_23 : C := seqL [4, 21, 22, 23] Xn56_24 Xn56_53
def Xn56_19 : C := seqL [4, 21, 22, 23] Xn56_20 Xn56_23
def Xn56_17 : C := .seq Xn56_18 Xn56_19
/- carried: [23] -/
def Xn56_16 : C := loopL [4, 21, 22, 23] Xn56_17
def Xn56_15 : C := .block 0 Xn56_16
def Xn56_13 : C := .seq Xn56_14 Xn56_15
def Xn56_56 : C := regL [4] none [⟨some 96, .mv (.tmp 4), none⟩, ⟨some 97, .mv (.tmp 4), none⟩, ⟨some 98, .nilc (.tmp 97), none⟩, ⟨some 99, .fa 1 (.tmp 98), none⟩, ⟨some 100, .ld 94 9 true (.tmp 99), none⟩, ⟨some 101, .call 95 [.tmp 100], none⟩, ⟨some 102, .nilc (.tmp 96), none⟩, ⟨some 103, .fa 10 (.tmp 102), none⟩, ⟨none, .st 2 1 (.tmp 103) (.tmp 101), none⟩]
def Xn56_58 : C := regL [4, 108] none [⟨some 104, .mv (.tmp 4), none⟩, ⟨some 105, .nilc (.tmp 104), none⟩, ⟨some 106, .fa 10 (.tmp 105), none⟩, ⟨some 107, .ld 2 1 false (.tmp 106), none⟩, ⟨some 108, .bin 2 .eql (.tmp 107) (.const (.int .i64 0)), none⟩]
def Xn56_61 : C := regL [2, 3] none [⟨some 2, .mv (.const (.pointer none)), none⟩, ⟨some 3, .mv (.const (.int .i64 9)), none⟩]
def Xn56_60 : C := .seq Xn56_61 .ret
def Xn56_59 : C := .cond (.tmp 108) Xn56_60 .skip
def Xn56_57 : C := .seq Xn56_58 Xn56_59
def Xn56_55 : C := .seq Xn56_56 Xn56_57
def Xn56_65 : C := regL [2, 3] none [⟨some 109, .mv (.tmp 4), none⟩, ⟨some 2, .mv (.tmp 109), none⟩, ⟨some 3, .mv (.const (.int .i64 0)), none⟩]
def Xn56_64 : C := .seq Xn56_65 .ret
def Xn56_54 : C := seqL [4] Xn56_55 Xn56_64
def Xn56_12 : C := seqL [4] Xn56_13 Xn56_54
def Xn56_10 : C := .seq Xn56_11 Xn56_12
def Xn56_2 : C := seqL [0] Xn56_3 Xn56_10
def Xn56_0 : C := .seq Xn56_1 Xn56_2
theorem Xt56 : Text Try.prog 56 Xn56_0 110 1 [.t 2, .t 3] := ⟨⟨Try.f56, [], Try.func56, by kernel_rfl, by kernel_rfl, by kernel_rfl, by kernel_rfl⟩⟩
def Xn57_1 : C := regL [1] none [⟨some 1, .box true 29 (.tmp 0), none⟩, ⟨some 2, .mv (.const (.bool false)), none⟩]
def Xn57_3 : C := regL [2] none [⟨some 3, .fa 0 (.tmp 1), none⟩, ⟨some 4, .ld 2 1 false (.tmp 3), none⟩, ⟨some 5, .call 53 [.tmp 4, .const (.int .i64 (-262144)), .const (.int .i64 262144)], none⟩, ⟨some 6, .mv (.tmp 5), none⟩, ⟨some 7, .fa 1 (.tmp 1), some (6, true)⟩, ⟨some 8, .ld 2 1 false (.tmp 7), some (6, true)⟩, ⟨some 9, .call 53 [.tmp 8, .const (.int .i64 (-262144)), .const (.int .i64 262144)], some (6, true)⟩, ⟨some 10, .pick 6 (.tmp 9) (.const (.bool false)), none⟩, ⟨some 2, .mv (.tmp 10), none⟩]
def Xn57_2 : C := .seq Xn57_3 .ret
def Xn57_0 : C := .seq Xn57_1 Xn57_2
theorem Xt57 : Text Try.prog 57 Xn57_0 11 1 [.t 2] := ⟨⟨Try.f57, [1], Try.func57, by kernel_rfl, by kernel_rfl, by kernel_rfl, by kernel_rfl⟩⟩
def Xn58_1 : C := regL [0, 3] none [⟨some 3, .box true 29 (.tmp 1), none⟩, ⟨some 4, .mv (.const (.int .i64 0)), none⟩]
def Xn58_3 : C := regL [5] none [⟨some 8, .mv (.tmp 0), none⟩, ⟨some 9, .ld 29 2 true (.tmp 3), none⟩, ⟨some 10, .call 60 [.tmp 8, .tmp 9], none⟩, ⟨some 7, .mv (.tmp 10), none⟩, ⟨some 11, .ext 0 (.tmp 7), none⟩, ⟨some 12, .ext 1 (.tmp 7), none⟩, ⟨some 5, .alc 30 (.agg #[.int .i64 0, .int .i64 0, .int .i64 0]), none⟩, ⟨none, .st 30 3 (.tmp 5) (.tmp 11), none⟩, ⟨some 6, .mv (.tmp 12), none⟩]
def Xn58_5 : C := regL [4] none [⟨some 13, .sla 30 3 1 (.tmp 5), none⟩, ⟨some 14, .call 96 [.tmp 13, .func 97], none⟩, ⟨some 4, .mv (.tmp 14), none⟩]
def Xn58_4 : C := .seq Xn58_5 .ret
def Xn58_2 : C := .seq Xn58_3 Xn58_4
def Xn58_0 : C := .seq Xn58_1 Xn58_2
theorem Xt58 : Text Try.prog 58 Xn58_0 15 2 [.t 4] := ⟨⟨Try.f58, [3], Try.func58, by kernel_rfl, by kernel_rfl, by kernel_rfl, by kernel_rfl⟩⟩
def Xn59_1 : C := regL [0, 1, 5, 6] none [⟨some 5, .box true 29 (.tmp 2), none⟩, ⟨some 6, .alc 30 (.agg #[.int .i64 0, .int .i64 0, .int .i64 0]), none⟩, ⟨some 7, .mv (.const (.int .i64 0)), none⟩]
def Xn59_4 : C := regL [0, 1, 5, 6, 21] none [⟨some 14, .mv (.tmp 1), none⟩, ⟨some 15, .call 54 [.tmp 14], none⟩, ⟨some 16, .un .not (.tmp 15), none⟩, ⟨some 17, .mv (.tmp 16), none⟩, ⟨some 18, .ld 29 2 true (.tmp 5), some (17, false)⟩, ⟨some 19, .call 57 [.tmp 18], some (17, false)⟩, ⟨some 20, .un .not (.tmp 19), some (17, false)⟩, ⟨some 21, .pick 17 (.const (.bool true)) (.tmp 20), none⟩]
def Xn59_7 : C := regL [6, 7] none [⟨some 22, .ld 30 3 true (.tmp 6), none⟩, ⟨none, .st 30 3 (.tmp 6) (.tmp 22), none⟩, ⟨some 7, .mv (.const (.int .i64 3)), none⟩]
def Xn59_6 : C := .seq Xn59_7 .ret
def Xn59_5 : C := .cond (.tmp 21) Xn59_6 .skip
def Xn59_3 : C := .seq Xn59_4 Xn59_5
def Xn59_12 : C := regL [0, 1, 5, 6, 26] none [⟨some 23, .mv (.tmp 0), none⟩, ⟨some 24, .ld 29 2 true (.tmp 5), none⟩, ⟨some 25, .call 58 [.tmp 23, .tmp 24], none⟩, ⟨some 26, .bin 3 .geq (.tmp 25) (.const (.int .i64 0)), none⟩]
def Xn59_15 : C := regL [6, 7] none [⟨some 27, .ld 30 3 true (.tmp 6), none⟩, ⟨none, .st 30 3 (.tmp 6) (.tmp 27), none⟩, ⟨some 7, .mv (.const (.int .i64 19)), none⟩]
def Xn59_14 : C := .seq Xn59_15 .ret
def Xn59_13 : C := .cond (.tmp 26) Xn59_14 .skip
def Xn59_11 : C := .seq Xn59_12 Xn59_13
def Xn59_19 : C := regL [0, 1, 6, 8, 9] none [⟨some 29, .mv (.tmp 0), none⟩, ⟨some 30, .ld 29 2 true (.tmp 5), none⟩, ⟨some 31, .call 60 [.tmp 29, .tmp 30], none⟩, ⟨some 28, .mv (.tmp 31), none⟩, ⟨some 32, .ext 0 (.tmp 28), none⟩, ⟨some 33, .ext 1 (.tmp 28), none⟩, ⟨some 8, .alc 30 (.agg #[.int .i64 0, .int .i64 0, .int .i64 0]), none⟩, ⟨none, .st 30 3 (.tmp 8) (.tmp 32), none⟩, ⟨some 9, .mv (.tmp 33), none⟩]
def Xn59_22 : C := regL [0, 1, 6, 8, 9, 34] none [⟨some 34, .mv (.const (.int .i64 0)), none⟩]
def Xn59_26 : C := regL [0, 1, 6, 8, 9, 34, 35] none [⟨some 35, .bin 3 .lss (.tmp 34) (.const (.int .i64 3)), none⟩]
def Xn59_28 : C := .cond (.tmp 35) .skip (.exit 0)
def Xn59_34 : C := regL [0, 1, 6, 8, 9, 10, 34] none [⟨some 36, .mv (.tmp 34), none⟩, ⟨some 10, .mv (.tmp 36), none⟩]
def Xn59_36 : C := regL [0, 1, 6, 8, 9, 10, 11, 34] none [⟨some 37, .mv (.tmp 1), none⟩, ⟨some 38, .mv (.tmp 10), none⟩, ⟨some 39, .iaa 3 1 (.tmp 8) (.tmp 38), none⟩, ⟨some 40, .ld 2 1 false (.tmp 39), none⟩, ⟨some 41, .mv (.tmp 9), none⟩, ⟨some 42, .bld (.agg #[.int .i64 0, .int .i64 0, .int .i64 0]) [(0, 1, .tmp 37), (1, 1, .tmp 40), (2, 1, .tmp 41)], none⟩, ⟨some 43, .mkf 55 [.tmp 42] [], none⟩, ⟨some 11, .mv (.tmp 43), none⟩]
def Xn59_37 : C := regL [0, 1, 6, 8, 9, 34] none [⟨some 44, .mv (.tmp 10), none⟩, ⟨some 45, .mv (.tmp 11), none⟩, ⟨some 46, .callv (.tmp 45) [], none⟩, ⟨some 47, .iaa 3 1 (.tmp 6) (.tmp 44), none⟩, ⟨none, .st 2 1 (.tmp 47) (.tmp 46), none⟩]
def Xn59_35 : C := .seq Xn59_36 Xn59_37
def Xn59_33 : C := .seq Xn59_34 Xn59_35
def Xn59_32 : C := .block 1 Xn59_33
def Xn59_38 : C := regL [0, 1, 6, 8, 9, 34] none [⟨some 48, .bin 3 .add (.tmp 34) (.const (.int .i64 1)), none⟩, ⟨some 34, .mv (.tmp 48), none⟩]
def Xn59_31 : C := seqL [0, 1, 6, 8, 9, 34] Xn59_32 Xn59_38
def Xn59_27 : C := seqL [0, 1, 6, 8, 9, 34] Xn59_28 Xn59_31
def Xn59_25 : C := .seq Xn59_26 Xn59_27
/- carried: [34] -/
def Xn59_24 : C := loopL [0, 1, 6, 8, 9, 34] Xn59_25
def Xn59_23 : C := .block 0 Xn59_24
def Xn59_21 : C := .seq Xn59_22 Xn59_23
def Xn59_41 : C := regL [6, 52, 53, 54] none [⟨some 49, .mv (.tmp 0), none⟩, ⟨some 50, .nilc (.tmp 49), none⟩, ⟨some 51, .fa 0 (.tmp 50), none⟩, ⟨some 52, .ld 27 1 false (.tmp 51), none⟩, ⟨some 53, .len (.tmp 52), none⟩, ⟨some 54, .mv (.const (.int .i64 0)), none⟩]
def Xn59_45 : C := regL [6, 52, 53, 54, 55] none [⟨some 55, .bin 3 .lss (.tmp 54) (.tmp 53), none⟩]
def Xn59_47 : C := .cond (.tmp 55) .skip (.exit 2)
def Xn59_53 : C := regL [6, 13, 52, 53, 54] none [⟨some 56, .ia 6 (.tmp 52) (.tmp 54), none⟩, ⟨some 57, .ld 62 6 true (.tmp 56), none⟩, ⟨some 13, .alc 62 (.agg #[.int .i64 0, .int .i64 0, .int .i64 0, .int .i64 0, .int .i64 0, .int .i64 0]), none⟩, ⟨none, .st 62 6 (.tmp 13) (.tmp 57), none⟩]
def Xn59_55 : C := regL [6, 52, 53, 54, 64] (some [0, 1, 3, 7, 0, 16, 63]) [⟨some 58, .fa 2 (.tmp 13), none⟩, ⟨some 59, .ld 3 1 false (.tmp 58), none⟩, ⟨some 60, .iaa 3 1 (.tmp 6) (.tmp 59), none⟩, ⟨some 61, .ld 2 1 false (.tmp 60), none⟩, ⟨some 62, .fa 3 (.tmp 13), none⟩, ⟨some 63, .ld 2 1 false (.tmp 62), none⟩, ⟨some 64, .bin 2 .gtr (.tmp 61) (.tmp 63), none⟩]
def Xn59_58 : C := regL [6, 7] none [⟨some 65, .bld (.agg #[.int .i64 0, .int .i64 0, .int .i64 0]) [], none⟩, ⟨none, .st 30 3 (.tmp 6) (.tmp 65), none⟩, ⟨some 7, .mv (.const (.int .i64 14)), none⟩]
def Xn59_57 : C := .seq Xn59_58 .ret
def Xn59_56 : C := .cond (.tmp 64) Xn59_57 .skip
def Xn59_54 : C := .seq Xn59_55 Xn59_56
def Xn59_52 : C := .seq Xn59_53 Xn59_54
def Xn59_51 : C := .block 3 Xn59_52
def Xn59_61 : C := regL [6, 52, 53, 54] none [⟨some 66, .bin 3 .add (.tmp 54) (.const (.int .i64 1)), none⟩, ⟨some 54, .mv (.tmp 66), none⟩]
def Xn59_50 : C := seqL [6, 52, 53, 54] Xn59_51 Xn59_61
def Xn59_46 : C := seqL [6, 52, 53, 54] Xn59_47 Xn59_50
def Xn59_44 : C := .seq Xn59_45 Xn59_46
/- carried: [54] -/
def Xn59_43 : C := loopL [6, 52, 53, 54] Xn59_44
def Xn59_42 : C := .block 2 Xn59_43
def Xn59_40 : C := .seq Xn59_41 Xn59_42
def Xn59_63 : C := regL [6, 7] none [⟨some 67, .ld 30 3 true (.tmp 6), none⟩, ⟨none, .st 30 3 (.tmp 6) (.tmp 67), none⟩, ⟨some 7, .mv (.const (.int .i64 0)), none⟩]
def Xn59_62 : C := .seq Xn59_63 .ret
def Xn59_39 : C := seqL [6] Xn59_40 Xn59_62
def Xn59_20 : C := seqL [0, 6] Xn59_21 Xn59_39
def Xn59_18 : C := .seq Xn59_19 Xn59_20
def Xn59_10 : C := seqL [0, 1, 5, 6] Xn59_11 Xn59_18
def Xn59_2 : C := seqL [0, 1, 5, 6] Xn59_3 Xn59_10
def Xn59_0 : C := .seq Xn59_1 Xn59_2
theorem Xt59 : Text Try.prog 59 Xn59_0 68 3 [.c 6 3 true, .t 7] := ⟨⟨Try.f59, [5], Try.func59, by kernel_rfl, by kernel_rfl, by kernel_rfl, by kernel_rfl⟩⟩
def Xn60_1 : C := regL [0, 3, 4] none [⟨some 3, .box true 29 (.tmp 1), none⟩, ⟨some 4, .alc 30 (.agg #[.int .i64 0, .int .i64 0, .int .i64 0]), none⟩, ⟨some 5, .mv (.const (.int .i64 0)), none⟩]
def Xn60_3 : C := regL [0, 3, 4, 6] none [⟨some 6, .mv (.const (.int .i64 1)), none⟩]
def Xn60_6 : C := regL [0, 3, 4, 6, 13] none [⟨some 9, .mv (.tmp 0), none⟩, ⟨some 10, .nilc (.tmp 9), none⟩, ⟨some 11, .fa 10 (.tmp 10), none⟩, ⟨some 12, .ld 2 1 false (.tmp 11), none⟩, ⟨some 13, .bin 2 .lss (.tmp 12) (.const (.int .i64 0)), none⟩]
def Xn60_8 : C := regL [0, 3, 4, 6] none [⟨some 6, .mv (.const (.int .i64 (-1))), none⟩]
def Xn60_7 : C := .cond (.tmp 13) Xn60_8 .skip
def Xn60_5 : C := .seq Xn60_6 Xn60_7
def Xn60_12 : C := regL [0, 3, 4, 6, 14] none [⟨some 14, .mv (.const (.int .i64 0)), none⟩]
def Xn60_16 : C := regL [0, 3, 4, 6, 14, 15] none [⟨some 15, .bin 3 .lss (.tmp 14) (.const (.int .i64 3)), none⟩]
def Xn60_18 : C := .cond (.tmp 15) .skip (.exit 0)
def Xn60_24 : C := regL [0, 3, 4, 6, 7, 14] none [⟨some 16, .mv (.tmp 14), none⟩, ⟨some 7, .mv (.tmp 16), none⟩]
def Xn60_26 : C := regL [0, 3, 4, 6, 7, 8, 14] none [⟨some 17, .mv (.tmp 0), none⟩, ⟨some 18, .nilc (.tmp 17), none⟩, ⟨some 19, .fa 1 (.tmp 18), none⟩, ⟨some 20, .ld 94 9 true (.tmp 19), none⟩, ⟨some 8, .alc 94 (.agg #[.int .i64 0, .int .i64 0, .int .i64 0, .int .i64 0, .int .i64 0, .int .i64 0, .int .i64 0, .int .i64 0, .int .i64 0]), none⟩, ⟨none, .st 94 9 (.tmp 8) (.tmp 20), none⟩]
def Xn60_28 : C := regL [0, 3, 4, 6, 7, 8, 14] none [⟨some 21, .mv (.tmp 7), none⟩, ⟨some 22, .fa 0 (.tmp 3), none⟩, ⟨some 23, .ld 2 1 false (.tmp 22), none⟩, ⟨some 24, .fa 1 (.tmp 3), none⟩, ⟨some 25, .ld 2 1 false (.tmp 24), none⟩, ⟨some 26, .bld (.agg #[.int .i64 0, .int .i64 0, .int .i64 0]) [(0, 1, .const (.int .i64 1)), (1, 1, .tmp 23), (2, 1, .tmp 25)], none⟩, ⟨some 27, .iaa 3 3 (.tmp 8) (.tmp 21), none⟩, ⟨none, .st 30 3 (.tmp 27) (.tmp 26), none⟩]
def Xn60_29 : C := regL [0, 3, 4, 6, 14] none [⟨some 28, .mv (.tmp 7), none⟩, ⟨some 29, .mv (.tmp 6), none⟩, ⟨some 30, .ld 94 9 true (.tmp 8), none⟩, ⟨some 31, .call 95 [.tmp 30], none⟩, ⟨some 32, .bin 2 .mul (.tmp 29) (.tmp 31), none⟩, ⟨some 33, .iaa 3 1 (.tmp 4) (.tmp 28), none⟩, ⟨none, .st 2 1 (.tmp 33) (.tmp 32), none⟩]
def Xn60_27 : C := .seq Xn60_28 Xn60_29
def Xn60_25 : C := .seq Xn60_26 Xn60_27
def Xn60_23 : C := .seq Xn60_24 Xn60_25
def Xn60_22 : C := .block 1 Xn60_23
def Xn60_30 : C := regL [0, 3, 4, 6, 14] none [⟨some 34, .bin 3 .add (.tmp 14) (.const (.int .i64 1)), none⟩, ⟨some 14, .mv (.tmp 34), none⟩]
def Xn60_21 : C := seqL [0, 3, 4, 6, 14] Xn60_22 Xn60_30
def Xn60_17 : C := seqL [0, 3, 4, 6, 14] Xn60_18 Xn60_21
def Xn60_15 : C := .seq Xn60_16 Xn60_17
/- carried: [14] -/
def Xn60_14 : C := loopL [0, 3, 4, 6, 14] Xn60_15
def Xn60_13 : C := .block 0 Xn60_14
def Xn60_11 : C := .seq Xn60_12 Xn60_13
def Xn60_32 : C := regL [4, 5] (some [0, 0, 0, 4, 12, 28, 62, 1, 255]) [⟨some 35, .ld 30 3 true (.tmp 4), none⟩, ⟨some 36, .mv (.tmp 6), none⟩, ⟨some 37, .mv (.tmp 0), none⟩, ⟨some 38, .nilc (.tmp 37), none⟩, ⟨some 39, .fa 10 (.tmp 38), none⟩, ⟨some 40, .ld 2 1 false (.tmp 39), none⟩, ⟨some 41, .bin 2 .mul (.tmp 36) (.tmp 40), none⟩, ⟨none, .st 30 3 (.tmp 4) (.tmp 35), none⟩, ⟨some 5, .mv (.tmp 41), none⟩]
def Xn60_31 : C := .seq Xn60_32 .ret
def Xn60_10 : C := seqL [0, 4, 6] Xn60_11 Xn60_31
def Xn60_4 : C := seqL [0, 3, 4, 6] Xn60_5 Xn60_10
def Xn60_2 : C := .seq Xn60_3 Xn60_4
def Xn60_0 : C := .seq Xn60_1 Xn60_2
theorem Xt60 : Text Try.prog 60 Xn60_0 42 2 [.c 4 3 true, .t 5] := ⟨⟨Try.f60, [3], Try.func60, by kernel_rfl, by kernel_rfl, by kernel_rfl, by kernel_rfl⟩⟩
/- carried: [4] -/
/- carried: [9] -/
/- carried: [9] -/
/- carried: [7] -/
/- carried: [3] -/
def Xn74_1 : C := regL [0, 1, 2] none [⟨some 6, .mv (.const (.bool false)), none⟩]
def Xn74_3 : C := regL [6] none [⟨some 7, .mv (.tmp 0), none⟩, ⟨some 8, .mv (.tmp 1), none⟩, ⟨some 9, .bin 2 .geq (.tmp 7) (.tmp 8), none⟩, ⟨some 10, .mv (.tmp 9), none⟩, ⟨some 11, .mv (.tmp 0), some (10, true)⟩, ⟨some 12, .mv (.tmp 2), some (10, true)⟩, ⟨some 13, .bin 2 .leq (.tmp 11) (.tmp 12), some (10, true)⟩, ⟨some 14, .pick 10 (.tmp 13) (.const (.bool false)), none⟩, ⟨some 6, .mv (.tmp 14), none⟩]
def Xn74_2 : C := .seq Xn74_3 .ret
def Xn74_0 : C := .seq Xn74_1 Xn74_2
theorem Xt74 : Text Try.prog 74 Xn74_0 15 3 [.t 6] := ⟨⟨Try.f74, [], Try.func74, by kernel_rfl, by kernel_rfl, by kernel_rfl, by kernel_rfl⟩⟩
def Xn75_1 : C := regL [0] none [⟨some 2, .mv (.const (.int .i64 0)), none⟩]
def Xn75_4 : C := regL [5] none [⟨some 3, .mv (.tmp 0), none⟩, ⟨some 4, .call 74 [.tmp 3, .const (.int .i64 1), .const (.int .i64 16777216)], none⟩, ⟨some 5, .un .not (.tmp 4), none⟩]
def Xn75_7 : C := regL [2] none [⟨some 2, .mv (.const (.int .i64 3)), none⟩]
def Xn75_6 : C := .seq Xn75_7 .ret
def Xn75_5 : C := .cond (.tmp 5) Xn75_6 .skip
def Xn75_3 : C := .seq Xn75_4 Xn75_5
def Xn75_11 : C := regL [2] none [⟨some 2, .mv (.const (.int .i64 0)), none⟩]
def Xn75_10 : C := .seq Xn75_11 .ret
def Xn75_2 : C := seqL [] Xn75_3 Xn75_10
def Xn75_0 : C := .seq Xn75_1 Xn75_2
theorem Xt75 : Text Try.prog 75 Xn75_0 6 1 [.t 2] := ⟨⟨Try.f75, [], Try.func75, by kernel_rfl, by kernel_rfl, by kernel_rfl, by kernel_rfl⟩⟩
/- carried: [34] -/
/- carried: [44] -/
/- carried: [54] -/
/- carried: [6, 19] -/
/- carried: [7] -/
/- carried: [8] -/
/- carried: [7] -/
/- carried: [13, 14] -/
/- carried: [11, 12] -/
def Xn81_1 : C := regL [0, 1, 2] none [⟨some 6, .mv (.const (.int .i64 0)), none⟩]
def Xn81_3 : C := regL [6] none [⟨some 7, .mv (.tmp 0), none⟩, ⟨some 8, .mv (.tmp 1), none⟩, ⟨some 9, .un .neg (.tmp 8), none⟩, ⟨some 10, .mv (.tmp 2), none⟩, ⟨some 11, .call 102 [.tmp 7, .tmp 9, .tmp 10], none⟩, ⟨some 12, .un .neg (.tmp 11), none⟩, ⟨some 6, .mv (.tmp 12), none⟩]
def Xn81_2 : C := .seq Xn81_3 .ret
def Xn81_0 : C := .seq Xn81_1 Xn81_2
theorem Xt81 : Text Try.prog 81 Xn81_0 13 3 [.t 6] := ⟨⟨Try.f81, [], Try.func81, by kernel_rfl, by kernel_rfl, by kernel_rfl, by kernel_rfl⟩⟩
def Xn82_1 : C := regL [1] none [⟨some 1, .box true 67 (.tmp 0), none⟩, ⟨some 2, .mv (.const (.int .i64 0)), none⟩]
def Xn82_4 : C := regL [1, 11] none [⟨some 3, .fa 1 (.tmp 1), none⟩, ⟨some 4, .ld 65 1 false (.tmp 3), none⟩, ⟨some 5, .len (.tmp 4), none⟩, ⟨some 6, .bin 3 .gtr (.tmp 5) (.const (.int .i64 12)), none⟩, ⟨some 7, .mv (.tmp 6), none⟩, ⟨some 8, .fa 1 (.tmp 1), some (7, false)⟩, ⟨some 9, .ld 65 1 false (.tmp 8), some (7, false)⟩, ⟨some 10, .call 103 [.tmp 9, .func 104], some (7, false)⟩, ⟨some 11, .pick 7 (.const (.bool true)) (.tmp 10), none⟩]
def Xn82_7 : C := regL [2] none [⟨some 2, .mv (.const (.int .i64 6)), none⟩]
def Xn82_6 : C := .seq Xn82_7 .ret
def Xn82_5 : C := .cond (.tmp 11) Xn82_6 .skip
def Xn82_3 : C := .seq Xn82_4 Xn82_5
def Xn82_12 : C := regL [1, 49] none [⟨some 12, .fa 0 (.tmp 1), none⟩, ⟨some 13, .ld 9 1 false (.tmp 12), none⟩, ⟨some 14, .call 105 [.tmp 13], none⟩, ⟨some 15, .un .not (.tmp 14), none⟩, ⟨some 16, .mv (.tmp 15), none⟩, ⟨some 17, .fa 1 (.tmp 1), some (16, false)⟩, ⟨some 18, .ld 65 1 false (.tmp 17), some (16, false)⟩, ⟨some 19, .len (.tmp 18), some (16, false)⟩, ⟨some 20, .bin 3 .eql (.tmp 19) (.const (.int .i64 0)), some (16, false)⟩, ⟨some 21, .pick 16 (.const (.bool true)) (.tmp 20), none⟩, ⟨some 22, .mv (.tmp 21), none⟩, ⟨some 23, .fa 1 (.tmp 1), some (22, false)⟩, ⟨some 24, .ld 65 1 false (.tmp 23), some (22, false)⟩, ⟨some 25, .ia 11 (.tmp 24) (.const (.int .i64 0)), some (22, false)⟩, ⟨some 26, .fa 0 (.tmp 25), some (22, false)⟩, ⟨some 27, .ld 3 1 false (.tmp 26), some (22, false)⟩, ⟨some 28, .bin 3 .neq (.tmp 27) (.const (.int .i64 0)), some (22, false)⟩, ⟨some 29, .pick 22 (.const (.bool true)) (.tmp 28), none⟩, ⟨some 30, .mv (.tmp 29), none⟩, ⟨some 31, .fa 2 (.tmp 1), some (30, false)⟩, ⟨some 32, .ld 3 1 false (.tmp 31), some (30, false)⟩, ⟨some 33, .bin 3 .lss (.tmp 32) (.const (.int .i64 0)), some (30, false)⟩, ⟨some 34, .pick 30 (.const (.bool true)) (.tmp 33), none⟩, ⟨some 35, .mv (.tmp 34), none⟩, ⟨some 36, .fa 2 (.tmp 1), some (35, false)⟩, ⟨some 37, .ld 3 1 false (.tmp 36), some (35, false)⟩, ⟨some 38, .fa 3 (.tmp 1), some (35, false)⟩, ⟨some 39, .ld 3 1 false (.tmp 38), some (35, false)⟩, ⟨some 40, .bin 3 .gtr (.tmp 37) (.tmp 39), some (35, false)⟩, ⟨some 41, .pick 35 (.const (.bool true)) (.tmp 40), none⟩, ⟨some 42, .mv (.tmp 41), none⟩, ⟨some 43, .fa 3 (.tmp 1), some (42, false)⟩, ⟨some 44, .ld 3 1 false (.tmp 43), some (42, false)⟩, ⟨some 45, .fa 1 (.tmp 1), some (42, false)⟩, ⟨some 46, .ld 65 1 false (.tmp 45), some (42, false)⟩, ⟨some 47, .len (.tmp 46), some (42, false)⟩, ⟨some 48, .bin 3 .geq (.tmp 44) (.tmp 47), some (42, false)⟩, ⟨some 49, .pick 42 (.const (.bool true)) (.tmp 48), none⟩]
def Xn82_15 : C := regL [2] none [⟨some 2, .mv (.const (.int .i64 2)), none⟩]
def Xn82_14 : C := .seq Xn82_15 .ret
def Xn82_13 : C := .cond (.tmp 49) Xn82_14 .skip
def Xn82_11 : C := .seq Xn82_12 Xn82_13
def Xn82_20 : C := regL [52] none [⟨some 50, .fa 1 (.tmp 1), none⟩, ⟨some 51, .ld 65 1 false (.tmp 50), none⟩, ⟨some 52, .call 103 [.tmp 51, .func 106], none⟩]
def Xn82_23 : C := regL [2] none [⟨some 2, .mv (.const (.int .i64 2)), none⟩]
def Xn82_22 : C := .seq Xn82_23 .ret
def Xn82_21 : C := .cond (.tmp 52) Xn82_22 .skip
def Xn82_19 : C := .seq Xn82_20 Xn82_21
def Xn82_27 : C := regL [2] none [⟨some 2, .mv (.const (.int .i64 0)), none⟩]
def Xn82_26 : C := .seq Xn82_27 .ret
def Xn82_18 : C := seqL [] Xn82_19 Xn82_26
def Xn82_10 : C := seqL [1] Xn82_11 Xn82_18
def Xn82_2 : C := seqL [1] Xn82_3 Xn82_10
def Xn82_0 : C := .seq Xn82_1 Xn82_2
theorem Xt82 : Text Try.prog 82 Xn82_0 53 1 [.t 2] := ⟨⟨Try.f82, [1], Try.func82, by kernel_rfl, by kernel_rfl, by kernel_rfl, by kernel_rfl⟩⟩
def Xn83_1 : C := regL [0, 1] none [⟨some 4, .mv (.const (.bool false)), none⟩]
def Xn83_3 : C := regL [4] none [⟨some 5, .mv (.tmp 0), none⟩, ⟨some 6, .mv (.tmp 1), none⟩, ⟨some 7, .call 108 [.tmp 5, .tmp 6], none⟩, ⟨some 8, .bin 3 .geq (.tmp 7) (.const (.int .i64 0)), none⟩, ⟨some 4, .mv (.tmp 8), none⟩]
def Xn83_2 : C := .seq Xn83_3 .ret
def Xn83_0 : C := .seq Xn83_1 Xn83_2
theorem Xt83 : Text Try.prog 83 Xn83_0 9 2 [.t 4] := ⟨⟨Try.f83, [], Try.func83, by kernel_rfl, by kernel_rfl, by kernel_rfl, by kernel_rfl⟩⟩
def Xn84_1 : C := regL [1, 2] none [⟨some 2, .box true 126 (.tmp 0), none⟩, ⟨some 3, .mv (.const (.bool false)), none⟩]
def Xn84_3 : C := regL [3] none [⟨some 4, .ld 2 1 false (.tmp 1), none⟩, ⟨some 5, .fa 1 (.tmp 2), none⟩, ⟨some 6, .ld 2 1 false (.tmp 5), none⟩, ⟨some 7, .bin 2 .gtr (.tmp 4) (.tmp 6), none⟩, ⟨some 3, .mv (.tmp 7), none⟩]
def Xn84_2 : C := .seq Xn84_3 .ret
def Xn84_0 : C := .seq Xn84_1 Xn84_2
theorem Xt84 : Text Try.prog 84 Xn84_0 8 2 [.t 3] := ⟨⟨Try.f84, [2], Try.func84, by kernel_rfl, by kernel_rfl, by kernel_rfl, by kernel_rfl⟩⟩
def Xn85_1 : C := regL [1] none [⟨some 1, .box true 67 (.tmp 0), none⟩, ⟨some 2, .mv (.const (.int .i64 0)), none⟩]
def Xn85_4 : C := regL [1, 8] none [⟨some 5, .fa 1 (.tmp 1), none⟩, ⟨some 6, .ld 65 1 false (.tmp 5), none⟩, ⟨some 7, .len (.tmp 6), none⟩, ⟨some 8, .bin 3 .gtr (.tmp 7) (.const (.int .i64 12)), none⟩]
def Xn85_7 : C := regL [2] none [⟨some 2, .mv (.const (.int .i64 6)), none⟩]
def Xn85_6 : C := .seq Xn85_7 .ret
def Xn85_5 : C := .cond (.tmp 8) Xn85_6 .skip
def Xn85_3 : C := .seq Xn85_4 Xn85_5
def Xn85_12 : C := regL [1, 3] none [⟨some 3, .mv (.const (.int .i64 0)), none⟩]
def Xn85_17 : C := regL [1, 3, 13] none [⟨some 9, .mv (.tmp 3), none⟩, ⟨some 10, .fa 1 (.tmp 1), none⟩, ⟨some 11, .ld 65 1 false (.tmp 10), none⟩, ⟨some 12, .len (.tmp 11), none⟩, ⟨some 13, .bin 3 .lss (.tmp 9) (.tmp 12), none⟩]
def Xn85_18 : C := .cond (.tmp 13) .skip (.exit 0)
def Xn85_16 : C := .seq Xn85_17 Xn85_18
def Xn85_24 : C := regL [1, 3, 23] none [⟨some 16, .fa 1 (.tmp 1), none⟩, ⟨some 17, .ld 65 1 false (.tmp 16), none⟩, ⟨some 18, .mv (.tmp 3), none⟩, ⟨some 19, .ia 11 (.tmp 17) (.tmp 18), none⟩, ⟨some 20, .fa 10 (.tmp 19), none⟩, ⟨some 21, .ld 119 1 false (.tmp 20), none⟩, ⟨some 22, .len (.tmp 21), none⟩, ⟨some 23, .bin 3 .gtr (.tmp 22) (.const (.int .i64 24)), none⟩]
def Xn85_27 : C := regL [2] none [⟨some 2, .mv (.const (.int .i64 6)), none⟩]
def Xn85_26 : C := .seq Xn85_27 .ret
def Xn85_25 : C := .cond (.tmp 23) Xn85_26 .skip
def Xn85_23 : C := .seq Xn85_24 Xn85_25
def Xn85_22 : C := .block 1 Xn85_23
def Xn85_30 : C := regL [1, 3] none [⟨some 14, .mv (.tmp 3), none⟩, ⟨some 15, .bin 3 .add (.tmp 14) (.const (.int .i64 1)), none⟩, ⟨some 3, .mv (.tmp 15), none⟩]
def Xn85_21 : C := seqL [1, 3] Xn85_22 Xn85_30
def Xn85_15 : C := seqL [1, 3] Xn85_16 Xn85_21
/- carried: [3] -/
def Xn85_14 : C := loopL [1, 3] Xn85_15
def Xn85_13 : C := .block 0 Xn85_14
def Xn85_11 : C := .seq Xn85_12 Xn85_13
def Xn85_33 : C := regL [1, 61] none [⟨some 24, .fa 0 (.tmp 1), none⟩, ⟨some 25, .ld 9 1 false (.tmp 24), none⟩, ⟨some 26, .call 109 [.tmp 25], none⟩, ⟨some 27, .un .not (.tmp 26), none⟩, ⟨some 28, .mv (.tmp 27), none⟩, ⟨some 29, .fa 1 (.tmp 1), some (28, false)⟩, ⟨some 30, .ld 65 1 false (.tmp 29), some (28, false)⟩, ⟨some 31, .len (.tmp 30), some (28, false)⟩, ⟨some 32, .bin 3 .lss (.tmp 31) (.const (.int .i64 1)), some (28, false)⟩, ⟨some 33, .pick 28 (.const (.bool true)) (.tmp 32), none⟩, ⟨some 34, .mv (.tmp 33), none⟩, ⟨some 35, .fa 1 (.tmp 1), some (34, false)⟩, ⟨some 36, .ld 65 1 false (.tmp 35), some (34, false)⟩, ⟨some 37, .ia 11 (.tmp 36) (.const (.int .i64 0)), some (34, false)⟩, ⟨some 38, .fa 0 (.tmp 37), some (34, false)⟩, ⟨some 39, .ld 3 1 false (.tmp 38), some (34, false)⟩, ⟨some 40, .bin 3 .neq (.tmp 39) (.const (.int .i64 0)), some (34, false)⟩, ⟨some 41, .pick 34 (.const (.bool true)) (.tmp 40), none⟩, ⟨some 42, .mv (.tmp 41), none⟩, ⟨some 43, .fa 2 (.tmp 1), some (42, false)⟩, ⟨some 44, .ld 3 1 false (.tmp 43), some (42, false)⟩, ⟨some 45, .bin 3 .lss (.tmp 44) (.const (.int .i64 0)), some (42, false)⟩, ⟨some 46, .pick 42 (.const (.bool true)) (.tmp 45), none⟩, ⟨some 47, .mv (.tmp 46), none⟩, ⟨some 48, .fa 2 (.tmp 1), some (47, false)⟩, ⟨some 49, .ld 3 1 false (.tmp 48), some (47, false)⟩, ⟨some 50, .fa 3 (.tmp 1), some (47, false)⟩, ⟨some 51, .ld 3 1 false (.tmp 50), some (47, false)⟩, ⟨some 52, .bin 3 .gtr (.tmp 49) (.tmp 51), some (47, false)⟩, ⟨some 53, .pick 47 (.const (.bool true)) (.tmp 52), none⟩, ⟨some 54, .mv (.tmp 53), none⟩, ⟨some 55, .fa 3 (.tmp 1), some (54, false)⟩, ⟨some 56, .ld 3 1 false (.tmp 55), some (54, false)⟩, ⟨some 57, .fa 1 (.tmp 1), some (54, false)⟩, ⟨some 58, .ld 65 1 false (.tmp 57), some (54, false)⟩, ⟨some 59, .len (.tmp 58), some (54, false)⟩, ⟨some 60, .bin 3 .geq (.tmp 56) (.tmp 59), some (54, false)⟩, ⟨some 61, .pick 54 (.const (.bool true)) (.tmp 60), none⟩]
def Xn85_36 : C := regL [2] none [⟨some 2, .mv (.const (.int .i64 2)), none⟩]
def Xn85_35 : C := .seq Xn85_36 .ret
def Xn85_34 : C := .cond (.tmp 61) Xn85_35 .skip
def Xn85_32 : C := .seq Xn85_33 Xn85_34
def Xn85_41 : C := regL [1, 4] none [⟨some 4, .mv (.const (.int .i64 0)), none⟩]
def Xn85_46 : C := regL [1, 4, 66] none [⟨some 62, .mv (.tmp 4), none⟩, ⟨some 63, .fa 1 (.tmp 1), none⟩, ⟨some 64, .ld 65 1 false (.tmp 63), none⟩, ⟨some 65, .len (.tmp 64), none⟩, ⟨some 66, .bin 3 .lss (.tmp 62) (.tmp 65), none⟩]
def Xn85_47 : C := .cond (.tmp 66) .skip (.exit 2)
def Xn85_45 : C := .seq Xn85_46 Xn85_47
def Xn85_53 : C := regL [1, 4, 75] none [⟨some 69, .fa 1 (.tmp 1), none⟩, ⟨some 70, .ld 65 1 false (.tmp 69), none⟩, ⟨some 71, .mv (.tmp 4), none⟩, ⟨some 72, .ia 11 (.tmp 70) (.tmp 71), none⟩, ⟨some 73, .ld 121 11 true (.tmp 72), none⟩, ⟨some 74, .call 110 [.tmp 73], none⟩, ⟨some 75, .un .not (.tmp 74), none⟩]
def Xn85_56 : C := regL [2] none [⟨some 2, .mv (.const (.int .i64 2)), none⟩]
def Xn85_55 : C := .seq Xn85_56 .ret
def Xn85_54 : C := .cond (.tmp 75) Xn85_55 .skip
def Xn85_52 : C := .seq Xn85_53 Xn85_54
def Xn85_51 : C := .block 3 Xn85_52
def Xn85_59 : C := regL [1, 4] none [⟨some 67, .mv (.tmp 4), none⟩, ⟨some 68, .bin 3 .add (.tmp 67) (.const (.int .i64 1)), none⟩, ⟨some 4, .mv (.tmp 68), none⟩]
def Xn85_50 : C := seqL [1, 4] Xn85_51 Xn85_59
def Xn85_44 : C := seqL [1, 4] Xn85_45 Xn85_50
/- carried: [4] -/
def Xn85_43 : C := loopL [1, 4] Xn85_44
def Xn85_42 : C := .block 2 Xn85_43
def Xn85_40 : C := .seq Xn85_41 Xn85_42
def Xn85_61 : C := regL [2] none [⟨some 2, .mv (.const (.int .i64 0)), none⟩]
def Xn85_60 : C := .seq Xn85_61 .ret
def Xn85_39 : C := seqL [] Xn85_40 Xn85_60
def Xn85_31 : C := seqL [1] Xn85_32 Xn85_39
def Xn85_10 : C := seqL [1] Xn85_11 Xn85_31
def Xn85_2 : C := seqL [1] Xn85_3 Xn85_10
def Xn85_0 : C := .seq Xn85_1 Xn85_2
theorem Xt85 : Text Try.prog 85 Xn85_0 76 1 [.t 2] := ⟨⟨Try.f85, [1], Try.func85, by kernel_rfl, by kernel_rfl, by kernel_rfl, by kernel_rfl⟩⟩
/- carried: [19] -/
/- carried: [7] -/
/- carried: [5] -/
/- carried: [3, 4] -/
/- carried: [6, 8] -/
/- carried: [6, 9] -/
/- carried: [10] -/
def Xn94_1 : C := regL [1] none [⟨some 1, .box true 89 (.tmp 0), none⟩, ⟨some 2, .mv (.const (.int .i64 0)), none⟩]
def Xn94_3 : C := regL [3, 4, 5] none [⟨some 7, .ld 89 3 true (.tmp 1), none⟩, ⟨some 8, .call 123 [.tmp 7], none⟩, ⟨some 6, .mv (.tmp 8), none⟩, ⟨some 9, .ext 0 (.tmp 6), none⟩, ⟨some 10, .ext 1 (.tmp 6), none⟩, ⟨some 11, .ext 2 (.tmp 6), none⟩, ⟨some 3, .mv (.tmp 9), none⟩, ⟨some 4, .mv (.tmp 10), none⟩, ⟨some 5, .mv (.tmp 11), none⟩]
def Xn94_6 : C := regL [3, 4, 13] none [⟨some 12, .mv (.tmp 5), none⟩, ⟨some 13, .un .not (.tmp 12), none⟩]
def Xn94_9 : C := regL [2] none [⟨some 14, .mv (.tmp 3), none⟩, ⟨some 2, .mv (.tmp 14), none⟩]
def Xn94_8 : C := .seq Xn94_9 .ret
def Xn94_7 : C := .cond (.tmp 13) Xn94_8 .skip
def Xn94_5 : C := .seq Xn94_6 Xn94_7
def Xn94_14 : C := regL [3, 15] none [⟨some 15, .mv (.tmp 4), none⟩]
def Xn94_16 : C := regL [3] none [⟨some 16, .mv (.tmp 3), none⟩, ⟨some 17, .bin 2 .add (.tmp 16) (.const (.int .i64 1)), none⟩, ⟨some 3, .mv (.tmp 17), none⟩]
def Xn94_15 : C := .cond (.tmp 15) Xn94_16 .skip
def Xn94_13 : C := .seq Xn94_14 Xn94_15
def Xn94_19 : C := regL [2] none [⟨some 18, .mv (.tmp 3), none⟩, ⟨some 19, .un .neg (.tmp 18), none⟩, ⟨some 2, .mv (.tmp 19), none⟩]
def Xn94_18 : C := .seq Xn94_19 .ret
def Xn94_12 : C := seqL [3] Xn94_13 Xn94_18
def Xn94_4 : C := seqL [3, 4] Xn94_5 Xn94_12
def Xn94_2 : C := .seq Xn94_3 Xn94_4
def Xn94_0 : C := .seq Xn94_1 Xn94_2
theorem Xt94 : Text Try.prog 94 Xn94_0 20 1 [.t 2] := ⟨⟨Try.f94, [1], Try.func94, by kernel_rfl, by kernel_rfl, by kernel_rfl, by kernel_rfl⟩⟩
def Xn95_1 : C := regL [1] none [⟨some 1, .box true 94 (.tmp 0), none⟩, ⟨some 2, .mv (.const (.int .i64 0)), none⟩]
def Xn95_3 : C := regL [1, 3] none [⟨some 4, .mkf 124 [] [.tmp 1], none⟩, ⟨some 3, .mv (.tmp 4), none⟩]
def Xn95_5 : C := regL [2] (some [0, 1, 3, 0, 8, 31, 0, 64, 192, 0, 536, 2008, 4095, 0, 8192, 24576, 0, 67096, 255512, 524287, 1048575]) [⟨some 5, .iaa 3 3 (.tmp 1) (.const (.int .i64 0)), none⟩, ⟨some 6, .iaa 3 1 (.tmp 5) (.const (.int .i64 0)), none⟩, ⟨some 7, .ld 2 1 false (.tmp 6), none⟩, ⟨some 8, .mv (.tmp 3), none⟩, ⟨some 9, .callv (.tmp 8) [.const (.int .i64 1), .const (.int .i64 2)], none⟩, ⟨some 10, .bin 2 .mul (.tmp 7) (.tmp 9), none⟩, ⟨some 11, .iaa 3 3 (.tmp 1) (.const (.int .i64 0)), none⟩, ⟨some 12, .iaa 3 1 (.tmp 11) (.const (.int .i64 1)), none⟩, ⟨some 13, .ld 2 1 false (.tmp 12), none⟩, ⟨some 14, .mv (.tmp 3), none⟩, ⟨some 15, .callv (.tmp 14) [.const (.int .i64 0), .const (.int .i64 2)], none⟩, ⟨some 16, .bin 2 .mul (.tmp 13) (.tmp 15), none⟩, ⟨some 17, .bin 2 .sub (.tmp 10) (.tmp 16), none⟩, ⟨some 18, .iaa 3 3 (.tmp 1) (.const (.int .i64 0)), none⟩, ⟨some 19, .iaa 3 1 (.tmp 18) (.const (.int .i64 2)), none⟩, ⟨some 20, .ld 2 1 false (.tmp 19), none⟩, ⟨some 21, .mv (.tmp 3), none⟩, ⟨some 22, .callv (.tmp 21) [.const (.int .i64 0), .const (.int .i64 1)], none⟩, ⟨some 23, .bin 2 .mul (.tmp 20) (.tmp 22), none⟩, ⟨some 24, .bin 2 .add (.tmp 17) (.tmp 23), none⟩, ⟨some 2, .mv (.tmp 24), none⟩]
def Xn95_4 : C := .seq Xn95_5 .ret
def Xn95_2 : C := .seq Xn95_3 Xn95_4
def Xn95_0 : C := .seq Xn95_1 Xn95_2
theorem Xt95 : Text Try.prog 95 Xn95_0 25 1 [.t 2] := ⟨⟨Try.f95, [1], Try.func95, by kernel_rfl, by kernel_rfl, by kernel_rfl, by kernel_rfl⟩⟩
def Xn96_1 : C := regL [0, 1] none [⟨some 4, .mv (.const (.int .i64 0)), none⟩]
def Xn96_4 : C := regL [0, 1, 7, 8] none [⟨some 6, .mv (.tmp 0), none⟩, ⟨some 7, .len (.tmp 6), none⟩, ⟨some 8, .mv (.const (.int .i64 0)), none⟩]
def Xn96_8 : C := regL [0, 1, 7, 8, 9] none [⟨some 9, .bin 3 .lss (.tmp 8) (.tmp 7), none⟩]
def Xn96_10 : C := .cond (.tmp 9) .skip (.exit 0)
def Xn96_16 : C := regL [0, 1, 5, 7, 8] none [⟨some 10, .mv (.tmp 8), none⟩, ⟨some 5, .mv (.tmp 10), none⟩]
def Xn96_18 : C := regL [0, 1, 5, 7, 8, 16] none [⟨some 11, .mv (.tmp 1), none⟩, ⟨some 12, .mv (.tmp 0), none⟩, ⟨some 13, .mv (.tmp 5), none⟩, ⟨some 14, .ia 1 (.tmp 12) (.tmp 13), none⟩, ⟨some 15, .ld 2 1 false (.tmp 14), none⟩, ⟨some 16, .callv (.tmp 11) [.tmp 15], none⟩]
def Xn96_21 : C := regL [4] none [⟨some 17, .mv (.tmp 5), none⟩, ⟨some 4, .mv (.tmp 17), none⟩]
def Xn96_20 : C := .seq Xn96_21 .ret
def Xn96_19 : C := .cond (.tmp 16) Xn96_20 .skip
def Xn96_17 : C := .seq Xn96_18 Xn96_19
def Xn96_15 : C := .seq Xn96_16 Xn96_17
def Xn96_14 : C := .block 1 Xn96_15
def Xn96_24 : C := regL [0, 1, 7, 8] none [⟨some 18, .bin 3 .add (.tmp 8) (.const (.int .i64 1)), none⟩, ⟨some 8, .mv (.tmp 18), none⟩]
def Xn96_13 : C := seqL [0, 1, 7, 8] Xn96_14 Xn96_24
def Xn96_9 : C := seqL [0, 1, 7, 8] Xn96_10 Xn96_13
def Xn96_7 : C := .seq Xn96_8 Xn96_9
/- carried: [8] -/
def Xn96_6 : C := loopL [0, 1, 7, 8] Xn96_7
def Xn96_5 : C := .block 0 Xn96_6
def Xn96_3 : C := .seq Xn96_4 Xn96_5
def Xn96_26 : C := regL [4] none [⟨some 4, .mv (.const (.int .i64 (-1))), none⟩]
def Xn96_25 : C := .seq Xn96_26 .ret
def Xn96_2 : C := seqL [] Xn96_3 Xn96_25
def Xn96_0 : C := .seq Xn96_1 Xn96_2
theorem Xt96 : Text Try.prog 96 Xn96_0 19 2 [.t 4] := ⟨⟨Try.f96, [], Try.func96, by kernel_rfl, by kernel_rfl, by kernel_rfl, by kernel_rfl⟩⟩
def Xn97_1 : C := regL [0] none [⟨some 2, .mv (.const (.bool false)), none⟩]
def Xn97_3 : C := regL [2] none [⟨some 3, .mv (.tmp 0), none⟩, ⟨some 4, .bin 2 .lss (.tmp 3) (.const (.int .i64 0)), none⟩, ⟨some 2, .mv (.tmp 4), none⟩]
def Xn97_2 : C := .seq Xn97_3 .ret
def Xn97_0 : C := .seq Xn97_1 Xn97_2
theorem Xt97 : Text Try.prog 97 Xn97_0 5 1 [.t 2] := ⟨⟨Try.f97, [], Try.func97, by kernel_rfl, by kernel_rfl, by kernel_rfl, by kernel_rfl⟩⟩
/- carried: [10] -/
def Xn99_1 : C := regL [0, 1] none [⟨some 4, .mv (.const (.bool false)), none⟩]
def Xn99_3 : C := regL [4] none [⟨some 5, .mv (.tmp 0), none⟩, ⟨some 6, .mv (.tmp 1), none⟩, ⟨some 7, .call 96 [.tmp 5, .tmp 6], none⟩, ⟨some 8, .bin 3 .geq (.tmp 7) (.const (.int .i64 0)), none⟩, ⟨some 4, .mv (.tmp 8), none⟩]
def Xn99_2 : C := .seq Xn99_3 .ret
def Xn99_0 : C := .seq Xn99_1 Xn99_2
theorem Xt99 : Text Try.prog 99 Xn99_0 9 2 [.t 4] := ⟨⟨Try.f99, [], Try.func99, by kernel_rfl, by kernel_rfl, by kernel_rfl, by kernel_rfl⟩⟩
def Xn101_1 : C := regL [0, 1] none [⟨some 4, .mv (.const (.int .i64 0)), none⟩]
def Xn101_3 : C := regL [0, 1, 5] none [⟨some 6, .mv (.tmp 0), none⟩, ⟨some 7, .mv (.tmp 1), none⟩, ⟨some 8, .bin 2 .quo (.tmp 6) (.tmp 7), none⟩, ⟨some 5, .mv (.tmp 8), none⟩]
def Xn101_6 : C := regL [5, 12] none [⟨some 9, .mv (.tmp 0), none⟩, ⟨some 10, .mv (.tmp 1), none⟩, ⟨some 11, .bin 2 .rem (.tmp 9) (.tmp 10), none⟩, ⟨some 12, .bin 2 .lss (.tmp 11) (.const (.int .i64 0)), none⟩]
def Xn101_8 : C := regL [5] none [⟨some 13, .mv (.tmp 5), none⟩, ⟨some 14, .bin 2 .sub (.tmp 13) (.const (.int .i64 1)), none⟩, ⟨some 5, .mv (.tmp 14), none⟩]
def Xn101_7 : C := .cond (.tmp 12) Xn101_8 .skip
def Xn101_5 : C := .seq Xn101_6 Xn101_7
def Xn101_11 : C := regL [4] none [⟨some 15, .mv (.tmp 5), none⟩, ⟨some 4, .mv (.tmp 15), none⟩]
def Xn101_10 : C := .seq Xn101_11 .ret
def Xn101_4 : C := seqL [5] Xn101_5 Xn101_10
def Xn101_2 : C := .seq Xn101_3 Xn101_4
def Xn101_0 : C := .seq Xn101_1 Xn101_2
theorem Xt101 : Text Try.prog 101 Xn101_0 16 2 [.t 4] := ⟨⟨Try.f101, [], Try.func101, by kernel_rfl, by kernel_rfl, by kernel_rfl, by kernel_rfl⟩⟩
def Xn102_1 : C := regL [0, 1, 2] none [⟨some 6, .mv (.const (.int .i64 0)), none⟩]
def Xn102_3 : C := regL [0, 1, 2, 7] none [⟨some 12, .mv (.tmp 1), none⟩, ⟨some 13, .mv (.tmp 2), none⟩, ⟨some 14, .call 101 [.tmp 12, .tmp 13], none⟩, ⟨some 7, .mv (.tmp 14), none⟩]
def Xn102_5 : C := regL [0, 2, 7, 8] none [⟨some 15, .mv (.tmp 1), none⟩, ⟨some 16, .mv (.tmp 7), none⟩, ⟨some 17, .mv (.tmp 2), none⟩, ⟨some 18, .bin 2 .mul (.tmp 16) (.tmp 17), none⟩, ⟨some 19, .bin 2 .sub (.tmp 15) (.tmp 18), none⟩, ⟨some 8, .mv (.tmp 19), none⟩]
def Xn102_7 : C := regL [0, 2, 7, 8, 9, 10] none [⟨some 9, .mv (.const (.int .i64 0)), none⟩, ⟨some 10, .mv (.const (.int .i64 0)), none⟩]
def Xn102_10 : C := regL [0, 2, 7, 8, 9, 10, 11] none [⟨some 11, .mv (.const (.int .i64 30)), none⟩]
def Xn102_15 : C := regL [0, 2, 7, 8, 9, 10, 11, 21] none [⟨some 20, .mv (.tmp 11), none⟩, ⟨some 21, .bin 3 .geq (.tmp 20) (.const (.int .i64 0)), none⟩]
def Xn102_16 : C := .cond (.tmp 21) .skip (.exit 0)
def Xn102_14 : C := .seq Xn102_15 Xn102_16
def Xn102_22 : C := regL [0, 2, 7, 8, 9, 10, 11] none [⟨some 24, .mv (.tmp 9), none⟩, ⟨some 25, .bin 2 .mul (.const (.int .i64 2)) (.tmp 24), none⟩, ⟨some 26, .mv (.tmp 10), none⟩, ⟨some 27, .bin 2 .mul (.const (.int .i64 2)) (.tmp 26), none⟩, ⟨some 9, .mv (.tmp 25), none⟩, ⟨some 10, .mv (.tmp 27), none⟩]
def Xn102_25 : C := regL [0, 2, 7, 8, 9, 10, 11, 33] none [⟨some 28, .mv (.tmp 0), none⟩, ⟨some 29, .mv (.tmp 11), none⟩, ⟨some 30, .cvt .u64 (.tmp 29), none⟩, ⟨some 31, .bin 2 .shr (.tmp 28) (.tmp 30), none⟩, ⟨some 32, .bin 2 .rem (.tmp 31) (.const (.int .i64 2)), none⟩, ⟨some 33, .bin 2 .eql (.tmp 32) (.const (.int .i64 1)), none⟩]
def Xn102_27 : C := regL [0, 2, 7, 8, 9, 10, 11] none [⟨some 34, .mv (.tmp 10), none⟩, ⟨some 35, .mv (.tmp 8), none⟩, ⟨some 36, .bin 2 .add (.tmp 34) (.tmp 35), none⟩, ⟨some 10, .mv (.tmp 36), none⟩]
def Xn102_26 : C := .cond (.tmp 33) Xn102_27 .skip
def Xn102_24 : C := .seq Xn102_25 Xn102_26
def Xn102_33 : C := regL [0, 2, 7, 8, 9, 10, 11, 39] none [⟨some 37, .mv (.tmp 10), none⟩, ⟨some 38, .mv (.tmp 2), none⟩, ⟨some 39, .bin 2 .geq (.tmp 37) (.tmp 38), none⟩]
def Xn102_34 : C := .cond (.tmp 39) .skip (.exit 2)
def Xn102_32 : C := .seq Xn102_33 Xn102_34
def Xn102_39 : C := regL [0, 2, 7, 8, 9, 10, 11] none [⟨some 40, .mv (.tmp 10), none⟩, ⟨some 41, .mv (.tmp 2), none⟩, ⟨some 42, .bin 2 .sub (.tmp 40) (.tmp 41), none⟩, ⟨some 10, .mv (.tmp 42), none⟩]
def Xn102_40 : C := regL [0, 2, 7, 8, 9, 10, 11] none [⟨some 43, .mv (.tmp 9), none⟩, ⟨some 44, .bin 2 .add (.tmp 43) (.const (.int .i64 1)), none⟩, ⟨some 9, .mv (.tmp 44), none⟩]
def Xn102_38 : C := .seq Xn102_39 Xn102_40
def Xn102_37 : C := .block 3 Xn102_38
def Xn102_31 : C := seqL [0, 2, 7, 8, 9, 10, 11] Xn102_32 Xn102_37
/- carried: [9, 10] -/
def Xn102_30 : C := loopL [0, 2, 7, 8, 9, 10, 11] Xn102_31
def Xn102_29 : C := .block 2 Xn102_30
def Xn102_23 : C := seqL [0, 2, 7, 8, 9, 10, 11] Xn102_24 Xn102_29
def Xn102_21 : C := .seq Xn102_22 Xn102_23
def Xn102_20 : C := .block 1 Xn102_21
def Xn102_41 : C := regL [0, 2, 7, 8, 9, 10, 11] none [⟨some 22, .mv (.tmp 11), none⟩, ⟨some 23, .bin 3 .sub (.tmp 22) (.const (.int .i64 1)), none⟩, ⟨some 11, .mv (.tmp 23), none⟩]
def Xn102_19 : C := seqL [0, 2, 7, 8, 9, 10, 11] Xn102_20 Xn102_41
def Xn102_13 : C := seqL [0, 2, 7, 8, 9, 10, 11] Xn102_14 Xn102_19
/- carried: [9, 10, 11] -/
def Xn102_12 : C := loopL [0, 2, 7, 8, 9, 10, 11] Xn102_13
def Xn102_11 : C := .block 0 Xn102_12
def Xn102_9 : C := .seq Xn102_10 Xn102_11
def Xn102_43 : C := regL [6] none [⟨some 45, .mv (.tmp 7), none⟩, ⟨some 46, .mv (.tmp 0), none⟩, ⟨some 47, .bin 2 .mul (.tmp 45) (.tmp 46), none⟩, ⟨some 48, .mv (.tmp 9), none⟩, ⟨some 49, .bin 2 .add (.tmp 47) (.tmp 48), none⟩, ⟨some 6, .mv (.tmp 49), none⟩]
def Xn102_42 : C := .seq Xn102_43 .ret
def Xn102_8 : C := seqL [0, 7, 9] Xn102_9 Xn102_42
def Xn102_6 : C := .seq Xn102_7 Xn102_8
def Xn102_4 : C := .seq Xn102_5 Xn102_6
def Xn102_2 : C := .seq Xn102_3 Xn102_4
def Xn102_0 : C := .seq Xn102_1 Xn102_2
theorem Xt102 : Text Try.prog 102 Xn102_0 50 3 [.t 6] := ⟨⟨Try.f102, [], Try.func102, by kernel_rfl, by kernel_rfl, by kernel_rfl, by kernel_rfl⟩⟩
def Xn103_1 : C := regL [0, 1] none [⟨some 4, .mv (.const (.bool false)), none⟩]
def Xn103_3 : C := regL [4] none [⟨some 5, .mv (.tmp 0), none⟩, ⟨some 6, .mv (.tmp 1), none⟩, ⟨some 7, .call 125 [.tmp 5, .tmp 6], none⟩, ⟨some 8, .bin 3 .geq (.tmp 7) (.const (.int .i64 0)), none⟩, ⟨some 4, .mv (.tmp 8), none⟩]
def Xn103_2 : C := .seq Xn103_3 .ret
def Xn103_0 : C := .seq Xn103_1 Xn103_2
theorem Xt103 : Text Try.prog 103 Xn103_0 9 2 [.t 4] := ⟨⟨Try.f103, [], Try.func103, by kernel_rfl, by kernel_rfl, by kernel_rfl, by kernel_rfl⟩⟩
def Xn104_1 : C := regL [1] none [⟨some 1, .box true 121 (.tmp 0), none⟩, ⟨some 2, .mv (.const (.bool false)), none⟩]
def Xn104_3 : C := regL [2] none [⟨some 3, .fa 10 (.tmp 1), none⟩, ⟨some 4, .ld 119 1 false (.tmp 3), none⟩, ⟨some 5, .len (.tmp 4), none⟩, ⟨some 6, .bin 3 .gtr (.tmp 5) (.const (.int .i64 24)), none⟩, ⟨some 2, .mv (.tmp 6), none⟩]
def Xn104_2 : C := .seq Xn104_3 .ret
def Xn104_0 : C := .seq Xn104_1 Xn104_2
theorem Xt104 : Text Try.prog 104 Xn104_0 7 1 [.t 2] := ⟨⟨Try.f104, [1], Try.func104, by kernel_rfl, by kernel_rfl, by kernel_rfl, by kernel_rfl⟩⟩
def Xn105_1 : C := regL [0] none [⟨some 2, .mv (.const (.bool false)), none⟩]
def Xn105_4 : C := regL [0, 10] none [⟨some 3, .mv (.tmp 0), none⟩, ⟨some 4, .slen (.tmp 3), none⟩, ⟨some 5, .bin 3 .eql (.tmp 4) (.const (.int .i64 0)), none⟩, ⟨some 6, .mv (.tmp 5), none⟩, ⟨some 7, .mv (.tmp 0), some (6, false)⟩, ⟨some 8, .slen (.tmp 7), some (6, false)⟩, ⟨some 9, .bin 3 .gtr (.tmp 8) (.const (.int .i64 20)), some (6, false)⟩, ⟨some 10, .pick 6 (.const (.bool true)) (.tmp 9), none⟩]
def Xn105_7 : C := regL [2] none [⟨some 2, .mv (.const (.bool false)), none⟩]
def Xn105_6 : C := .seq Xn105_7 .ret
def Xn105_5 : C := .cond (.tmp 10) Xn105_6 .skip
def Xn105_3 : C := .seq Xn105_4 Xn105_5
def Xn105_11 : C := regL [2] none [⟨some 11, .mv (.tmp 0), none⟩, ⟨some 12, .call 126 [.tmp 11, .func 127], none⟩, ⟨some 13, .un .not (.tmp 12), none⟩, ⟨some 2, .mv (.tmp 13), none⟩]
def Xn105_10 : C := .seq Xn105_11 .ret
def Xn105_2 : C := seqL [0] Xn105_3 Xn105_10
def Xn105_0 : C := .seq Xn105_1 Xn105_2
theorem Xt105 : Text Try.prog 105 Xn105_0 14 1 [.t 2] := ⟨⟨Try.f105, [], Try.func105, by kernel_rfl, by kernel_rfl, by kernel_rfl, by kernel_rfl⟩⟩
def Xn106_1 : C := regL [1] none [⟨some 1, .box true 121 (.tmp 0), none⟩, ⟨some 2, .mv (.const (.bool false)), none⟩]
def Xn106_3 : C := regL [2] none [⟨some 3, .ld 121 11 true (.tmp 1), none⟩, ⟨some 4, .call 107 [.tmp 3], none⟩, ⟨some 5, .un .not (.tmp 4), none⟩, ⟨some 2, .mv (.tmp 5), none⟩]
def Xn106_2 : C := .seq Xn106_3 .ret
def Xn106_0 : C := .seq Xn106_1 Xn106_2
theorem Xt106 : Text Try.prog 106 Xn106_0 6 1 [.t 2] := ⟨⟨Try.f106, [1], Try.func106, by kernel_rfl, by kernel_rfl, by kernel_rfl, by kernel_rfl⟩⟩
def Xn107_1 : C := regL [1] none [⟨some 1, .box true 121 (.tmp 0), none⟩, ⟨some 2, .mv (.const (.bool false)), none⟩]
def Xn107_3 : C := regL [1, 3] none [⟨some 7, .fa 3 (.tmp 1), none⟩, ⟨some 8, .ld 2 1 false (.tmp 7), none⟩, ⟨some 9, .fa 4 (.tmp 1), none⟩, ⟨some 10, .ld 2 1 false (.tmp 9), none⟩, ⟨some 11, .fa 5 (.tmp 1), none⟩, ⟨some 12, .ld 2 1 false (.tmp 11), none⟩, ⟨some 13, .fa 6 (.tmp 1), none⟩, ⟨some 14, .ld 2 1 false (.tmp 13), none⟩, ⟨some 15, .bls 2 1 4 (.int .i64 0) [(0, 1, .tmp 8), (1, 1, .tmp 10), (2, 1, .tmp 12), (3, 1, .tmp 14)], none⟩, ⟨some 16, .call 99 [.tmp 15, .func 128], none⟩, ⟨some 17, .un .not (.tmp 16), none⟩, ⟨some 3, .mv (.tmp 17), none⟩]
def Xn107_6 : C := regL [1, 44] none [⟨some 18, .mv (.tmp 3), none⟩, ⟨some 19, .un .not (.tmp 18), none⟩, ⟨some 20, .mv (.tmp 19), none⟩, ⟨some 21, .fa 0 (.tmp 1), some (20, false)⟩, ⟨some 22, .ld 3 1 false (.tmp 21), some (20, false)⟩, ⟨some 23, .bin 3 .lss (.tmp 22) (.const (.int .i64 0)), some (20, false)⟩, ⟨some 24, .pick 20 (.const (.bool true)) (.tmp 23), none⟩, ⟨some 25, .mv (.tmp 24), none⟩, ⟨some 26, .fa 0 (.tmp 1), some (25, false)⟩, ⟨some 27, .ld 3 1 false (.tmp 26), some (25, false)⟩, ⟨some 28, .bin 3 .geq (.tmp 27) (.const (.int .i64 4)), some (25, false)⟩, ⟨some 29, .pick 25 (.const (.bool true)) (.tmp 28), none⟩, ⟨some 30, .mv (.tmp 29), none⟩, ⟨some 31, .fa 1 (.tmp 1), some (30, false)⟩, ⟨some 32, .ld 2 1 false (.tmp 31), some (30, false)⟩, ⟨some 33, .call 129 [.tmp 32, .const (.int .i64 100), .const (.int .i64 131072)], some (30, false)⟩, ⟨some 34, .un .not (.tmp 33), some (30, false)⟩, ⟨some 35, .pick 30 (.const (.bool true)) (.tmp 34), none⟩, ⟨some 36, .mv (.tmp 35), none⟩, ⟨some 37, .fa 2 (.tmp 1), some (36, false)⟩, ⟨some 38, .ld 2 1 false (.tmp 37), some (36, false)⟩, ⟨some 39, .fa 1 (.tmp 1), some (36, false)⟩, ⟨some 40, .ld 2 1 false (.tmp 39), some (36, false)⟩, ⟨some 41, .un .neg (.tmp 40), some (36, false)⟩, ⟨some 42, .call 129 [.tmp 38, .tmp 41, .const (.int .i64 131072)], some (36, false)⟩, ⟨some 43, .un .not (.tmp 42), some (36, false)⟩, ⟨some 44, .pick 36 (.const (.bool true)) (.tmp 43), none⟩]
def Xn107_9 : C := regL [2] none [⟨some 2, .mv (.const (.bool false)), none⟩]
def Xn107_8 : C := .seq Xn107_9 .ret
def Xn107_7 : C := .cond (.tmp 44) Xn107_8 .skip
def Xn107_5 : C := .seq Xn107_6 Xn107_7
def Xn107_14 : C := regL [1, 70] none [⟨some 45, .fa 7 (.tmp 1), none⟩, ⟨some 46, .ld 2 1 false (.tmp 45), none⟩, ⟨some 47, .call 129 [.tmp 46, .const (.int .i64 1), .const (.int .i64 1048576)], none⟩, ⟨some 48, .un .not (.tmp 47), none⟩, ⟨some 49, .mv (.tmp 48), none⟩, ⟨some 50, .fa 8 (.tmp 1), some (49, false)⟩, ⟨some 51, .ld 2 1 false (.tmp 50), some (49, false)⟩, ⟨some 52, .call 129 [.tmp 51, .const (.int .i64 0), .const (.int .i64 900)], some (49, false)⟩, ⟨some 53, .un .not (.tmp 52), some (49, false)⟩, ⟨some 54, .pick 49 (.const (.bool true)) (.tmp 53), none⟩, ⟨some 55, .mv (.tmp 54), none⟩, ⟨some 56, .fa 9 (.tmp 1), some (55, false)⟩, ⟨some 57, .ld 3 1 false (.tmp 56), some (55, false)⟩, ⟨some 58, .bin 3 .lss (.tmp 57) (.const (.int .i64 0)), some (55, false)⟩, ⟨some 59, .pick 55 (.const (.bool true)) (.tmp 58), none⟩, ⟨some 60, .mv (.tmp 59), none⟩, ⟨some 61, .fa 9 (.tmp 1), some (60, false)⟩, ⟨some 62, .ld 3 1 false (.tmp 61), some (60, false)⟩, ⟨some 63, .bin 3 .gtr (.tmp 62) (.const (.int .i64 40)), some (60, false)⟩, ⟨some 64, .pick 60 (.const (.bool true)) (.tmp 63), none⟩, ⟨some 65, .mv (.tmp 64), none⟩, ⟨some 66, .fa 10 (.tmp 1), some (65, false)⟩, ⟨some 67, .ld 119 1 false (.tmp 66), some (65, false)⟩, ⟨some 68, .len (.tmp 67), some (65, false)⟩, ⟨some 69, .bin 3 .eql (.tmp 68) (.const (.int .i64 0)), some (65, false)⟩, ⟨some 70, .pick 65 (.const (.bool true)) (.tmp 69), none⟩]
def Xn107_17 : C := regL [2] none [⟨some 2, .mv (.const (.bool false)), none⟩]
def Xn107_16 : C := .seq Xn107_17 .ret
def Xn107_15 : C := .cond (.tmp 70) Xn107_16 .skip
def Xn107_13 : C := .seq Xn107_14 Xn107_15
def Xn107_21 : C := regL [1, 4] none [⟨some 4, .mv (.const (.int .i64 0)), none⟩]
def Xn107_24 : C := regL [1, 4, 72, 73, 74] none [⟨some 71, .fa 10 (.tmp 1), none⟩, ⟨some 72, .ld 119 1 false (.tmp 71), none⟩, ⟨some 73, .len (.tmp 72), none⟩, ⟨some 74, .mv (.const (.int .i64 0)), none⟩]
def Xn107_28 : C := regL [1, 4, 72, 73, 74, 75] none [⟨some 75, .bin 3 .lss (.tmp 74) (.tmp 73), none⟩]
def Xn107_30 : C := .cond (.tmp 75) .skip (.exit 0)
def Xn107_36 : C := regL [1, 4, 6, 72, 73, 74] none [⟨some 76, .ia 3 (.tmp 72) (.tmp 74), none⟩, ⟨some 77, .ld 126 3 true (.tmp 76), none⟩, ⟨some 6, .alc 126 (.agg #[.int .i64 0, .int .i64 0, .int .i64 0]), none⟩, ⟨none, .st 126 3 (.tmp 6) (.tmp 77), none⟩]
def Xn107_39 : C := regL [1, 6, 72, 73, 74, 103] none [⟨some 78, .fa 0 (.tmp 6), none⟩, ⟨some 79, .ld 2 1 false (.tmp 78), none⟩, ⟨some 80, .mv (.tmp 4), none⟩, ⟨some 81, .fa 1 (.tmp 1), none⟩, ⟨some 82, .ld 2 1 false (.tmp 81), none⟩, ⟨some 83, .fa 4 (.tmp 1), none⟩, ⟨some 84, .ld 2 1 false (.tmp 83), none⟩, ⟨some 85, .bin 2 .add (.tmp 82) (.tmp 84), none⟩, ⟨some 86, .call 129 [.tmp 79, .tmp 80, .tmp 85], none⟩, ⟨some 87, .un .not (.tmp 86), none⟩, ⟨some 88, .mv (.tmp 87), none⟩, ⟨some 89, .fa 1 (.tmp 6), some (88, false)⟩, ⟨some 90, .ld 2 1 false (.tmp 89), some (88, false)⟩, ⟨some 91, .call 129 [.tmp 90, .const (.int .i64 1), .const (.int .i64 1048576)], some (88, false)⟩, ⟨some 92, .un .not (.tmp 91), some (88, false)⟩, ⟨some 93, .pick 88 (.const (.bool true)) (.tmp 92), none⟩, ⟨some 94, .mv (.tmp 93), none⟩, ⟨some 95, .fa 2 (.tmp 6), some (94, false)⟩, ⟨some 96, .ld 3 1 false (.tmp 95), some (94, false)⟩, ⟨some 97, .bin 3 .lss (.tmp 96) (.const (.int .i64 1)), some (94, false)⟩, ⟨some 98, .pick 94 (.const (.bool true)) (.tmp 97), none⟩, ⟨some 99, .mv (.tmp 98), none⟩, ⟨some 100, .fa 2 (.tmp 6), some (99, false)⟩, ⟨some 101, .ld 3 1 false (.tmp 100), some (99, false)⟩, ⟨some 102, .bin 3 .gtr (.tmp 101) (.const (.int .i64 16)), some (99, false)⟩, ⟨some 103, .pick 99 (.const (.bool true)) (.tmp 102), none⟩]
def Xn107_42 : C := regL [2] none [⟨some 2, .mv (.const (.bool false)), none⟩]
def Xn107_41 : C := .seq Xn107_42 .ret
def Xn107_40 : C := .cond (.tmp 103) Xn107_41 .skip
def Xn107_38 : C := .seq Xn107_39 Xn107_40
def Xn107_45 : C := regL [1, 4, 72, 73, 74] none [⟨some 104, .fa 0 (.tmp 6), none⟩, ⟨some 105, .ld 2 1 false (.tmp 104), none⟩, ⟨some 4, .mv (.tmp 105), none⟩]
def Xn107_37 : C := seqL [1, 6, 72, 73, 74] Xn107_38 Xn107_45
def Xn107_35 : C := .seq Xn107_36 Xn107_37
def Xn107_34 : C := .block 1 Xn107_35
def Xn107_46 : C := regL [1, 4, 72, 73, 74] none [⟨some 106, .bin 3 .add (.tmp 74) (.const (.int .i64 1)), none⟩, ⟨some 74, .mv (.tmp 106), none⟩]
def Xn107_33 : C := seqL [1, 4, 72, 73, 74] Xn107_34 Xn107_46
def Xn107_29 : C := seqL [1, 4, 72, 73, 74] Xn107_30 Xn107_33
def Xn107_27 : C := .seq Xn107_28 Xn107_29
/- carried: [4, 74] -/
def Xn107_26 : C := loopL [1, 4, 72, 73, 74] Xn107_27
def Xn107_25 : C := .block 0 Xn107_26
def Xn107_23 : C := .seq Xn107_24 Xn107_25
def Xn107_48 : C := regL [2] none [⟨some 2, .mv (.const (.bool true)), none⟩]
def Xn107_47 : C := .seq Xn107_48 .ret
def Xn107_22 : C := seqL [] Xn107_23 Xn107_47
def Xn107_20 : C := .seq Xn107_21 Xn107_22
def Xn107_12 : C := seqL [1] Xn107_13 Xn107_20
def Xn107_4 : C := seqL [1] Xn107_5 Xn107_12
def Xn107_2 : C := .seq Xn107_3 Xn107_4
def Xn107_0 : C := .seq Xn107_1 Xn107_2
theorem Xt107 : Text Try.prog 107 Xn107_0 107 1 [.t 2] := ⟨⟨Try.f107, [1], Try.func107, by kernel_rfl, by kernel_rfl, by kernel_rfl, by kernel_rfl⟩⟩
def Xn108_1 : C := regL [0, 1] none [⟨some 4, .mv (.const (.int .i64 0)), none⟩]
def Xn108_4 : C := regL [0, 1, 7, 8] none [⟨some 6, .mv (.tmp 0), none⟩, ⟨some 7, .len (.tmp 6), none⟩, ⟨some 8, .mv (.const (.int .i64 0)), none⟩]
def Xn108_8 : C := regL [0, 1, 7, 8, 9] none [⟨some 9, .bin 3 .lss (.tmp 8) (.tmp 7), none⟩]
def Xn108_10 : C := .cond (.tmp 9) .skip (.exit 0)
def Xn108_16 : C := regL [0, 1, 5, 7, 8] none [⟨some 10, .mv (.tmp 8), none⟩, ⟨some 5, .mv (.tmp 10), none⟩]
def Xn108_18 : C := regL [0, 1, 5, 7, 8, 16] none [⟨some 11, .mv (.tmp 1), none⟩, ⟨some 12, .mv (.tmp 0), none⟩, ⟨some 13, .mv (.tmp 5), none⟩, ⟨some 14, .ia 3 (.tmp 12) (.tmp 13), none⟩, ⟨some 15, .ld 126 3 true (.tmp 14), none⟩, ⟨some 16, .callv (.tmp 11) [.tmp 15], none⟩]
def Xn108_21 : C := regL [4] none [⟨some 17, .mv (.tmp 5), none⟩, ⟨some 4, .mv (.tmp 17), none⟩]
def Xn108_20 : C := .seq Xn108_21 .ret
def Xn108_19 : C := .cond (.tmp 16) Xn108_20 .skip
def Xn108_17 : C := .seq Xn108_18 Xn108_19
def Xn108_15 : C := .seq Xn108_16 Xn108_17
def Xn108_14 : C := .block 1 Xn108_15
def Xn108_24 : C := regL [0, 1, 7, 8] none [⟨some 18, .bin 3 .add (.tmp 8) (.const (.int .i64 1)), none⟩, ⟨some 8, .mv (.tmp 18), none⟩]
def Xn108_13 : C := seqL [0, 1, 7, 8] Xn108_14 Xn108_24
def Xn108_9 : C := seqL [0, 1, 7, 8] Xn108_10 Xn108_13
def Xn108_7 : C := .seq Xn108_8 Xn108_9
/- carried: [8] -/
def Xn108_6 : C := loopL [0, 1, 7, 8] Xn108_7
def Xn108_5 : C := .block 0 Xn108_6
def Xn108_3 : C := .seq Xn108_4 Xn108_5
def Xn108_26 : C := regL [4] none [⟨some 4, .mv (.const (.int .i64 (-1))), none⟩]
def Xn108_25 : C := .seq Xn108_26 .ret
def Xn108_2 : C := seqL [] Xn108_3 Xn108_25
def Xn108_0 : C := .seq Xn108_1 Xn108_2
theorem Xt108 : Text Try.prog 108 Xn108_0 19 2 [.t 4] := ⟨⟨Try.f108, [], Try.func108, by kernel_rfl, by kernel_rfl, by kernel_rfl, by kernel_rfl⟩⟩
def Xn109_1 : C := regL [0] none [⟨some 2, .mv (.const (.bool false)), none⟩]
def Xn109_4 : C := regL [0, 11] none [⟨some 4, .mv (.tmp 0), none⟩, ⟨some 5, .slen (.tmp 4), none⟩, ⟨some 6, .bin 3 .lss (.tmp 5) (.const (.int .i64 1)), none⟩, ⟨some 7, .mv (.tmp 6), none⟩, ⟨some 8, .mv (.tmp 0), some (7, false)⟩, ⟨some 9, .slen (.tmp 8), some (7, false)⟩, ⟨some 10, .bin 3 .gtr (.tmp 9) (.const (.int .i64 20)), some (7, false)⟩, ⟨some 11, .pick 7 (.const (.bool true)) (.tmp 10), none⟩]
def Xn109_7 : C := regL [2] none [⟨some 2, .mv (.const (.bool false)), none⟩]
def Xn109_6 : C := .seq Xn109_7 .ret
def Xn109_5 : C := .cond (.tmp 11) Xn109_6 .skip
def Xn109_3 : C := .seq Xn109_4 Xn109_5
def Xn109_12 : C := regL [0, 3] none [⟨some 3, .mv (.const (.int .i64 0)), none⟩]
def Xn109_17 : C := regL [0, 3, 15] none [⟨some 12, .mv (.tmp 3), none⟩, ⟨some 13, .mv (.tmp 0), none⟩, ⟨some 14, .slen (.tmp 13), none⟩, ⟨some 15, .bin 3 .lss (.tmp 12) (.tmp 14), none⟩]
def Xn109_18 : C := .cond (.tmp 15) .skip (.exit 0)
def Xn109_16 : C := .seq Xn109_17 Xn109_18
def Xn109_24 : C := regL [0, 3, 40] none [⟨some 18, .mv (.tmp 0), none⟩, ⟨some 19, .mv (.tmp 3), none⟩, ⟨some 20, .sidx (.tmp 18) (.tmp 19), none⟩, ⟨some 21, .bin 5 .geq (.tmp 20) (.const (.int .u8 97)), none⟩, ⟨some 22, .mv (.tmp 21), none⟩, ⟨some 23, .mv (.tmp 0), some (22, true)⟩, ⟨some 24, .mv (.tmp 3), some (22, true)⟩, ⟨some 25, .sidx (.tmp 23) (.tmp 24), some (22, true)⟩, ⟨some 26, .bin 5 .leq (.tmp 25) (.const (.int .u8 122)), some (22, true)⟩, ⟨some 27, .pick 22 (.tmp 26) (.const (.bool false)), none⟩, ⟨some 28, .mv (.tmp 27), none⟩, ⟨some 29, .mv (.tmp 0), some (28, false)⟩, ⟨some 30, .mv (.tmp 3), some (28, false)⟩, ⟨some 31, .sidx (.tmp 29) (.tmp 30), some (28, false)⟩, ⟨some 32, .bin 5 .geq (.tmp 31) (.const (.int .u8 48)), some (28, false)⟩, ⟨some 33, .mv (.tmp 32), some (28, false)⟩, ⟨some 34, .mv (.tmp 0), some (33, true)⟩, ⟨some 35, .mv (.tmp 3), some (33, true)⟩, ⟨some 36, .sidx (.tmp 34) (.tmp 35), some (33, true)⟩, ⟨some 37, .bin 5 .leq (.tmp 36) (.const (.int .u8 57)), some (33, true)⟩, ⟨some 38, .pick 33 (.tmp 37) (.const (.bool false)), some (28, false)⟩, ⟨some 39, .pick 28 (.const (.bool true)) (.tmp 38), none⟩, ⟨some 40, .un .not (.tmp 39), none⟩]
def Xn109_27 : C := regL [2] none [⟨some 2, .mv (.const (.bool false)), none⟩]
def Xn109_26 : C := .seq Xn109_27 .ret
def Xn109_25 : C := .cond (.tmp 40) Xn109_26 .skip
def Xn109_23 : C := .seq Xn109_24 Xn109_25
def Xn109_22 : C := .block 1 Xn109_23
def Xn109_30 : C := regL [0, 3] none [⟨some 16, .mv (.tmp 3), none⟩, ⟨some 17, .bin 3 .add (.tmp 16) (.const (.int .i64 1)), none⟩, ⟨some 3, .mv (.tmp 17), none⟩]
def Xn109_21 : C := seqL [0, 3] Xn109_22 Xn109_30
def Xn109_15 : C := seqL [0, 3] Xn109_16 Xn109_21
/- carried: [3] -/
def Xn109_14 : C := loopL [0, 3] Xn109_15
def Xn109_13 : C := .block 0 Xn109_14
def Xn109_11 : C := .seq Xn109_12 Xn109_13
def Xn109_32 : C := regL [2] none [⟨some 2, .mv (.const (.bool true)), none⟩]
def Xn109_31 : C := .seq Xn109_32 .ret
def Xn109_10 : C := seqL [] Xn109_11 Xn109_31
def Xn109_2 : C := seqL [0] Xn109_3 Xn109_10
def Xn109_0 : C := .seq Xn109_1 Xn109_2
theorem Xt109 : Text Try.prog 109 Xn109_0 41 1 [.t 2] := ⟨⟨Try.f109, [], Try.func109, by kernel_rfl, by kernel_rfl, by kernel_rfl, by kernel_rfl⟩⟩
def Xn110_1 : C := regL [1] none [⟨some 1, .box true 121 (.tmp 0), none⟩, ⟨some 2, .mv (.const (.bool false)), none⟩]
def Xn110_4 : C := regL [1, 52] none [⟨some 6, .fa 0 (.tmp 1), none⟩, ⟨some 7, .ld 3 1 false (.tmp 6), none⟩, ⟨some 8, .bin 3 .lss (.tmp 7) (.const (.int .i64 0)), none⟩, ⟨some 9, .mv (.tmp 8), none⟩, ⟨some 10, .fa 0 (.tmp 1), some (9, false)⟩, ⟨some 11, .ld 3 1 false (.tmp 10), some (9, false)⟩, ⟨some 12, .bin 3 .gtr (.tmp 11) (.const (.int .i64 3)), some (9, false)⟩, ⟨some 13, .pick 9 (.const (.bool true)) (.tmp 12), none⟩, ⟨some 14, .mv (.tmp 13), none⟩, ⟨some 15, .fa 1 (.tmp 1), some (14, false)⟩, ⟨some 16, .ld 2 1 false (.tmp 15), some (14, false)⟩, ⟨some 17, .call 130 [.tmp 16, .const (.int .i64 100), .const (.int .i64 131072)], some (14, false)⟩, ⟨some 18, .un .not (.tmp 17), some (14, false)⟩, ⟨some 19, .pick 14 (.const (.bool true)) (.tmp 18), none⟩, ⟨some 20, .mv (.tmp 19), none⟩, ⟨some 21, .fa 2 (.tmp 1), some (20, false)⟩, ⟨some 22, .ld 2 1 false (.tmp 21), some (20, false)⟩, ⟨some 23, .fa 1 (.tmp 1), some (20, false)⟩, ⟨some 24, .ld 2 1 false (.tmp 23), some (20, false)⟩, ⟨some 25, .un .neg (.tmp 24), some (20, false)⟩, ⟨some 26, .call 130 [.tmp 22, .tmp 25, .const (.int .i64 131072)], some (20, false)⟩, ⟨some 27, .un .not (.tmp 26), some (20, false)⟩, ⟨some 28, .pick 20 (.const (.bool true)) (.tmp 27), none⟩, ⟨some 29, .mv (.tmp 28), none⟩, ⟨some 30, .fa 3 (.tmp 1), some (29, false)⟩, ⟨some 31, .ld 2 1 false (.tmp 30), some (29, false)⟩, ⟨some 32, .call 130 [.tmp 31, .const (.int .i64 0), .const (.int .i64 131072)], some (29, false)⟩, ⟨some 33, .un .not (.tmp 32), some (29, false)⟩, ⟨some 34, .pick 29 (.const (.bool true)) (.tmp 33), none⟩, ⟨some 35, .mv (.tmp 34), none⟩, ⟨some 36, .fa 4 (.tmp 1), some (35, false)⟩, ⟨some 37, .ld 2 1 false (.tmp 36), some (35, false)⟩, ⟨some 38, .call 130 [.tmp 37, .const (.int .i64 0), .const (.int .i64 131072)], some (35, false)⟩, ⟨some 39, .un .not (.tmp 38), some (35, false)⟩, ⟨some 40, .pick 35 (.const (.bool true)) (.tmp 39), none⟩, ⟨some 41, .mv (.tmp 40), none⟩, ⟨some 42, .fa 5 (.tmp 1), some (41, false)⟩, ⟨some 43, .ld 2 1 false (.tmp 42), some (41, false)⟩, ⟨some 44, .call 130 [.tmp 43, .const (.int .i64 0), .const (.int .i64 131072)], some (41, false)⟩, ⟨some 45, .un .not (.tmp 44), some (41, false)⟩, ⟨some 46, .pick 41 (.const (.bool true)) (.tmp 45), none⟩, ⟨some 47, .mv (.tmp 46), none⟩, ⟨some 48, .fa 6 (.tmp 1), some (47, false)⟩, ⟨some 49, .ld 2 1 false (.tmp 48), some (47, false)⟩, ⟨some 50, .call 130 [.tmp 49, .const (.int .i64 0), .const (.int .i64 131072)], some (47, false)⟩, ⟨some 51, .un .not (.tmp 50), some (47, false)⟩, ⟨some 52, .pick 47 (.const (.bool true)) (.tmp 51), none⟩]
def Xn110_7 : C := regL [2] none [⟨some 2, .mv (.const (.bool false)), none⟩]
def Xn110_6 : C := .seq Xn110_7 .ret
def Xn110_5 : C := .cond (.tmp 52) Xn110_6 .skip
def Xn110_3 : C := .seq Xn110_4 Xn110_5
def Xn110_12 : C := regL [1, 78] none [⟨some 53, .fa 7 (.tmp 1), none⟩, ⟨some 54, .ld 2 1 false (.tmp 53), none⟩, ⟨some 55, .call 130 [.tmp 54, .const (.int .i64 1), .const (.int .i64 1048576)], none⟩, ⟨some 56, .un .not (.tmp 55), none⟩, ⟨some 57, .mv (.tmp 56), none⟩, ⟨some 58, .fa 8 (.tmp 1), some (57, false)⟩, ⟨some 59, .ld 2 1 false (.tmp 58), some (57, false)⟩, ⟨some 60, .call 130 [.tmp 59, .const (.int .i64 0), .const (.int .i64 900)], some (57, false)⟩, ⟨some 61, .un .not (.tmp 60), some (57, false)⟩, ⟨some 62, .pick 57 (.const (.bool true)) (.tmp 61), none⟩, ⟨some 63, .mv (.tmp 62), none⟩, ⟨some 64, .fa 9 (.tmp 1), some (63, false)⟩, ⟨some 65, .ld 3 1 false (.tmp 64), some (63, false)⟩, ⟨some 66, .bin 3 .lss (.tmp 65) (.const (.int .i64 0)), some (63, false)⟩, ⟨some 67, .pick 63 (.const (.bool true)) (.tmp 66), none⟩, ⟨some 68, .mv (.tmp 67), none⟩, ⟨some 69, .fa 9 (.tmp 1), some (68, false)⟩, ⟨some 70, .ld 3 1 false (.tmp 69), some (68, false)⟩, ⟨some 71, .bin 3 .gtr (.tmp 70) (.const (.int .i64 40)), some (68, false)⟩, ⟨some 72, .pick 68 (.const (.bool true)) (.tmp 71), none⟩, ⟨some 73, .mv (.tmp 72), none⟩, ⟨some 74, .fa 10 (.tmp 1), some (73, false)⟩, ⟨some 75, .ld 119 1 false (.tmp 74), some (73, false)⟩, ⟨some 76, .len (.tmp 75), some (73, false)⟩, ⟨some 77, .bin 3 .lss (.tmp 76) (.const (.int .i64 1)), some (73, false)⟩, ⟨some 78, .pick 73 (.const (.bool true)) (.tmp 77), none⟩]
def Xn110_15 : C := regL [2] none [⟨some 2, .mv (.const (.bool false)), none⟩]
def Xn110_14 : C := .seq Xn110_15 .ret
def Xn110_13 : C := .cond (.tmp 78) Xn110_14 .skip
def Xn110_11 : C := .seq Xn110_12 Xn110_13
def Xn110_19 : C := regL [1, 3] none [⟨some 3, .mv (.const (.int .i64 0)), none⟩]
def Xn110_22 : C := regL [1, 3, 4] none [⟨some 4, .mv (.const (.int .i64 0)), none⟩]
def Xn110_27 : C := regL [1, 3, 4, 83] none [⟨some 79, .mv (.tmp 4), none⟩, ⟨some 80, .fa 10 (.tmp 1), none⟩, ⟨some 81, .ld 119 1 false (.tmp 80), none⟩, ⟨some 82, .len (.tmp 81), none⟩, ⟨some 83, .bin 3 .lss (.tmp 79) (.tmp 82), none⟩]
def Xn110_28 : C := .cond (.tmp 83) .skip (.exit 0)
def Xn110_26 : C := .seq Xn110_27 Xn110_28
def Xn110_34 : C := regL [1, 3, 4, 5] none [⟨some 86, .fa 10 (.tmp 1), none⟩, ⟨some 87, .ld 119 1 false (.tmp 86), none⟩, ⟨some 88, .mv (.tmp 4), none⟩, ⟨some 89, .ia 3 (.tmp 87) (.tmp 88), none⟩, ⟨some 90, .ld 126 3 true (.tmp 89), none⟩, ⟨some 5, .alc 126 (.agg #[.int .i64 0, .int .i64 0, .int .i64 0]), none⟩, ⟨none, .st 126 3 (.tmp 5) (.tmp 90), none⟩]
def Xn110_37 : C := regL [1, 4, 5, 116] none [⟨some 91, .fa 0 (.tmp 5), none⟩, ⟨some 92, .ld 2 1 false (.tmp 91), none⟩, ⟨some 93, .mv (.tmp 3), none⟩, ⟨some 94, .fa 1 (.tmp 1), none⟩, ⟨some 95, .ld 2 1 false (.tmp 94), none⟩, ⟨some 96, .fa 4 (.tmp 1), none⟩, ⟨some 97, .ld 2 1 false (.tmp 96), none⟩, ⟨some 98, .bin 2 .add (.tmp 95) (.tmp 97), none⟩, ⟨some 99, .call 130 [.tmp 92, .tmp 93, .tmp 98], none⟩, ⟨some 100, .un .not (.tmp 99), none⟩, ⟨some 101, .mv (.tmp 100), none⟩, ⟨some 102, .fa 1 (.tmp 5), some (101, false)⟩, ⟨some 103, .ld 2 1 false (.tmp 102), some (101, false)⟩, ⟨some 104, .call 130 [.tmp 103, .const (.int .i64 1), .const (.int .i64 1048576)], some (101, false)⟩, ⟨some 105, .un .not (.tmp 104), some (101, false)⟩, ⟨some 106, .pick 101 (.const (.bool true)) (.tmp 105), none⟩, ⟨some 107, .mv (.tmp 106), none⟩, ⟨some 108, .fa 2 (.tmp 5), some (107, false)⟩, ⟨some 109, .ld 3 1 false (.tmp 108), some (107, false)⟩, ⟨some 110, .bin 3 .lss (.tmp 109) (.const (.int .i64 1)), some (107, false)⟩, ⟨some 111, .pick 107 (.const (.bool true)) (.tmp 110), none⟩, ⟨some 112, .mv (.tmp 111), none⟩, ⟨some 113, .fa 2 (.tmp 5), some (112, false)⟩, ⟨some 114, .ld 3 1 false (.tmp 113), some (112, false)⟩, ⟨some 115, .bin 3 .gtr (.tmp 114) (.const (.int .i64 16)), some (112, false)⟩, ⟨some 116, .pick 112 (.const (.bool true)) (.tmp 115), none⟩]
def Xn110_40 : C := regL [2] none [⟨some 2, .mv (.const (.bool false)), none⟩]
def Xn110_39 : C := .seq Xn110_40 .ret
def Xn110_38 : C := .cond (.tmp 116) Xn110_39 .skip
def Xn110_36 : C := .seq Xn110_37 Xn110_38
def Xn110_43 : C := regL [1, 3, 4] none [⟨some 117, .fa 0 (.tmp 5), none⟩, ⟨some 118, .ld 2 1 false (.tmp 117), none⟩, ⟨some 3, .mv (.tmp 118), none⟩]
def Xn110_35 : C := seqL [1, 4, 5] Xn110_36 Xn110_43
def Xn110_33 : C := .seq Xn110_34 Xn110_35
def Xn110_32 : C := .block 1 Xn110_33
def Xn110_44 : C := regL [1, 3, 4] none [⟨some 84, .mv (.tmp 4), none⟩, ⟨some 85, .bin 3 .add (.tmp 84) (.const (.int .i64 1)), none⟩, ⟨some 4, .mv (.tmp 85), none⟩]
def Xn110_31 : C := seqL [1, 3, 4] Xn110_32 Xn110_44
def Xn110_25 : C := seqL [1, 3, 4] Xn110_26 Xn110_31
/- carried: [3, 4] -/
def Xn110_24 : C := loopL [1, 3, 4] Xn110_25
def Xn110_23 : C := .block 0 Xn110_24
def Xn110_21 : C := .seq Xn110_22 Xn110_23
def Xn110_46 : C := regL [2] none [⟨some 2, .mv (.const (.bool true)), none⟩]
def Xn110_45 : C := .seq Xn110_46 .ret
def Xn110_20 : C := seqL [] Xn110_21 Xn110_45
def Xn110_18 : C := .seq Xn110_19 Xn110_20
def Xn110_10 : C := seqL [1] Xn110_11 Xn110_18
def Xn110_2 : C := seqL [1] Xn110_3 Xn110_10
def Xn110_0 : C := .seq Xn110_1 Xn110_2
theorem Xt110 : Text Try.prog 110 Xn110_0 119 1 [.t 2] := ⟨⟨Try.f110, [1], Try.func110, by kernel_rfl, by kernel_rfl, by kernel_rfl, by kernel_rfl⟩⟩
/- carried: [36] -/
/- carried: [47] -/
/- carried: [7] -/
/- carried: [3, 4] -/
/- carried: [5] -/
/- carried: [4] -/
/- carried: [3, 4] -/
/- carried: [11] -/
/- carried: [5] -/
/- carried: [8] -/
/- carried: [6, 7, 15] -/
/- carried: [37] -/
def Xn123_1 : C := regL [1] none [⟨some 1, .box true 89 (.tmp 0), none⟩, ⟨some 2, .mv (.const (.int .i64 0)), none⟩, ⟨some 3, .mv (.const (.bool false)), none⟩, ⟨some 4, .mv (.const (.bool false)), none⟩]
def Xn123_3 : C := regL [1, 4] none [⟨some 9, .fa 0 (.tmp 1), none⟩, ⟨some 10, .ld 2 1 false (.tmp 9), none⟩, ⟨some 11, .bin 2 .lss (.tmp 10) (.const (.int .i64 0)), none⟩, ⟨some 12, .fa 1 (.tmp 1), none⟩, ⟨some 13, .ld 2 1 false (.tmp 12), none⟩, ⟨some 14, .bin 2 .lss (.tmp 13) (.const (.int .i64 0)), none⟩, ⟨some 15, .eqb 4 true (.tmp 11) (.tmp 14), none⟩, ⟨some 4, .mv (.tmp 15), none⟩]
def Xn123_5 : C := regL [1, 4, 5, 6] none [⟨some 17, .fa 0 (.tmp 1), none⟩, ⟨some 18, .ld 2 1 false (.tmp 17), none⟩, ⟨some 19, .fa 0 (.tmp 1), none⟩, ⟨some 20, .ld 2 1 false (.tmp 19), none⟩, ⟨some 21, .un .neg (.tmp 20), none⟩, ⟨some 22, .mx [.tmp 18, .tmp 21], none⟩, ⟨some 23, .cvt .u64 (.tmp 22), none⟩, ⟨some 24, .fa 1 (.tmp 1), none⟩, ⟨some 25, .ld 2 1 false (.tmp 24), none⟩, ⟨some 26, .fa 1 (.tmp 1), none⟩, ⟨some 27, .ld 2 1 false (.tmp 26), none⟩, ⟨some 28, .un .neg (.tmp 27), none⟩, ⟨some 29, .mx [.tmp 25, .tmp 28], none⟩, ⟨some 30, .cvt .u64 (.tmp 29), none⟩, ⟨some 31, .call 143 [.tmp 23, .tmp 30], none⟩, ⟨some 16, .mv (.tmp 31), none⟩, ⟨some 32, .ext 0 (.tmp 16), none⟩, ⟨some 33, .ext 1 (.tmp 16), none⟩, ⟨some 5, .mv (.tmp 32), none⟩, ⟨some 6, .mv (.tmp 33), none⟩]
def Xn123_7 : C := regL [4, 7, 8] none [⟨some 35, .mv (.tmp 5), none⟩, ⟨some 36, .mv (.tmp 6), none⟩, ⟨some 37, .fa 2 (.tmp 1), none⟩, ⟨some 38, .ld 2 1 false (.tmp 37), none⟩, ⟨some 39, .cvt .u64 (.tmp 38), none⟩, ⟨some 40, .call 144 [.tmp 35, .tmp 36, .tmp 39], none⟩, ⟨some 34, .mv (.tmp 40), none⟩, ⟨some 41, .ext 0 (.tmp 34), none⟩, ⟨some 42, .ext 1 (.tmp 34), none⟩, ⟨some 7, .mv (.tmp 41), none⟩, ⟨some 8, .mv (.tmp 42), none⟩]
def Xn123_9 : C := regL [2, 3, 4] none [⟨some 43, .mv (.tmp 7), none⟩, ⟨some 44, .cvt .i64 (.tmp 43), none⟩, ⟨some 45, .mv (.tmp 8), none⟩, ⟨some 46, .bin 170 .gtr (.tmp 45) (.const (.int .u64 0)), none⟩, ⟨some 47, .mv (.tmp 4), none⟩, ⟨some 2, .mv (.tmp 44), none⟩, ⟨some 3, .mv (.tmp 46), none⟩, ⟨some 4, .mv (.tmp 47), none⟩]
def Xn123_8 : C := .seq Xn123_9 .ret
def Xn123_6 : C := .seq Xn123_7 Xn123_8
def Xn123_4 : C := .seq Xn123_5 Xn123_6
def Xn123_2 : C := .seq Xn123_3 Xn123_4
def Xn123_0 : C := .seq Xn123_1 Xn123_2
theorem Xt123 : Text Try.prog 123 Xn123_0 48 1 [.t 2, .t 3, .t 4] := ⟨⟨Try.f123, [1], Try.func123, by kernel_rfl, by kernel_rfl, by kernel_rfl, by kernel_rfl⟩⟩
def Xn124_1 : C := regL [0, 1, 2] none [⟨some 5, .mv (.const (.int .i64 0)), none⟩]
def Xn124_3 : C := regL [5] (some [0, 0, 3, 7, 0, 0, 48, 112, 255, 0, 0, 1536, 3584, 0, 0, 24576, 57344, 130560, 262143, 524287]) [⟨some 6, .mv (.tmp 0), none⟩, ⟨some 7, .iaa 3 3 (.tmp 2) (.const (.int .i64 1)), none⟩, ⟨some 8, .iaa 3 1 (.tmp 7) (.tmp 6), none⟩, ⟨some 9, .ld 2 1 false (.tmp 8), none⟩, ⟨some 10, .mv (.tmp 1), none⟩, ⟨some 11, .iaa 3 3 (.tmp 2) (.const (.int .i64 2)), none⟩, ⟨some 12, .iaa 3 1 (.tmp 11) (.tmp 10), none⟩, ⟨some 13, .ld 2 1 false (.tmp 12), none⟩, ⟨some 14, .bin 2 .mul (.tmp 9) (.tmp 13), none⟩, ⟨some 15, .mv (.tmp 0), none⟩, ⟨some 16, .iaa 3 3 (.tmp 2) (.const (.int .i64 2)), none⟩, ⟨some 17, .iaa 3 1 (.tmp 16) (.tmp 15), none⟩, ⟨some 18, .ld 2 1 false (.tmp 17), none⟩, ⟨some 19, .mv (.tmp 1), none⟩, ⟨some 20, .iaa 3 3 (.tmp 2) (.const (.int .i64 1)), none⟩, ⟨some 21, .iaa 3 1 (.tmp 20) (.tmp 19), none⟩, ⟨some 22, .ld 2 1 false (.tmp 21), none⟩, ⟨some 23, .bin 2 .mul (.tmp 18) (.tmp 22), none⟩, ⟨some 24, .bin 2 .sub (.tmp 14) (.tmp 23), none⟩, ⟨some 5, .mv (.tmp 24), none⟩]
def Xn124_2 : C := .seq Xn124_3 .ret
def Xn124_0 : C := .seq Xn124_1 Xn124_2
theorem Xt124 : Text Try.prog 124 Xn124_0 25 3 [.t 5] := ⟨⟨Try.f124, [], Try.func124, by kernel_rfl, by kernel_rfl, by kernel_rfl, by kernel_rfl⟩⟩
def Xn125_1 : C := regL [0, 1] none [⟨some 4, .mv (.const (.int .i64 0)), none⟩]
def Xn125_4 : C := regL [0, 1, 7, 8] none [⟨some 6, .mv (.tmp 0), none⟩, ⟨some 7, .len (.tmp 6), none⟩, ⟨some 8, .mv (.const (.int .i64 0)), none⟩]
def Xn125_8 : C := regL [0, 1, 7, 8, 9] none [⟨some 9, .bin 3 .lss (.tmp 8) (.tmp 7), none⟩]
def Xn125_10 : C := .cond (.tmp 9) .skip (.exit 0)
def Xn125_16 : C := regL [0, 1, 5, 7, 8] none [⟨some 10, .mv (.tmp 8), none⟩, ⟨some 5, .mv (.tmp 10), none⟩]
def Xn125_18 : C := regL [0, 1, 5, 7, 8, 16] none [⟨some 11, .mv (.tmp 1), none⟩, ⟨some 12, .mv (.tmp 0), none⟩, ⟨some 13, .mv (.tmp 5), none⟩, ⟨some 14, .ia 11 (.tmp 12) (.tmp 13), none⟩, ⟨some 15, .ld 121 11 true (.tmp 14), none⟩, ⟨some 16, .callv (.tmp 11) [.tmp 15], none⟩]
def Xn125_21 : C := regL [4] none [⟨some 17, .mv (.tmp 5), none⟩, ⟨some 4, .mv (.tmp 17), none⟩]
def Xn125_20 : C := .seq Xn125_21 .ret
def Xn125_19 : C := .cond (.tmp 16) Xn125_20 .skip
def Xn125_17 : C := .seq Xn125_18 Xn125_19
def Xn125_15 : C := .seq Xn125_16 Xn125_17
def Xn125_14 : C := .block 1 Xn125_15
def Xn125_24 : C := regL [0, 1, 7, 8] none [⟨some 18, .bin 3 .add (.tmp 8) (.const (.int .i64 1)), none⟩, ⟨some 8, .mv (.tmp 18), none⟩]
def Xn125_13 : C := seqL [0, 1, 7, 8] Xn125_14 Xn125_24
def Xn125_9 : C := seqL [0, 1, 7, 8] Xn125_10 Xn125_13
def Xn125_7 : C := .seq Xn125_8 Xn125_9
/- carried: [8] -/
def Xn125_6 : C := loopL [0, 1, 7, 8] Xn125_7
def Xn125_5 : C := .block 0 Xn125_6
def Xn125_3 : C := .seq Xn125_4 Xn125_5
def Xn125_26 : C := regL [4] none [⟨some 4, .mv (.const (.int .i64 (-1))), none⟩]
def Xn125_25 : C := .seq Xn125_26 .ret
def Xn125_2 : C := seqL [] Xn125_3 Xn125_25
def Xn125_0 : C := .seq Xn125_1 Xn125_2
theorem Xt125 : Text Try.prog 125 Xn125_0 19 2 [.t 4] := ⟨⟨Try.f125, [], Try.func125, by kernel_rfl, by kernel_rfl, by kernel_rfl, by kernel_rfl⟩⟩
def Xn126_1 : C := regL [0, 1] none [⟨some 4, .mv (.const (.bool false)), none⟩]
def Xn126_3 : C := regL [4] none [⟨some 5, .mv (.tmp 0), none⟩, ⟨some 6, .mv (.tmp 1), none⟩, ⟨some 7, .call 145 [.tmp 5, .tmp 6], none⟩, ⟨some 8, .bin 3 .geq (.tmp 7) (.const (.int .i64 0)), none⟩, ⟨some 4, .mv (.tmp 8), none⟩]
def Xn126_2 : C := .seq Xn126_3 .ret
def Xn126_0 : C := .seq Xn126_1 Xn126_2
theorem Xt126 : Text Try.prog 126 Xn126_0 9 2 [.t 4] := ⟨⟨Try.f126, [], Try.func126, by kernel_rfl, by kernel_rfl, by kernel_rfl, by kernel_rfl⟩⟩
def Xn127_1 : C := regL [0] none [⟨some 2, .mv (.const (.bool false)), none⟩]
def Xn127_3 : C := regL [2] none [⟨some 3, .mv (.tmp 0), none⟩, ⟨some 4, .bin 21 .lss (.tmp 3) (.const (.int .i32 97)), none⟩, ⟨some 5, .mv (.tmp 4), none⟩, ⟨some 6, .mv (.tmp 0), some (5, false)⟩, ⟨some 7, .bin 21 .gtr (.tmp 6) (.const (.int .i32 122)), some (5, false)⟩, ⟨some 8, .pick 5 (.const (.bool true)) (.tmp 7), none⟩, ⟨some 9, .mv (.tmp 8), none⟩, ⟨some 10, .mv (.tmp 0), some (9, true)⟩, ⟨some 11, .bin 21 .lss (.tmp 10) (.const (.int .i32 48)), some (9, true)⟩, ⟨some 12, .mv (.tmp 11), some (9, true)⟩, ⟨some 13, .mv (.tmp 0), some (12, false)⟩, ⟨some 14, .bin 21 .gtr (.tmp 13) (.const (.int .i32 57)), some (12, false)⟩, ⟨some 15, .pick 12 (.const (.bool true)) (.tmp 14), some (9, true)⟩, ⟨some 16, .pick 9 (.tmp 15) (.const (.bool false)), none⟩, ⟨some 2, .mv (.tmp 16), none⟩]
def Xn127_2 : C := .seq Xn127_3 .ret
def Xn127_0 : C := .seq Xn127_1 Xn127_2
theorem Xt127 : Text Try.prog 127 Xn127_0 17 1 [.t 2] := ⟨⟨Try.f127, [], Try.func127, by kernel_rfl, by kernel_rfl, by kernel_rfl, by kernel_rfl⟩⟩
def Xn128_1 : C := regL [0] none [⟨some 2, .mv (.const (.bool false)), none⟩]
def Xn128_3 : C := regL [2] none [⟨some 3, .mv (.tmp 0), none⟩, ⟨some 4, .call 129 [.tmp 3, .const (.int .i64 0), .const (.int .i64 131072)], none⟩, ⟨some 5, .un .not (.tmp 4), none⟩, ⟨some 2, .mv (.tmp 5), none⟩]
def Xn128_2 : C := .seq Xn128_3 .ret
def Xn128_0 : C := .seq Xn128_1 Xn128_2
theorem Xt128 : Text Try.prog 128 Xn128_0 6 1 [.t 2] := ⟨⟨Try.f128, [], Try.func128, by kernel_rfl, by kernel_rfl, by kernel_rfl, by kernel_rfl⟩⟩
def Xn129_1 : C := regL [0, 1, 2] none [⟨some 6, .mv (.const (.bool false)), none⟩]
def Xn129_3 : C := regL [6] none [⟨some 7, .mv (.tmp 1), none⟩, ⟨some 8, .mv (.tmp 0), none⟩, ⟨some 9, .bin 2 .leq (.tmp 7) (.tmp 8), none⟩, ⟨some 10, .mv (.tmp 9), none⟩, ⟨some 11, .mv (.tmp 0), some (10, true)⟩, ⟨some 12, .mv (.tmp 2), some (10, true)⟩, ⟨some 13, .bin 2 .leq (.tmp 11) (.tmp 12), some (10, true)⟩, ⟨some 14, .pick 10 (.tmp 13) (.const (.bool false)), none⟩, ⟨some 6, .mv (.tmp 14), none⟩]
def Xn129_2 : C := .seq Xn129_3 .ret
def Xn129_0 : C := .seq Xn129_1 Xn129_2
theorem Xt129 : Text Try.prog 129 Xn129_0 15 3 [.t 6] := ⟨⟨Try.f129, [], Try.func129, by kernel_rfl, by kernel_rfl, by kernel_rfl, by kernel_rfl⟩⟩
def Xn130_1 : C := regL [0, 1, 2] none [⟨some 6, .mv (.const (.bool false)), none⟩]
def Xn130_3 : C := regL [6] none [⟨some 7, .mv (.tmp 0), none⟩, ⟨some 8, .mv (.tmp 1), none⟩, ⟨some 9, .bin 2 .geq (.tmp 7) (.tmp 8), none⟩, ⟨some 10, .mv (.tmp 9), none⟩, ⟨some 11, .mv (.tmp 0), some (10, true)⟩, ⟨some 12, .mv (.tmp 2), some (10, true)⟩, ⟨some 13, .bin 2 .leq (.tmp 11) (.tmp 12), some (10, true)⟩, ⟨some 14, .pick 10 (.tmp 13) (.const (.bool false)), none⟩, ⟨some 6, .mv (.tmp 14), none⟩]
def Xn130_2 : C := .seq Xn130_3 .ret
def Xn130_0 : C := .seq Xn130_1 Xn130_2
theorem Xt130 : Text Try.prog 130 Xn130_0 15 3 [.t 6] := ⟨⟨Try.f130, [], Try.func130, by kernel_rfl, by kernel_rfl, by kernel_rfl, by kernel_rfl⟩⟩
/- carried: [] -/
/- carried: [22] -/
end Go.Proofs.Ytfkjdjlcaojedaa

/- Print of my own generator (wip/sy/gen2.lean). -/
namespace Go.Proofs.Ytfkjdjlcaojedaa
open Go Sy
set_option maxRecDepth 100000
/- carried: [17] -/
/- carried: [3] -/
/- carried: [7, 8] -/
/- carried: [7, 8] -/
/- carried: [6] -/
def Xn143_1 : C := regL [0, 1] none [⟨some 4, .mv (.const (.int .u64 0)), none⟩, ⟨some 5, .mv (.const (.int .u64 0)), none⟩]
def Xn143_3 : C := regL [0, 1, 6] none [⟨some 14, .mv (.tmp 0), none⟩, ⟨some 15, .bin 170 .and (.tmp 14) (.const (.int .u64 4294967295)), none⟩, ⟨some 6, .mv (.tmp 15), none⟩]
def Xn143_5 : C := regL [0, 1, 6, 7] none [⟨some 16, .mv (.tmp 0), none⟩, ⟨some 17, .bin 170 .shr (.tmp 16) (.const (.int .u64 32)), none⟩, ⟨some 7, .mv (.tmp 17), none⟩]
def Xn143_7 : C := regL [0, 1, 6, 7, 8] none [⟨some 18, .mv (.tmp 1), none⟩, ⟨some 19, .bin 170 .and (.tmp 18) (.const (.int .u64 4294967295)), none⟩, ⟨some 8, .mv (.tmp 19), none⟩]
def Xn143_9 : C := regL [0, 1, 6, 7, 8, 9] none [⟨some 20, .mv (.tmp 1), none⟩, ⟨some 21, .bin 170 .shr (.tmp 20) (.const (.int .u64 32)), none⟩, ⟨some 9, .mv (.tmp 21), none⟩]
def Xn143_11 : C := regL [0, 1, 6, 7, 8, 9, 10] none [⟨some 22, .mv (.tmp 6), none⟩, ⟨some 23, .mv (.tmp 8), none⟩, ⟨some 24, .bin 170 .mul (.tmp 22) (.tmp 23), none⟩, ⟨some 10, .mv (.tmp 24), none⟩]
def Xn143_13 : C := regL [0, 1, 6, 7, 9, 11] none [⟨some 25, .mv (.tmp 7), none⟩, ⟨some 26, .mv (.tmp 8), none⟩, ⟨some 27, .bin 170 .mul (.tmp 25) (.tmp 26), none⟩, ⟨some 28, .mv (.tmp 10), none⟩, ⟨some 29, .bin 170 .shr (.tmp 28) (.const (.int .u64 32)), none⟩, ⟨some 30, .bin 170 .add (.tmp 27) (.tmp 29), none⟩, ⟨some 11, .mv (.tmp 30), none⟩]
def Xn143_15 : C := regL [0, 1, 6, 7, 9, 11, 12] none [⟨some 31, .mv (.tmp 11), none⟩, ⟨some 32, .bin 170 .and (.tmp 31) (.const (.int .u64 4294967295)), none⟩, ⟨some 12, .mv (.tmp 32), none⟩]
def Xn143_17 : C := regL [0, 1, 6, 7, 9, 12, 13] none [⟨some 33, .mv (.tmp 11), none⟩, ⟨some 34, .bin 170 .shr (.tmp 33) (.const (.int .u64 32)), none⟩, ⟨some 13, .mv (.tmp 34), none⟩]
def Xn143_19 : C := regL [0, 1, 7, 9, 12, 13] none [⟨some 35, .mv (.tmp 12), none⟩, ⟨some 36, .mv (.tmp 6), none⟩, ⟨some 37, .mv (.tmp 9), none⟩, ⟨some 38, .bin 170 .mul (.tmp 36) (.tmp 37), none⟩, ⟨some 39, .bin 170 .add (.tmp 35) (.tmp 38), none⟩, ⟨some 12, .mv (.tmp 39), none⟩]
def Xn143_21 : C := regL [0, 1, 4] none [⟨some 40, .mv (.tmp 7), none⟩, ⟨some 41, .mv (.tmp 9), none⟩, ⟨some 42, .bin 170 .mul (.tmp 40) (.tmp 41), none⟩, ⟨some 43, .mv (.tmp 13), none⟩, ⟨some 44, .bin 170 .add (.tmp 42) (.tmp 43), none⟩, ⟨some 45, .mv (.tmp 12), none⟩, ⟨some 46, .bin 170 .shr (.tmp 45) (.const (.int .u64 32)), none⟩, ⟨some 47, .bin 170 .add (.tmp 44) (.tmp 46), none⟩, ⟨some 4, .mv (.tmp 47), none⟩]
def Xn143_23 : C := regL [4, 5] none [⟨some 48, .mv (.tmp 0), none⟩, ⟨some 49, .mv (.tmp 1), none⟩, ⟨some 50, .bin 170 .mul (.tmp 48) (.tmp 49), none⟩, ⟨some 5, .mv (.tmp 50), none⟩]
def Xn143_22 : C := .seq Xn143_23 .ret
def Xn143_20 : C := .seq Xn143_21 Xn143_22
def Xn143_18 : C := .seq Xn143_19 Xn143_20
def Xn143_16 : C := .seq Xn143_17 Xn143_18
def Xn143_14 : C := .seq Xn143_15 Xn143_16
def Xn143_12 : C := .seq Xn143_13 Xn143_14
def Xn143_10 : C := .seq Xn143_11 Xn143_12
def Xn143_8 : C := .seq Xn143_9 Xn143_10
def Xn143_6 : C := .seq Xn143_7 Xn143_8
def Xn143_4 : C := .seq Xn143_5 Xn143_6
def Xn143_2 : C := .seq Xn143_3 Xn143_4
def Xn143_0 : C := .seq Xn143_1 Xn143_2
theorem Xt143 : Text Try.prog 143 Xn143_0 51 2 [.t 4, .t 5] := ⟨⟨Try.f143, [], Try.func143, by kernel_rfl, by kernel_rfl, by kernel_rfl, by kernel_rfl⟩⟩
def Xn144_1 : C := regL [0, 1, 2] none [⟨some 6, .mv (.const (.int .u64 0)), none⟩, ⟨some 7, .mv (.const (.int .u64 0)), none⟩]
def Xn144_4 : C := regL [0, 1, 2, 20] none [⟨some 19, .mv (.tmp 2), none⟩, ⟨some 20, .bin 170 .eql (.tmp 19) (.const (.int .u64 0)), none⟩]
def Xn144_6 : C := regL [0, 1, 2] none [⟨some 21, .ld 183 1 false (.global 0), none⟩, ⟨none, .dead, none⟩]
def Xn144_5 : C := .cond (.tmp 20) Xn144_6 .skip
def Xn144_3 : C := .seq Xn144_4 Xn144_5
def Xn144_10 : C := regL [0, 1, 2, 24] none [⟨some 22, .mv (.tmp 2), none⟩, ⟨some 23, .mv (.tmp 0), none⟩, ⟨some 24, .bin 170 .leq (.tmp 22) (.tmp 23), none⟩]
def Xn144_12 : C := regL [0, 1, 2] none [⟨some 25, .ld 183 1 false (.global 1), none⟩, ⟨none, .dead, none⟩]
def Xn144_11 : C := .cond (.tmp 24) Xn144_12 .skip
def Xn144_9 : C := .seq Xn144_10 Xn144_11
def Xn144_16 : C := regL [0, 1, 2, 27] none [⟨some 26, .mv (.tmp 0), none⟩, ⟨some 27, .bin 170 .eql (.tmp 26) (.const (.int .u64 0)), none⟩]
def Xn144_19 : C := regL [6, 7] (some [0, 0, 3, 0, 0, 24, 7, 127]) [⟨some 28, .mv (.tmp 1), none⟩, ⟨some 29, .mv (.tmp 2), none⟩, ⟨some 30, .bin 170 .quo (.tmp 28) (.tmp 29), none⟩, ⟨some 31, .mv (.tmp 1), none⟩, ⟨some 32, .mv (.tmp 2), none⟩, ⟨some 33, .bin 170 .rem (.tmp 31) (.tmp 32), none⟩, ⟨some 6, .mv (.tmp 30), none⟩, ⟨some 7, .mv (.tmp 33), none⟩]
def Xn144_18 : C := .seq Xn144_19 .ret
def Xn144_17 : C := .cond (.tmp 27) Xn144_18 .skip
def Xn144_15 : C := .seq Xn144_16 Xn144_17
def Xn144_23 : C := regL [0, 1, 2, 8] none [⟨some 34, .mv (.tmp 2), none⟩, ⟨some 35, .call 150 [.tmp 34], none⟩, ⟨some 36, .cvt .u64 (.tmp 35), none⟩, ⟨some 8, .mv (.tmp 36), none⟩]
def Xn144_25 : C := regL [0, 1, 2, 8] none [⟨some 37, .mv (.tmp 2), none⟩, ⟨some 38, .mv (.tmp 8), none⟩, ⟨some 39, .bin 170 .shl (.tmp 37) (.tmp 38), none⟩, ⟨some 2, .mv (.tmp 39), none⟩]
def Xn144_27 : C := regL [0, 1, 2, 8, 9] none [⟨some 40, .mv (.tmp 2), none⟩, ⟨some 41, .bin 170 .shr (.tmp 40) (.const (.int .u64 32)), none⟩, ⟨some 9, .mv (.tmp 41), none⟩]
def Xn144_29 : C := regL [0, 1, 2, 8, 9, 10] none [⟨some 42, .mv (.tmp 2), none⟩, ⟨some 43, .bin 170 .and (.tmp 42) (.const (.int .u64 4294967295)), none⟩, ⟨some 10, .mv (.tmp 43), none⟩]
def Xn144_31 : C := regL [1, 2, 8, 9, 10, 11] none [⟨some 44, .mv (.tmp 0), none⟩, ⟨some 45, .mv (.tmp 8), none⟩, ⟨some 46, .bin 170 .shl (.tmp 44) (.tmp 45), none⟩, ⟨some 47, .mv (.tmp 1), none⟩, ⟨some 48, .mv (.tmp 8), none⟩, ⟨some 49, .bin 157 .sub (.const (.int .u64 64)) (.tmp 48), none⟩, ⟨some 50, .bin 170 .shr (.tmp 47) (.tmp 49), none⟩, ⟨some 51, .bin 170 .or (.tmp 46) (.tmp 50), none⟩, ⟨some 11, .mv (.tmp 51), none⟩]
def Xn144_33 : C := regL [2, 8, 9, 10, 11, 12] none [⟨some 52, .mv (.tmp 1), none⟩, ⟨some 53, .mv (.tmp 8), none⟩, ⟨some 54, .bin 170 .shl (.tmp 52) (.tmp 53), none⟩, ⟨some 12, .mv (.tmp 54), none⟩]
def Xn144_35 : C := regL [2, 8, 9, 10, 11, 12, 13] none [⟨some 55, .mv (.tmp 12), none⟩, ⟨some 56, .bin 170 .shr (.tmp 55) (.const (.int .u64 32)), none⟩, ⟨some 13, .mv (.tmp 56), none⟩]
def Xn144_37 : C := regL [2, 8, 9, 10, 11, 13, 14] none [⟨some 57, .mv (.tmp 12), none⟩, ⟨some 58, .bin 170 .and (.tmp 57) (.const (.int .u64 4294967295)), none⟩, ⟨some 14, .mv (.tmp 58), none⟩]
def Xn144_39 : C := regL [2, 8, 9, 10, 11, 13, 14, 15] none [⟨some 59, .mv (.tmp 11), none⟩, ⟨some 60, .mv (.tmp 9), none⟩, ⟨some 61, .bin 170 .quo (.tmp 59) (.tmp 60), none⟩, ⟨some 15, .mv (.tmp 61), none⟩]
def Xn144_41 : C := regL [2, 8, 9, 10, 11, 13, 14, 15, 16] none [⟨some 62, .mv (.tmp 11), none⟩, ⟨some 63, .mv (.tmp 15), none⟩, ⟨some 64, .mv (.tmp 9), none⟩, ⟨some 65, .bin 170 .mul (.tmp 63) (.tmp 64), none⟩, ⟨some 66, .bin 170 .sub (.tmp 62) (.tmp 65), none⟩, ⟨some 16, .mv (.tmp 66), none⟩]
def Xn144_47 : C := regL [2, 8, 9, 10, 11, 13, 14, 15, 16, 78] none [⟨some 67, .mv (.tmp 15), none⟩, ⟨some 68, .bin 170 .geq (.tmp 67) (.const (.int .u64 4294967296)), none⟩, ⟨some 69, .mv (.tmp 68), none⟩, ⟨some 70, .mv (.tmp 15), some (69, false)⟩, ⟨some 71, .mv (.tmp 10), some (69, false)⟩, ⟨some 72, .bin 170 .mul (.tmp 70) (.tmp 71), some (69, false)⟩, ⟨some 73, .mv (.tmp 16), some (69, false)⟩, ⟨some 74, .bin 170 .mul (.const (.int .u64 4294967296)) (.tmp 73), some (69, false)⟩, ⟨some 75, .mv (.tmp 13), some (69, false)⟩, ⟨some 76, .bin 170 .add (.tmp 74) (.tmp 75), some (69, false)⟩, ⟨some 77, .bin 170 .gtr (.tmp 72) (.tmp 76), some (69, false)⟩, ⟨some 78, .pick 69 (.const (.bool true)) (.tmp 77), none⟩]
def Xn144_48 : C := .cond (.tmp 78) .skip (.exit 0)
def Xn144_46 : C := .seq Xn144_47 Xn144_48
def Xn144_53 : C := regL [2, 8, 9, 10, 11, 13, 14, 15, 16] none [⟨some 79, .mv (.tmp 15), none⟩, ⟨some 80, .bin 170 .sub (.tmp 79) (.const (.int .u64 1)), none⟩, ⟨some 15, .mv (.tmp 80), none⟩]
def Xn144_55 : C := regL [2, 8, 9, 10, 11, 13, 14, 15, 16] none [⟨some 81, .mv (.tmp 16), none⟩, ⟨some 82, .mv (.tmp 9), none⟩, ⟨some 83, .bin 170 .add (.tmp 81) (.tmp 82), none⟩, ⟨some 16, .mv (.tmp 83), none⟩]
def Xn144_57 : C := regL [2, 8, 9, 10, 11, 13, 14, 15, 16, 85] none [⟨some 84, .mv (.tmp 16), none⟩, ⟨some 85, .bin 170 .geq (.tmp 84) (.const (.int .u64 4294967296)), none⟩]
def Xn144_58 : C := .cond (.tmp 85) (.exit 0) .skip
def Xn144_56 : C := .seq Xn144_57 Xn144_58
def Xn144_54 : C := .seq Xn144_55 Xn144_56
def Xn144_52 : C := .seq Xn144_53 Xn144_54
def Xn144_51 : C := .block 1 Xn144_52
def Xn144_45 : C := seqL [2, 8, 9, 10, 11, 13, 14, 15, 16] Xn144_46 Xn144_51
/- carried: [15, 16] -/
def Xn144_44 : C := loopL [2, 8, 9, 10, 11, 13, 14, 15, 16] Xn144_45
def Xn144_43 : C := .block 0 Xn144_44
def Xn144_62 : C := regL [2, 8, 9, 10, 14, 15, 17] none [⟨some 86, .mv (.tmp 11), none⟩, ⟨some 87, .bin 170 .mul (.tmp 86) (.const (.int .u64 4294967296)), none⟩, ⟨some 88, .mv (.tmp 13), none⟩, ⟨some 89, .bin 170 .add (.tmp 87) (.tmp 88), none⟩, ⟨some 90, .mv (.tmp 15), none⟩, ⟨some 91, .mv (.tmp 2), none⟩, ⟨some 92, .bin 170 .mul (.tmp 90) (.tmp 91), none⟩, ⟨some 93, .bin 170 .sub (.tmp 89) (.tmp 92), none⟩, ⟨some 17, .mv (.tmp 93), none⟩]
def Xn144_64 : C := regL [2, 8, 9, 10, 14, 15, 17, 18] none [⟨some 94, .mv (.tmp 17), none⟩, ⟨some 95, .mv (.tmp 9), none⟩, ⟨some 96, .bin 170 .quo (.tmp 94) (.tmp 95), none⟩, ⟨some 18, .mv (.tmp 96), none⟩]
def Xn144_66 : C := regL [2, 8, 9, 10, 14, 15, 16, 17, 18] none [⟨some 97, .mv (.tmp 17), none⟩, ⟨some 98, .mv (.tmp 18), none⟩, ⟨some 99, .mv (.tmp 9), none⟩, ⟨some 100, .bin 170 .mul (.tmp 98) (.tmp 99), none⟩, ⟨some 101, .bin 170 .sub (.tmp 97) (.tmp 100), none⟩, ⟨some 16, .mv (.tmp 101), none⟩]
def Xn144_72 : C := regL [2, 8, 9, 10, 14, 15, 16, 17, 18, 113] none [⟨some 102, .mv (.tmp 18), none⟩, ⟨some 103, .bin 170 .geq (.tmp 102) (.const (.int .u64 4294967296)), none⟩, ⟨some 104, .mv (.tmp 103), none⟩, ⟨some 105, .mv (.tmp 18), some (104, false)⟩, ⟨some 106, .mv (.tmp 10), some (104, false)⟩, ⟨some 107, .bin 170 .mul (.tmp 105) (.tmp 106), some (104, false)⟩, ⟨some 108, .mv (.tmp 16), some (104, false)⟩, ⟨some 109, .bin 170 .mul (.const (.int .u64 4294967296)) (.tmp 108), some (104, false)⟩, ⟨some 110, .mv (.tmp 14), some (104, false)⟩, ⟨some 111, .bin 170 .add (.tmp 109) (.tmp 110), some (104, false)⟩, ⟨some 112, .bin 170 .gtr (.tmp 107) (.tmp 111), some (104, false)⟩, ⟨some 113, .pick 104 (.const (.bool true)) (.tmp 112), none⟩]
def Xn144_73 : C := .cond (.tmp 113) .skip (.exit 2)
def Xn144_71 : C := .seq Xn144_72 Xn144_73
def Xn144_78 : C := regL [2, 8, 9, 10, 14, 15, 16, 17, 18] none [⟨some 114, .mv (.tmp 18), none⟩, ⟨some 115, .bin 170 .sub (.tmp 114) (.const (.int .u64 1)), none⟩, ⟨some 18, .mv (.tmp 115), none⟩]
def Xn144_80 : C := regL [2, 8, 9, 10, 14, 15, 16, 17, 18] none [⟨some 116, .mv (.tmp 16), none⟩, ⟨some 117, .mv (.tmp 9), none⟩, ⟨some 118, .bin 170 .add (.tmp 116) (.tmp 117), none⟩, ⟨some 16, .mv (.tmp 118), none⟩]
def Xn144_82 : C := regL [2, 8, 9, 10, 14, 15, 16, 17, 18, 120] none [⟨some 119, .mv (.tmp 16), none⟩, ⟨some 120, .bin 170 .geq (.tmp 119) (.const (.int .u64 4294967296)), none⟩]
def Xn144_83 : C := .cond (.tmp 120) (.exit 2) .skip
def Xn144_81 : C := .seq Xn144_82 Xn144_83
def Xn144_79 : C := .seq Xn144_80 Xn144_81
def Xn144_77 : C := .seq Xn144_78 Xn144_79
def Xn144_76 : C := .block 3 Xn144_77
def Xn144_70 : C := seqL [2, 8, 9, 10, 14, 15, 16, 17, 18] Xn144_71 Xn144_76
/- carried: [16, 18] -/
def Xn144_69 : C := loopL [2, 8, 9, 10, 14, 15, 16, 17, 18] Xn144_70
def Xn144_68 : C := .block 2 Xn144_69
def Xn144_87 : C := regL [6, 7] none [⟨some 121, .mv (.tmp 15), none⟩, ⟨some 122, .bin 170 .mul (.tmp 121) (.const (.int .u64 4294967296)), none⟩, ⟨some 123, .mv (.tmp 18), none⟩, ⟨some 124, .bin 170 .add (.tmp 122) (.tmp 123), none⟩, ⟨some 125, .mv (.tmp 17), none⟩, ⟨some 126, .bin 170 .mul (.tmp 125) (.const (.int .u64 4294967296)), none⟩, ⟨some 127, .mv (.tmp 14), none⟩, ⟨some 128, .bin 170 .add (.tmp 126) (.tmp 127), none⟩, ⟨some 129, .mv (.tmp 18), none⟩, ⟨some 130, .mv (.tmp 2), none⟩, ⟨some 131, .bin 170 .mul (.tmp 129) (.tmp 130), none⟩, ⟨some 132, .bin 170 .sub (.tmp 128) (.tmp 131), none⟩, ⟨some 133, .mv (.tmp 8), none⟩, ⟨some 134, .bin 170 .shr (.tmp 132) (.tmp 133), none⟩, ⟨some 6, .mv (.tmp 124), none⟩, ⟨some 7, .mv (.tmp 134), none⟩]
def Xn144_86 : C := .seq Xn144_87 .ret
def Xn144_67 : C := seqL [2, 8, 14, 15, 17, 18] Xn144_68 Xn144_86
def Xn144_65 : C := .seq Xn144_66 Xn144_67
def Xn144_63 : C := .seq Xn144_64 Xn144_65
def Xn144_61 : C := .seq Xn144_62 Xn144_63
def Xn144_42 : C := seqL [2, 8, 9, 10, 11, 13, 14, 15] Xn144_43 Xn144_61
def Xn144_40 : C := .seq Xn144_41 Xn144_42
def Xn144_38 : C := .seq Xn144_39 Xn144_40
def Xn144_36 : C := .seq Xn144_37 Xn144_38
def Xn144_34 : C := .seq Xn144_35 Xn144_36
def Xn144_32 : C := .seq Xn144_33 Xn144_34
def Xn144_30 : C := .seq Xn144_31 Xn144_32
def Xn144_28 : C := .seq Xn144_29 Xn144_30
def Xn144_26 : C := .seq Xn144_27 Xn144_28
def Xn144_24 : C := .seq Xn144_25 Xn144_26
def Xn144_22 : C := .seq Xn144_23 Xn144_24
def Xn144_14 : C := seqL [0, 1, 2] Xn144_15 Xn144_22
def Xn144_8 : C := seqL [0, 1, 2] Xn144_9 Xn144_14
def Xn144_2 : C := seqL [0, 1, 2] Xn144_3 Xn144_8
def Xn144_0 : C := .seq Xn144_1 Xn144_2
theorem Xt144 : Text Try.prog 144 Xn144_0 135 3 [.t 6, .t 7] := ⟨⟨Try.f144, [], Try.func144, by kernel_rfl, by kernel_rfl, by kernel_rfl, by kernel_rfl⟩⟩
def Xn145_1 : C := regL [0, 1] none [⟨some 4, .mv (.const (.int .i64 0)), none⟩]
def Xn145_3 : C := regL [4] none [⟨some 5, .mv (.tmp 0), none⟩, ⟨some 6, .mv (.tmp 1), none⟩, ⟨some 7, .call 151 [.tmp 5, .tmp 6, .const (.bool true)], none⟩, ⟨some 4, .mv (.tmp 7), none⟩]
def Xn145_2 : C := .seq Xn145_3 .ret
def Xn145_0 : C := .seq Xn145_1 Xn145_2
theorem Xt145 : Text Try.prog 145 Xn145_0 8 2 [.t 4] := ⟨⟨Try.f145, [], Try.func145, by kernel_rfl, by kernel_rfl, by kernel_rfl, by kernel_rfl⟩⟩
/- carried: [9] -/
/- carried: [8] -/
/- carried: [10, 11] -/
/- carried: [13] -/
/- carried: [14, 15] -/
/- carried: [17] -/
/- carried: [20, 21] -/
/- carried: [8] -/
def Xn150_1 : C := regL [0] none [⟨some 2, .mv (.const (.int .i64 0)), none⟩]
def Xn150_3 : C := regL [2] none [⟨some 3, .mv (.tmp 0), none⟩, ⟨some 4, .call 153 [.tmp 3], none⟩, ⟨some 5, .bin 3 .sub (.const (.int .i64 64)) (.tmp 4), none⟩, ⟨some 2, .mv (.tmp 5), none⟩]
def Xn150_2 : C := .seq Xn150_3 .ret
def Xn150_0 : C := .seq Xn150_1 Xn150_2
theorem Xt150 : Text Try.prog 150 Xn150_0 6 1 [.t 2] := ⟨⟨Try.f150, [], Try.func150, by kernel_rfl, by kernel_rfl, by kernel_rfl, by kernel_rfl⟩⟩
/- carried: [] -/
/- carried: [10, 11] -/
def Xn153_1 : C := regL [0, 2] none [⟨some 2, .mv (.const (.int .i64 0)), none⟩]
def Xn153_4 : C := regL [0, 2, 4] none [⟨some 3, .mv (.tmp 0), none⟩, ⟨some 4, .bin 170 .geq (.tmp 3) (.const (.int .u64 4294967296)), none⟩]
def Xn153_7 : C := regL [0] none [⟨some 5, .mv (.tmp 0), none⟩, ⟨some 6, .bin 170 .shr (.tmp 5) (.const (.int .u64 32)), none⟩, ⟨some 0, .mv (.tmp 6), none⟩]
def Xn153_8 : C := regL [0, 2] none [⟨some 2, .mv (.const (.int .i64 32)), none⟩]
def Xn153_6 : C := .seq Xn153_7 Xn153_8
def Xn153_5 : C := .cond (.tmp 4) Xn153_6 .skip
def Xn153_3 : C := .seq Xn153_4 Xn153_5
def Xn153_12 : C := regL [0, 2, 8] none [⟨some 7, .mv (.tmp 0), none⟩, ⟨some 8, .bin 170 .geq (.tmp 7) (.const (.int .u64 65536)), none⟩]
def Xn153_15 : C := regL [0, 2] none [⟨some 9, .mv (.tmp 0), none⟩, ⟨some 10, .bin 170 .shr (.tmp 9) (.const (.int .u64 16)), none⟩, ⟨some 0, .mv (.tmp 10), none⟩]
def Xn153_16 : C := regL [0, 2] none [⟨some 11, .mv (.tmp 2), none⟩, ⟨some 12, .bin 3 .add (.tmp 11) (.const (.int .i64 16)), none⟩, ⟨some 2, .mv (.tmp 12), none⟩]
def Xn153_14 : C := .seq Xn153_15 Xn153_16
def Xn153_13 : C := .cond (.tmp 8) Xn153_14 .skip
def Xn153_11 : C := .seq Xn153_12 Xn153_13
def Xn153_20 : C := regL [0, 2, 14] none [⟨some 13, .mv (.tmp 0), none⟩, ⟨some 14, .bin 170 .geq (.tmp 13) (.const (.int .u64 256)), none⟩]
def Xn153_23 : C := regL [0, 2] none [⟨some 15, .mv (.tmp 0), none⟩, ⟨some 16, .bin 170 .shr (.tmp 15) (.const (.int .u64 8)), none⟩, ⟨some 0, .mv (.tmp 16), none⟩]
def Xn153_24 : C := regL [0, 2] none [⟨some 17, .mv (.tmp 2), none⟩, ⟨some 18, .bin 3 .add (.tmp 17) (.const (.int .i64 8)), none⟩, ⟨some 2, .mv (.tmp 18), none⟩]
def Xn153_22 : C := .seq Xn153_23 Xn153_24
def Xn153_21 : C := .cond (.tmp 14) Xn153_22 .skip
def Xn153_19 : C := .seq Xn153_20 Xn153_21
def Xn153_27 : C := regL [2] none [⟨some 19, .mv (.tmp 2), none⟩, ⟨some 20, .mv (.tmp 0), none⟩, ⟨some 21, .cvt .u8 (.tmp 20), none⟩, ⟨some 22, .sidx (.const (.string ⟨#[0, 1, 2, 2, 3, 3, 3, 3, 4, 4, 4, 4, 4, 4, 4, 4, 5, 5, 5, 5, 5, 5, 5, 5, 5, 5, 5, 5, 5, 5, 5, 5, 6, 6, 6, 6, 6, 6, 6, 6, 6, 6, 6, 6, 6, 6, 6, 6, 6, 6, 6, 6, 6, 6, 6, 6, 6, 6, 6, 6, 6, 6, 6, 6, 7, 7, 7, 7, 7, 7, 7, 7, 7, 7, 7, 7, 7, 7, 7, 7, 7, 7, 7, 7, 7, 7, 7, 7, 7, 7, 7, 7, 7, 7, 7, 7, 7, 7, 7, 7, 7, 7, 7, 7, 7, 7, 7, 7, 7, 7, 7, 7, 7, 7, 7, 7, 7, 7, 7, 7, 7, 7, 7, 7, 7, 7, 7, 7, 8, 8, 8, 8, 8, 8, 8, 8, 8, 8, 8, 8, 8, 8, 8, 8, 8, 8, 8, 8, 8, 8, 8, 8, 8, 8, 8, 8, 8, 8, 8, 8, 8, 8, 8, 8, 8, 8, 8, 8, 8, 8, 8, 8, 8, 8, 8, 8, 8, 8, 8, 8, 8, 8, 8, 8, 8, 8, 8, 8, 8, 8, 8, 8, 8, 8, 8, 8, 8, 8, 8, 8, 8, 8, 8, 8, 8, 8, 8, 8, 8, 8, 8, 8, 8, 8, 8, 8, 8, 8, 8, 8, 8, 8, 8, 8, 8, 8, 8, 8, 8, 8, 8, 8, 8, 8, 8, 8, 8, 8, 8, 8, 8, 8, 8, 8, 8, 8, 8, 8, 8, 8, 8, 8, 8, 8, 8, 8]⟩)) (.tmp 21), none⟩, ⟨some 23, .cvt .i64 (.tmp 22), none⟩, ⟨some 24, .bin 3 .add (.tmp 19) (.tmp 23), none⟩, ⟨some 2, .mv (.tmp 24), none⟩]
def Xn153_26 : C := .seq Xn153_27 .ret
def Xn153_18 : C := seqL [0, 2] Xn153_19 Xn153_26
def Xn153_10 : C := seqL [0, 2] Xn153_11 Xn153_18
def Xn153_2 : C := seqL [0, 2] Xn153_3 Xn153_10
def Xn153_0 : C := .seq Xn153_1 Xn153_2
theorem Xt153 : Text Try.prog 153 Xn153_0 25 1 [.t 2] := ⟨⟨Try.f153, [], Try.func153, by kernel_rfl, by kernel_rfl, by kernel_rfl, by kernel_rfl⟩⟩
/- carried: [10] -/
end Go.Proofs.Ytfkjdjlcaojedaa

/- Words of 64 bits: products. -/
namespace Go.Proofs.Ytfkjdjlcaojedaa
open Go Sy
set_option maxRecDepth 100000
set_option maxHeartbeats 4000000
set_option linter.unusedVariables false
set_option linter.unusedSimpArgs false

theorem mixed : Try.prog.follows .mixedOrders = true := by kernel_rfl
abbrev iv (n : Int) : AV := .v (.int .i64 n)
abbrev bv (b : Bool) : AV := .v (.bool b)
abbrev uv (n : Nat) : AV := .v (.int .u64 n)
theorem maskN (a : Nat) (ha : a < 18446744073709551616) : bits .and .u64 (a : Int) 4294967295 = ((a % 4294967296 : Nat) : Int) := by
  have h := bits_and_u64_nat a 4294967295 ha (by omega)
  have e : a &&& 4294967295 = a % 4294967296 := Nat.and_two_pow_sub_one_eq_mod a 32
  rw [e] at h
  exact h
theorem shrC (a : Int) (s : Nat) (b : Int) (h : (2 : Int) ^ min s IntKind.u64.bits = b) (hb : 0 ≤ b) : a.fdiv (2 ^ min s IntKind.u64.bits) = a / b := by
  rw [h, Int.fdiv_eq_ediv_of_nonneg _ hb]
theorem shr32 (a : Int) : a.fdiv (2 ^ min 32 IntKind.u64.bits) = a / 4294967296 := shrC a 32 _ (by decide) (by decide)
theorem shr16 (a : Int) : a.fdiv (2 ^ min 16 IntKind.u64.bits) = a / 65536 := shrC a 16 _ (by decide) (by decide)
theorem shr8 (a : Int) : a.fdiv (2 ^ min 8 IntKind.u64.bits) = a / 256 := shrC a 8 _ (by decide) (by decide)
theorem divN (a : Nat) : (a : Int) / 4294967296 = ((a / 4294967296 : Nat) : Int) := by omega
theorem mulN (a b : Nat) : (a : Int) * (b : Int) = ((a * b : Nat) : Int) := (Int.natCast_mul a b).symm
theorem addN (a b : Nat) : (a : Int) + (b : Int) = ((a + b : Nat) : Int) := (Int.natCast_add a b).symm
theorem wrapN (a : Nat) (ha : a < 18446744073709551616) : IntKind.u64.wrap (a : Int) = (a : Int) := by rw [IntKind.wrap_u64]; omega
theorem wrapM (a : Nat) : IntKind.u64.wrap (a : Int) = ((a % 18446744073709551616 : Nat) : Int) := by rw [IntKind.wrap_u64]; omega
theorem fn143 (x y : Nat) (hx : x < 18446744073709551616) (hy : y < 18446744073709551616) : Sy.Fn Try.prog 143 [uv x, uv y] (.tup [uv (x * y / 18446744073709551616), uv (x * y % 18446744073709551616)]) := by
  refine Fn_of_W mixed Xt143 rfl ?_
  obtain ⟨bd, bt, bw, hhi⟩ := Lib.mul64_hi x y hx hy
  have ba := Lib.half_mul_le (a := x / 4294967296) (b := y / 4294967296) (by omega) (by omega)
  have bb := Lib.half_mul_le (a := x / 4294967296) (b := y % 4294967296) (by omega) (by omega)
  have bc := Lib.half_mul_le (a := x % 4294967296) (b := y / 4294967296) (by omega) (by omega)
  have ba' : x / 4294967296 * (y / 4294967296) < 18446744073709551616 := by omega
  have bb' : x / 4294967296 * (y % 4294967296) < 18446744073709551616 := by omega
  have bc' : x % 4294967296 * (y / 4294967296) < 18446744073709551616 := by omega
  have bh1 : x / 4294967296 * (y / 4294967296) + (x / 4294967296 * (y % 4294967296) + x % 4294967296 * (y % 4294967296) / 4294967296) / 4294967296 < 18446744073709551616 := by omega
  have bh : x / 4294967296 * (y / 4294967296) + (x / 4294967296 * (y % 4294967296) + x % 4294967296 * (y % 4294967296) / 4294967296) / 4294967296 + ((x / 4294967296 * (y % 4294967296) + x % 4294967296 * (y % 4294967296) / 4294967296) % 4294967296 + x % 4294967296 * (y / 4294967296)) / 4294967296 < 18446744073709551616 := by omega
  repeat' (first | refine WK_go ?_ | refine W_seqL ?_ | refine W_seq ?_ | (refine W_regL ?_; simp (maxSteps := 400000) (disch := omega) only [push_cast, ↓reduceIte, reduceCtorEq, Nat.reduceAdd, Nat.reduceSub, Nat.reduceEqDiff, Nat.reduceLeDiff, Nat.reduceLT, Nat.reduceBEq, Nat.reduceDiv, Nat.reduceMod, Nat.reducePow, Nat.reduceMul, Int.reduceToNat, Int.reduceLT, Int.reduceLE]) | refine W_block ?_ | (refine W_skip ?_; simp (maxSteps := 400000) (disch := omega) only [push_cast, ↓reduceIte, reduceCtorEq, Nat.reduceAdd, Nat.reduceSub, Nat.reduceEqDiff, Nat.reduceLeDiff, Nat.reduceLT, Nat.reduceBEq, Nat.reduceDiv, Nat.reduceMod, Nat.reducePow, Nat.reduceMul, Int.reduceToNat, Int.reduceLT, Int.reduceLE]) | (refine W_exit ?_; simp (maxSteps := 400000) (disch := omega) only [push_cast, ↓reduceIte, reduceCtorEq, Nat.reduceAdd, Nat.reduceSub, Nat.reduceEqDiff, Nat.reduceLeDiff, Nat.reduceLT, Nat.reduceBEq, Nat.reduceDiv, Nat.reduceMod, Nat.reducePow, Nat.reduceMul, Int.reduceToNat, Int.reduceLT, Int.reduceLE]) | refine And.intro (by omega) ?_ | refine And.intro (by intro hq; (try simp only [Bool.and_eq_true, Bool.or_eq_true, Bool.and_eq_false_iff, Bool.or_eq_false_iff, decide_eq_true_eq, decide_eq_false_iff_not, Bool.not_eq_true', Bool.not_eq_false', beq_iff_eq, beq_eq_false_iff_ne, ne_eq] at hq); omega) ?_ | fail)
  simp only [maskN x hx, maskN y hy, shr32, divN, mulN, addN, wrapN _ bd, wrapN _ bb', wrapN _ bt, maskN _ bt, wrapN _ bc', wrapN _ bw, wrapN _ ba', wrapN _ bh1, wrapN _ bh, wrapM (x * y)]
  rw [hhi]
  exact W_ret ⟨[_, _], ⟨rfl, rfl, rfl⟩, rfl⟩
end Go.Proofs.Ytfkjdjlcaojedaa

/- Words of 64 bits: how many bits a number has. -/
namespace Go.Proofs.Ytfkjdjlcaojedaa
open Go Sy
set_option maxRecDepth 100000
set_option maxHeartbeats 4000000
set_option linter.unusedVariables false
set_option linter.unusedSimpArgs false
abbrev uw (n : Int) : AV := .v (.int .u64 n)
/-- n bits, the first one set -/
def Bits (x : Int) (n : Nat) : Prop := 2 ^ n ≤ 2 * x ∧ x < 2 ^ n
theorem Bits.up {x : Int} {n : Nat} (k : Nat) (h : Bits (x / 2 ^ k) n) : Bits x (n + k) := by
  obtain ⟨h1, h2⟩ := h
  have hk : (0 : Int) < 2 ^ k := Int.pow_pos (by omega)
  have hm := Int.mul_ediv_add_emod x (2 ^ k)
  have hr := Int.emod_lt_of_pos x hk
  have hr0 := Int.emod_nonneg x (Int.ne_of_gt hk)
  have e : (2 : Int) ^ (n + k) = 2 ^ n * 2 ^ k := Int.pow_add ..
  have m1 := Int.mul_le_mul_of_nonneg_right h1 (Int.le_of_lt hk)
  have m2 := Int.mul_le_mul_of_nonneg_right (show x / 2 ^ k + 1 ≤ 2 ^ n by omega) (Int.le_of_lt hk)
  unfold Bits
  rw [e]
  rw [Int.add_mul] at m2
  rw [Int.mul_assoc, Int.mul_comm (x / 2 ^ k)] at m1
  rw [Int.mul_comm (x / 2 ^ k)] at m2
  constructor <;> omega
def lo (b x : Int) : Int := if b ≤ x then x / b else x
def nb (b : Int) (k : Nat) (x : Int) : Nat := if b ≤ x then k else 0
theorem Bits.lo {b x : Int} {n : Nat} (k : Nat) (hb : (2 : Int) ^ k = b) (h : Bits (lo b x) n) : Bits x (n + nb b k x) := by
  unfold Go.Proofs.Ytfkjdjlcaojedaa.lo at h
  unfold nb
  subst hb
  split
  · rename_i h1; rw [if_pos h1] at h; exact h.up k
  · rename_i h1; rw [if_neg h1] at h; exact h
def tab : ByteArray := ⟨#[0, 1, 2, 2, 3, 3, 3, 3, 4, 4, 4, 4, 4, 4, 4, 4, 5, 5, 5, 5, 5, 5, 5, 5, 5, 5, 5, 5, 5, 5, 5, 5, 6, 6, 6, 6, 6, 6, 6, 6, 6, 6, 6, 6, 6, 6, 6, 6, 6, 6, 6, 6, 6, 6, 6, 6, 6, 6, 6, 6, 6, 6, 6, 6, 7, 7, 7, 7, 7, 7, 7, 7, 7, 7, 7, 7, 7, 7, 7, 7, 7, 7, 7, 7, 7, 7, 7, 7, 7, 7, 7, 7, 7, 7, 7, 7, 7, 7, 7, 7, 7, 7, 7, 7, 7, 7, 7, 7, 7, 7, 7, 7, 7, 7, 7, 7, 7, 7, 7, 7, 7, 7, 7, 7, 7, 7, 7, 7, 8, 8, 8, 8, 8, 8, 8, 8, 8, 8, 8, 8, 8, 8, 8, 8, 8, 8, 8, 8, 8, 8, 8, 8, 8, 8, 8, 8, 8, 8, 8, 8, 8, 8, 8, 8, 8, 8, 8, 8, 8, 8, 8, 8, 8, 8, 8, 8, 8, 8, 8, 8, 8, 8, 8, 8, 8, 8, 8, 8, 8, 8, 8, 8, 8, 8, 8, 8, 8, 8, 8, 8, 8, 8, 8, 8, 8, 8, 8, 8, 8, 8, 8, 8, 8, 8, 8, 8, 8, 8, 8, 8, 8, 8, 8, 8, 8, 8, 8, 8, 8, 8, 8, 8, 8, 8, 8, 8, 8, 8, 8, 8, 8, 8, 8, 8, 8, 8, 8, 8, 8, 8, 8, 8, 8, 8, 8, 8]⟩
def tabOK (i : Nat) : Bool := decide (byteAt tab i ≤ 8) && (decide (i = 0) || (decide (2 ^ byteAt tab i ≤ 2 * i) && decide (i < 2 ^ byteAt tab i)))
theorem tab_all : (List.range 256).all tabOK = true := by decide +kernel
theorem tab_size : tab.size = 256 := by decide +kernel
theorem tab_bits {u : Int} (h0 : 0 ≤ u) (h : u < 256) : byteAt tab u.toNat ≤ 8 ∧ (0 < u → Bits u (byteAt tab u.toNat)) := by
  have h1 := List.all_eq_true.1 tab_all u.toNat (by simp; omega)
  unfold tabOK at h1
  simp only [Bool.and_eq_true, Bool.or_eq_true, decide_eq_true_eq] at h1
  refine ⟨h1.1, fun h2 => ?_⟩
  have h3 := h1.2.resolve_left (by omega)
  unfold Bits
  have e : ((u.toNat : Nat) : Int) = u := by omega
  generalize byteAt tab u.toNat = n at *
  have e2 : ((2 ^ n : Nat) : Int) = (2 : Int) ^ n := Int.natCast_pow 2 n
  omega
theorem fn153 (x : Int) (h0 : 0 ≤ x) (hx : x < 18446744073709551616) : ∃ n : Nat, n ≤ 64 ∧ (0 < x → Bits x n) ∧ Sy.Fn Try.prog 153 [uw x] (iv n) := by
  generalize hy : lo 4294967296 x = y
  have hyb : 0 ≤ y ∧ y < 4294967296 := by subst hy; unfold lo; split <;> omega
  generalize hm : nb 4294967296 32 x = m
  have hmb : m ≤ 32 := by subst hm; unfold nb; split <;> omega
  generalize hz : lo 65536 y = z
  have hzb : 0 ≤ z ∧ z < 65536 := by subst hz; unfold lo; split <;> omega
  generalize hk : m + nb 65536 16 y = k
  have hkb : k ≤ 48 := by subst hk; unfold nb; split <;> omega
  generalize hu : lo 256 z = u
  have hub : 0 ≤ u ∧ u < 256 := by subst hu; unfold lo; split <;> omega
  generalize hj : k + nb 256 8 z = j
  have hjb : j ≤ 56 := by subst hj; unfold nb; split <;> omega
  have ht := tab_bits hub.1 hub.2
  have hpos : 0 < x → 0 < u := fun h => by
    have h1 : 0 < y := by subst hy; unfold lo; split <;> omega
    have h2 : 0 < z := by subst hz; unfold lo; split <;> omega
    subst hu; unfold lo; split <;> omega
  refine ⟨j + byteAt tab u.toNat, by omega, fun h => ?_, ?_⟩
  · have h1 := ht.2 (hpos h)
    rw [← hu] at h1
    have h2 := h1.lo 8 (by decide)
    rw [hu, ← hz] at h2
    have h3 := h2.lo 16 (by decide)
    rw [hz, ← hy] at h3
    have h4 := h3.lo 32 (by decide)
    rw [hy] at h4
    rw [← hj, ← hk, ← hm]
    rw [show nb 4294967296 32 x + nb 65536 16 y + nb 256 8 z + byteAt tab u.toNat = byteAt tab u.toNat + nb 256 8 z + nb 65536 16 y + nb 4294967296 32 x by omega]
    exact h4
  refine Fn_of_W mixed Xt153 rfl ?_
  repeat' (first | refine WK_go ?_ | refine W_seqL ?_ | refine W_seq ?_ | (refine W_regL ?_; simp (maxSteps := 400000) (disch := omega) only [push_cast, ↓reduceIte, reduceCtorEq, Nat.reduceAdd, Nat.reduceSub, Nat.reduceEqDiff, Nat.reduceLeDiff, Nat.reduceLT, Nat.reduceBEq, Nat.reduceDiv, Nat.reduceMod, Nat.reducePow, Nat.reduceMul, Int.reduceToNat, Int.reduceLT, Int.reduceLE]) | refine W_block ?_ | (refine W_skip ?_; simp (maxSteps := 400000) (disch := omega) only [push_cast, ↓reduceIte, reduceCtorEq, Nat.reduceAdd, Nat.reduceSub, Nat.reduceEqDiff, Nat.reduceLeDiff, Nat.reduceLT, Nat.reduceBEq, Nat.reduceDiv, Nat.reduceMod, Nat.reducePow, Nat.reduceMul, Int.reduceToNat, Int.reduceLT, Int.reduceLE]) | (refine W_exit ?_; simp (maxSteps := 400000) (disch := omega) only [push_cast, ↓reduceIte, reduceCtorEq, Nat.reduceAdd, Nat.reduceSub, Nat.reduceEqDiff, Nat.reduceLeDiff, Nat.reduceLT, Nat.reduceBEq, Nat.reduceDiv, Nat.reduceMod, Nat.reducePow, Nat.reduceMul, Int.reduceToNat, Int.reduceLT, Int.reduceLE]) | refine And.intro (by omega) ?_ | refine And.intro (by intro hq; (try simp only [Bool.and_eq_true, Bool.or_eq_true, Bool.and_eq_false_iff, Bool.or_eq_false_iff, decide_eq_true_eq, decide_eq_false_iff_not, Bool.not_eq_true', Bool.not_eq_false', beq_iff_eq, beq_eq_false_iff_ne, ne_eq] at hq); omega) ?_ | fail)
  refine W_meet [(0, uw y), (2, iv m)] [] ?_ ?_
  · subst hy hm
    unfold lo nb
    refine W_condD (by rfl) (fun h => ?_) (fun h => ?_)
    · rw [if_pos h, if_pos h]
      repeat' (first | refine WK_go ?_ | refine W_seqL ?_ | refine W_seq ?_ | (refine W_regL ?_; simp (maxSteps := 400000) (disch := omega) only [push_cast, ↓reduceIte, reduceCtorEq, Nat.reduceAdd, Nat.reduceSub, Nat.reduceEqDiff, Nat.reduceLeDiff, Nat.reduceLT, Nat.reduceBEq, Nat.reduceDiv, Nat.reduceMod, Nat.reducePow, Nat.reduceMul, Int.reduceToNat, Int.reduceLT, Int.reduceLE, shr32]) | refine W_block ?_ | (refine W_skip ?_; simp (maxSteps := 400000) (disch := omega) only [push_cast, ↓reduceIte, reduceCtorEq, Nat.reduceAdd, Nat.reduceSub, Nat.reduceEqDiff, Nat.reduceLeDiff, Nat.reduceLT, Nat.reduceBEq, Nat.reduceDiv, Nat.reduceMod, Nat.reducePow, Nat.reduceMul, Int.reduceToNat, Int.reduceLT, Int.reduceLE, shr32]) | (refine W_exit ?_; simp (maxSteps := 400000) (disch := omega) only [push_cast, ↓reduceIte, reduceCtorEq, Nat.reduceAdd, Nat.reduceSub, Nat.reduceEqDiff, Nat.reduceLeDiff, Nat.reduceLT, Nat.reduceBEq, Nat.reduceDiv, Nat.reduceMod, Nat.reducePow, Nat.reduceMul, Int.reduceToNat, Int.reduceLT, Int.reduceLE, shr32]) | refine And.intro (by omega) ?_ | refine And.intro (by intro hq; (try simp only [Bool.and_eq_true, Bool.or_eq_true, Bool.and_eq_false_iff, Bool.or_eq_false_iff, decide_eq_true_eq, decide_eq_false_iff_not, Bool.not_eq_true', Bool.not_eq_false', beq_iff_eq, beq_eq_false_iff_ne, ne_eq] at hq); omega) ?_ | fail)
      refine ⟨by rfl, ?_⟩
      simp (maxSteps := 400000) (disch := omega) only [push_cast, ↓reduceIte, reduceCtorEq, Nat.reduceAdd, Nat.reduceSub, Nat.reduceEqDiff, Nat.reduceLeDiff, Nat.reduceLT, Nat.reduceBEq, Nat.reduceDiv, Nat.reduceMod, Nat.reducePow, Nat.reduceMul, Int.reduceToNat, Int.reduceLT, Int.reduceLE, S.mk.injEq, List.cons.injEq, Prod.mk.injEq, AV.v.injEq, Value.int.injEq, Value.bool.injEq, Blk.cells.injEq]
      all_goals omega
    · rw [if_neg h, if_neg h]
      repeat' (first | refine WK_go ?_ | refine W_seqL ?_ | refine W_seq ?_ | (refine W_regL ?_; simp (maxSteps := 400000) (disch := omega) only [push_cast, ↓reduceIte, reduceCtorEq, Nat.reduceAdd, Nat.reduceSub, Nat.reduceEqDiff, Nat.reduceLeDiff, Nat.reduceLT, Nat.reduceBEq, Nat.reduceDiv, Nat.reduceMod, Nat.reducePow, Nat.reduceMul, Int.reduceToNat, Int.reduceLT, Int.reduceLE]) | refine W_block ?_ | (refine W_skip ?_; simp (maxSteps := 400000) (disch := omega) only [push_cast, ↓reduceIte, reduceCtorEq, Nat.reduceAdd, Nat.reduceSub, Nat.reduceEqDiff, Nat.reduceLeDiff, Nat.reduceLT, Nat.reduceBEq, Nat.reduceDiv, Nat.reduceMod, Nat.reducePow, Nat.reduceMul, Int.reduceToNat, Int.reduceLT, Int.reduceLE]) | (refine W_exit ?_; simp (maxSteps := 400000) (disch := omega) only [push_cast, ↓reduceIte, reduceCtorEq, Nat.reduceAdd, Nat.reduceSub, Nat.reduceEqDiff, Nat.reduceLeDiff, Nat.reduceLT, Nat.reduceBEq, Nat.reduceDiv, Nat.reduceMod, Nat.reducePow, Nat.reduceMul, Int.reduceToNat, Int.reduceLT, Int.reduceLE]) | refine And.intro (by omega) ?_ | refine And.intro (by intro hq; (try simp only [Bool.and_eq_true, Bool.or_eq_true, Bool.and_eq_false_iff, Bool.or_eq_false_iff, decide_eq_true_eq, decide_eq_false_iff_not, Bool.not_eq_true', Bool.not_eq_false', beq_iff_eq, beq_eq_false_iff_ne, ne_eq] at hq); omega) ?_ | fail)
      rfl
  simp (maxSteps := 400000) (disch := omega) only [push_cast, ↓reduceIte, reduceCtorEq, Nat.reduceAdd, Nat.reduceSub, Nat.reduceEqDiff, Nat.reduceLeDiff, Nat.reduceLT, Nat.reduceBEq, Nat.reduceDiv, Nat.reduceMod, Nat.reducePow, Nat.reduceMul, Int.reduceToNat, Int.reduceLT, Int.reduceLE]
  repeat' (first | refine WK_go ?_ | refine W_seqL ?_ | refine W_seq ?_ | (refine W_regL ?_; simp (maxSteps := 400000) (disch := omega) only [push_cast, ↓reduceIte, reduceCtorEq, Nat.reduceAdd, Nat.reduceSub, Nat.reduceEqDiff, Nat.reduceLeDiff, Nat.reduceLT, Nat.reduceBEq, Nat.reduceDiv, Nat.reduceMod, Nat.reducePow, Nat.reduceMul, Int.reduceToNat, Int.reduceLT, Int.reduceLE]) | refine W_block ?_ | (refine W_skip ?_; simp (maxSteps := 400000) (disch := omega) only [push_cast, ↓reduceIte, reduceCtorEq, Nat.reduceAdd, Nat.reduceSub, Nat.reduceEqDiff, Nat.reduceLeDiff, Nat.reduceLT, Nat.reduceBEq, Nat.reduceDiv, Nat.reduceMod, Nat.reducePow, Nat.reduceMul, Int.reduceToNat, Int.reduceLT, Int.reduceLE]) | (refine W_exit ?_; simp (maxSteps := 400000) (disch := omega) only [push_cast, ↓reduceIte, reduceCtorEq, Nat.reduceAdd, Nat.reduceSub, Nat.reduceEqDiff, Nat.reduceLeDiff, Nat.reduceLT, Nat.reduceBEq, Nat.reduceDiv, Nat.reduceMod, Nat.reducePow, Nat.reduceMul, Int.reduceToNat, Int.reduceLT, Int.reduceLE]) | refine And.intro (by omega) ?_ | refine And.intro (by intro hq; (try simp only [Bool.and_eq_true, Bool.or_eq_true, Bool.and_eq_false_iff, Bool.or_eq_false_iff, decide_eq_true_eq, decide_eq_false_iff_not, Bool.not_eq_true', Bool.not_eq_false', beq_iff_eq, beq_eq_false_iff_ne, ne_eq] at hq); omega) ?_ | fail)
  refine W_meet [(0, uw z), (2, iv k)] [] ?_ ?_
  · subst hz hk
    unfold lo nb
    refine W_condD (by rfl) (fun h => ?_) (fun h => ?_)
    · rw [if_pos h, if_pos h]
      repeat' (first | refine WK_go ?_ | refine W_seqL ?_ | refine W_seq ?_ | (refine W_regL ?_; simp (maxSteps := 400000) (disch := omega) only [push_cast, ↓reduceIte, reduceCtorEq, Nat.reduceAdd, Nat.reduceSub, Nat.reduceEqDiff, Nat.reduceLeDiff, Nat.reduceLT, Nat.reduceBEq, Nat.reduceDiv, Nat.reduceMod, Nat.reducePow, Nat.reduceMul, Int.reduceToNat, Int.reduceLT, Int.reduceLE, shr16]) | refine W_block ?_ | (refine W_skip ?_; simp (maxSteps := 400000) (disch := omega) only [push_cast, ↓reduceIte, reduceCtorEq, Nat.reduceAdd, Nat.reduceSub, Nat.reduceEqDiff, Nat.reduceLeDiff, Nat.reduceLT, Nat.reduceBEq, Nat.reduceDiv, Nat.reduceMod, Nat.reducePow, Nat.reduceMul, Int.reduceToNat, Int.reduceLT, Int.reduceLE, shr16]) | (refine W_exit ?_; simp (maxSteps := 400000) (disch := omega) only [push_cast, ↓reduceIte, reduceCtorEq, Nat.reduceAdd, Nat.reduceSub, Nat.reduceEqDiff, Nat.reduceLeDiff, Nat.reduceLT, Nat.reduceBEq, Nat.reduceDiv, Nat.reduceMod, Nat.reducePow, Nat.reduceMul, Int.reduceToNat, Int.reduceLT, Int.reduceLE, shr16]) | refine And.intro (by omega) ?_ | refine And.intro (by intro hq; (try simp only [Bool.and_eq_true, Bool.or_eq_true, Bool.and_eq_false_iff, Bool.or_eq_false_iff, decide_eq_true_eq, decide_eq_false_iff_not, Bool.not_eq_true', Bool.not_eq_false', beq_iff_eq, beq_eq_false_iff_ne, ne_eq] at hq); omega) ?_ | fail)
      refine ⟨by rfl, ?_⟩
      simp (maxSteps := 400000) (disch := omega) only [push_cast, ↓reduceIte, reduceCtorEq, Nat.reduceAdd, Nat.reduceSub, Nat.reduceEqDiff, Nat.reduceLeDiff, Nat.reduceLT, Nat.reduceBEq, Nat.reduceDiv, Nat.reduceMod, Nat.reducePow, Nat.reduceMul, Int.reduceToNat, Int.reduceLT, Int.reduceLE, S.mk.injEq, List.cons.injEq, Prod.mk.injEq, AV.v.injEq, Value.int.injEq, Value.bool.injEq, Blk.cells.injEq]
      all_goals omega
    · rw [if_neg h, if_neg h]
      repeat' (first | refine WK_go ?_ | refine W_seqL ?_ | refine W_seq ?_ | (refine W_regL ?_; simp (maxSteps := 400000) (disch := omega) only [push_cast, ↓reduceIte, reduceCtorEq, Nat.reduceAdd, Nat.reduceSub, Nat.reduceEqDiff, Nat.reduceLeDiff, Nat.reduceLT, Nat.reduceBEq, Nat.reduceDiv, Nat.reduceMod, Nat.reducePow, Nat.reduceMul, Int.reduceToNat, Int.reduceLT, Int.reduceLE]) | refine W_block ?_ | (refine W_skip ?_; simp (maxSteps := 400000) (disch := omega) only [push_cast, ↓reduceIte, reduceCtorEq, Nat.reduceAdd, Nat.reduceSub, Nat.reduceEqDiff, Nat.reduceLeDiff, Nat.reduceLT, Nat.reduceBEq, Nat.reduceDiv, Nat.reduceMod, Nat.reducePow, Nat.reduceMul, Int.reduceToNat, Int.reduceLT, Int.reduceLE]) | (refine W_exit ?_; simp (maxSteps := 400000) (disch := omega) only [push_cast, ↓reduceIte, reduceCtorEq, Nat.reduceAdd, Nat.reduceSub, Nat.reduceEqDiff, Nat.reduceLeDiff, Nat.reduceLT, Nat.reduceBEq, Nat.reduceDiv, Nat.reduceMod, Nat.reducePow, Nat.reduceMul, Int.reduceToNat, Int.reduceLT, Int.reduceLE]) | refine And.intro (by omega) ?_ | refine And.intro (by intro hq; (try simp only [Bool.and_eq_true, Bool.or_eq_true, Bool.and_eq_false_iff, Bool.or_eq_false_iff, decide_eq_true_eq, decide_eq_false_iff_not, Bool.not_eq_true', Bool.not_eq_false', beq_iff_eq, beq_eq_false_iff_ne, ne_eq] at hq); omega) ?_ | fail)
      rfl
  simp (maxSteps := 400000) (disch := omega) only [push_cast, ↓reduceIte, reduceCtorEq, Nat.reduceAdd, Nat.reduceSub, Nat.reduceEqDiff, Nat.reduceLeDiff, Nat.reduceLT, Nat.reduceBEq, Nat.reduceDiv, Nat.reduceMod, Nat.reducePow, Nat.reduceMul, Int.reduceToNat, Int.reduceLT, Int.reduceLE]
  repeat' (first | refine WK_go ?_ | refine W_seqL ?_ | refine W_seq ?_ | (refine W_regL ?_; simp (maxSteps := 400000) (disch := omega) only [push_cast, ↓reduceIte, reduceCtorEq, Nat.reduceAdd, Nat.reduceSub, Nat.reduceEqDiff, Nat.reduceLeDiff, Nat.reduceLT, Nat.reduceBEq, Nat.reduceDiv, Nat.reduceMod, Nat.reducePow, Nat.reduceMul, Int.reduceToNat, Int.reduceLT, Int.reduceLE]) | refine W_block ?_ | (refine W_skip ?_; simp (maxSteps := 400000) (disch := omega) only [push_cast, ↓reduceIte, reduceCtorEq, Nat.reduceAdd, Nat.reduceSub, Nat.reduceEqDiff, Nat.reduceLeDiff, Nat.reduceLT, Nat.reduceBEq, Nat.reduceDiv, Nat.reduceMod, Nat.reducePow, Nat.reduceMul, Int.reduceToNat, Int.reduceLT, Int.reduceLE]) | (refine W_exit ?_; simp (maxSteps := 400000) (disch := omega) only [push_cast, ↓reduceIte, reduceCtorEq, Nat.reduceAdd, Nat.reduceSub, Nat.reduceEqDiff, Nat.reduceLeDiff, Nat.reduceLT, Nat.reduceBEq, Nat.reduceDiv, Nat.reduceMod, Nat.reducePow, Nat.reduceMul, Int.reduceToNat, Int.reduceLT, Int.reduceLE]) | refine And.intro (by omega) ?_ | refine And.intro (by intro hq; (try simp only [Bool.and_eq_true, Bool.or_eq_true, Bool.and_eq_false_iff, Bool.or_eq_false_iff, decide_eq_true_eq, decide_eq_false_iff_not, Bool.not_eq_true', Bool.not_eq_false', beq_iff_eq, beq_eq_false_iff_ne, ne_eq] at hq); omega) ?_ | fail)
  refine W_meet [(0, uw u), (2, iv j)] [] ?_ ?_
  · subst hu hj
    unfold lo nb
    refine W_condD (by rfl) (fun h => ?_) (fun h => ?_)
    · rw [if_pos h, if_pos h]
      repeat' (first | refine WK_go ?_ | refine W_seqL ?_ | refine W_seq ?_ | (refine W_regL ?_; simp (maxSteps := 400000) (disch := omega) only [push_cast, ↓reduceIte, reduceCtorEq, Nat.reduceAdd, Nat.reduceSub, Nat.reduceEqDiff, Nat.reduceLeDiff, Nat.reduceLT, Nat.reduceBEq, Nat.reduceDiv, Nat.reduceMod, Nat.reducePow, Nat.reduceMul, Int.reduceToNat, Int.reduceLT, Int.reduceLE, shr8]) | refine W_block ?_ | (refine W_skip ?_; simp (maxSteps := 400000) (disch := omega) only [push_cast, ↓reduceIte, reduceCtorEq, Nat.reduceAdd, Nat.reduceSub, Nat.reduceEqDiff, Nat.reduceLeDiff, Nat.reduceLT, Nat.reduceBEq, Nat.reduceDiv, Nat.reduceMod, Nat.reducePow, Nat.reduceMul, Int.reduceToNat, Int.reduceLT, Int.reduceLE, shr8]) | (refine W_exit ?_; simp (maxSteps := 400000) (disch := omega) only [push_cast, ↓reduceIte, reduceCtorEq, Nat.reduceAdd, Nat.reduceSub, Nat.reduceEqDiff, Nat.reduceLeDiff, Nat.reduceLT, Nat.reduceBEq, Nat.reduceDiv, Nat.reduceMod, Nat.reducePow, Nat.reduceMul, Int.reduceToNat, Int.reduceLT, Int.reduceLE, shr8]) | refine And.intro (by omega) ?_ | refine And.intro (by intro hq; (try simp only [Bool.and_eq_true, Bool.or_eq_true, Bool.and_eq_false_iff, Bool.or_eq_false_iff, decide_eq_true_eq, decide_eq_false_iff_not, Bool.not_eq_true', Bool.not_eq_false', beq_iff_eq, beq_eq_false_iff_ne, ne_eq] at hq); omega) ?_ | fail)
      refine ⟨by rfl, ?_⟩
      simp (maxSteps := 400000) (disch := omega) only [push_cast, ↓reduceIte, reduceCtorEq, Nat.reduceAdd, Nat.reduceSub, Nat.reduceEqDiff, Nat.reduceLeDiff, Nat.reduceLT, Nat.reduceBEq, Nat.reduceDiv, Nat.reduceMod, Nat.reducePow, Nat.reduceMul, Int.reduceToNat, Int.reduceLT, Int.reduceLE, S.mk.injEq, List.cons.injEq, Prod.mk.injEq, AV.v.injEq, Value.int.injEq, Value.bool.injEq, Blk.cells.injEq]
      all_goals omega
    · rw [if_neg h, if_neg h]
      repeat' (first | refine WK_go ?_ | refine W_seqL ?_ | refine W_seq ?_ | (refine W_regL ?_; simp (maxSteps := 400000) (disch := omega) only [push_cast, ↓reduceIte, reduceCtorEq, Nat.reduceAdd, Nat.reduceSub, Nat.reduceEqDiff, Nat.reduceLeDiff, Nat.reduceLT, Nat.reduceBEq, Nat.reduceDiv, Nat.reduceMod, Nat.reducePow, Nat.reduceMul, Int.reduceToNat, Int.reduceLT, Int.reduceLE]) | refine W_block ?_ | (refine W_skip ?_; simp (maxSteps := 400000) (disch := omega) only [push_cast, ↓reduceIte, reduceCtorEq, Nat.reduceAdd, Nat.reduceSub, Nat.reduceEqDiff, Nat.reduceLeDiff, Nat.reduceLT, Nat.reduceBEq, Nat.reduceDiv, Nat.reduceMod, Nat.reducePow, Nat.reduceMul, Int.reduceToNat, Int.reduceLT, Int.reduceLE]) | (refine W_exit ?_; simp (maxSteps := 400000) (disch := omega) only [push_cast, ↓reduceIte, reduceCtorEq, Nat.reduceAdd, Nat.reduceSub, Nat.reduceEqDiff, Nat.reduceLeDiff, Nat.reduceLT, Nat.reduceBEq, Nat.reduceDiv, Nat.reduceMod, Nat.reducePow, Nat.reduceMul, Int.reduceToNat, Int.reduceLT, Int.reduceLE]) | refine And.intro (by omega) ?_ | refine And.intro (by intro hq; (try simp only [Bool.and_eq_true, Bool.or_eq_true, Bool.and_eq_false_iff, Bool.or_eq_false_iff, decide_eq_true_eq, decide_eq_false_iff_not, Bool.not_eq_true', Bool.not_eq_false', beq_iff_eq, beq_eq_false_iff_ne, ne_eq] at hq); omega) ?_ | fail)
      rfl
  simp (maxSteps := 400000) (disch := omega) only [push_cast, ↓reduceIte, reduceCtorEq, Nat.reduceAdd, Nat.reduceSub, Nat.reduceEqDiff, Nat.reduceLeDiff, Nat.reduceLT, Nat.reduceBEq, Nat.reduceDiv, Nat.reduceMod, Nat.reducePow, Nat.reduceMul, Int.reduceToNat, Int.reduceLT, Int.reduceLE]
  have hw : IntKind.u8.wrap u = u := by rw [IntKind.wrap_u8]; omega
  refine W_seq (W_regL ?_)
  rw [show ({ data := _ } : ByteArray) = tab from rfl]
  simp (maxSteps := 400000) (disch := omega) only [push_cast, ↓reduceIte, reduceCtorEq, Nat.reduceAdd, Nat.reduceSub, Nat.reduceEqDiff, Nat.reduceLeDiff, Nat.reduceLT, Nat.reduceBEq, Nat.reduceDiv, Nat.reduceMod, Nat.reducePow, Nat.reduceMul, Int.reduceToNat, Int.reduceLT, Int.reduceLE, hw, tab_size]
  refine ⟨⟨hub.1, hub.2⟩, ?_⟩
  exact W_ret ⟨[_], ⟨rfl, rfl⟩, rfl⟩
/-- LeadingZeros64 -/
theorem fn150 (x : Int) (h0 : 0 < x) (hx : x < 18446744073709551616) : ∃ n : Nat, n ≤ 64 ∧ Bits x n ∧ Sy.Fn Try.prog 150 [uw x] (iv (64 - n)) := by
  obtain ⟨n, hn, hb, c⟩ := fn153 x (by omega) hx
  refine ⟨n, hn, hb h0, ?_⟩
  refine Fn_of_W mixed Xt150 rfl ?_
  repeat' (first | refine WK_go ?_ | refine W_seqL ?_ | refine W_seq ?_ | (refine W_regL ?_; simp (maxSteps := 400000) (disch := omega) only [push_cast, ↓reduceIte, reduceCtorEq, Nat.reduceAdd, Nat.reduceSub, Nat.reduceEqDiff, Nat.reduceLeDiff, Nat.reduceLT, Nat.reduceBEq, Nat.reduceDiv, Nat.reduceMod, Nat.reducePow, Nat.reduceMul, Int.reduceToNat, Int.reduceLT, Int.reduceLE]) | refine W_block ?_ | (refine W_skip ?_; simp (maxSteps := 400000) (disch := omega) only [push_cast, ↓reduceIte, reduceCtorEq, Nat.reduceAdd, Nat.reduceSub, Nat.reduceEqDiff, Nat.reduceLeDiff, Nat.reduceLT, Nat.reduceBEq, Nat.reduceDiv, Nat.reduceMod, Nat.reducePow, Nat.reduceMul, Int.reduceToNat, Int.reduceLT, Int.reduceLE]) | (refine W_exit ?_; simp (maxSteps := 400000) (disch := omega) only [push_cast, ↓reduceIte, reduceCtorEq, Nat.reduceAdd, Nat.reduceSub, Nat.reduceEqDiff, Nat.reduceLeDiff, Nat.reduceLT, Nat.reduceBEq, Nat.reduceDiv, Nat.reduceMod, Nat.reducePow, Nat.reduceMul, Int.reduceToNat, Int.reduceLT, Int.reduceLE]) | refine And.intro (by omega) ?_ | refine And.intro (by intro hq; (try simp only [Bool.and_eq_true, Bool.or_eq_true, Bool.and_eq_false_iff, Bool.or_eq_false_iff, decide_eq_true_eq, decide_eq_false_iff_not, Bool.not_eq_true', Bool.not_eq_false', beq_iff_eq, beq_eq_false_iff_ne, ne_eq] at hq); omega) ?_ | (refine CallC.now (c) ?_; simp (maxSteps := 400000) (disch := omega) only [push_cast, ↓reduceIte, reduceCtorEq, Nat.reduceAdd, Nat.reduceSub, Nat.reduceEqDiff, Nat.reduceLeDiff, Nat.reduceLT, Nat.reduceBEq, Nat.reduceDiv, Nat.reduceMod, Nat.reducePow, Nat.reduceMul, Int.reduceToNat, Int.reduceLT, Int.reduceLE]) | fail)
  exact W_ret ⟨[_], ⟨rfl, rfl⟩, rfl⟩
end Go.Proofs.Ytfkjdjlcaojedaa

/- The long division: the plain law. -/
namespace Go.Proofs.Ytfkjdjlcaojedaa
open Go Sy
set_option maxRecDepth 100000
set_option linter.unusedVariables false
/-- half of the division: a divisor of 64 bits, the upper part of what is divided, the next digit -/
structure Half (Y u d : Int) : Prop where
  y : 9223372036854775808 ≤ Y ∧ Y < 18446744073709551616
  u : 0 ≤ u ∧ u < Y
  d : 0 ≤ d ∧ d < 4294967296
def Half.q (Y u d : Int) : Int := (u * 4294967296 + d) / Y
theorem split_Y (Y q : Int) : q * Y = (q * (Y / 4294967296)) * 4294967296 + q * (Y % 4294967296) := by
  have h : Y = Y / 4294967296 * 4294967296 + Y % 4294967296 := by omega
  rw [Int.mul_assoc, ← Int.mul_add, ← h]
theorem Half.no {Y u d q r : Int} (h : Half Y u d) (e : q * (Y / 4294967296) + r = u) (hc : q * (Y % 4294967296) ≤ 4294967296 * r + d) : q ≤ Half.q Y u d := by
  unfold Half.q
  have := h.y
  rw [Int.le_ediv_iff_mul_le (by omega), split_Y Y q]
  omega
theorem Half.yes {Y u d q r : Int} (h : Half Y u d) (e : q * (Y / 4294967296) + r = u) (hc : 4294967296 * r + d < q * (Y % 4294967296)) : Half.q Y u d < q := by
  unfold Half.q
  have := h.y
  rw [Int.ediv_lt_iff_lt_mul (by omega), split_Y Y q]
  omega
theorem Half.lt {Y u d : Int} (h : Half Y u d) : 0 ≤ Half.q Y u d ∧ Half.q Y u d < 4294967296 := by
  have h1 := h.y; have h2 := h.u; have h3 := h.d
  unfold Half.q
  constructor
  · exact Int.ediv_nonneg (by omega) (by omega)
  · rw [Int.ediv_lt_iff_lt_mul (by omega)]
    omega
theorem Half.start {Y u d : Int} (h : Half Y u d) : u / (Y / 4294967296) * (Y / 4294967296) + u % (Y / 4294967296) = u ∧ Half.q Y u d ≤ u / (Y / 4294967296) ∧ u / (Y / 4294967296) ≤ 4294967297 ∧ 0 ≤ u % (Y / 4294967296) ∧ u % (Y / 4294967296) < 4294967296 := by
  have h1 := h.y; have h2 := h.u; have h3 := h.d
  have hlt := h.lt
  have hp : 0 < Y / 4294967296 := by omega
  have e := Int.ediv_mul_add_emod u (Y / 4294967296)
  have e1 := Int.emod_nonneg u (Int.ne_of_gt hp)
  have e2 := Int.emod_lt_of_pos u hp
  refine ⟨e, ?_, ?_, e1, by omega⟩
  · rw [Int.le_ediv_iff_mul_le hp]
    have h4 : Half.q Y u d * Y ≤ u * 4294967296 + d := Int.ediv_mul_le _ (by omega)
    rw [split_Y Y (Half.q Y u d)] at h4
    have h5 : 0 ≤ Half.q Y u d * (Y % 4294967296) := Int.mul_nonneg hlt.1 (by omega)
    omega
  · have h4 : u / (Y / 4294967296) < 4294967298 := by
      rw [Int.ediv_lt_iff_lt_mul hp]
      omega
    omega
/-- one step of the loop -/
theorem Half.step {Y u d q r : Int} (h : Half Y u d) (e : q * (Y / 4294967296) + r = u) (hq : Half.q Y u d ≤ q) (hc : 4294967296 ≤ q ∨ 4294967296 * r + d < q * (Y % 4294967296)) : (q - 1) * (Y / 4294967296) + (r + Y / 4294967296) = u ∧ Half.q Y u d ≤ q - 1 := by
  have hlt := h.lt
  refine ⟨by rw [Int.sub_mul, Int.one_mul]; omega, ?_⟩
  rcases hc with hc | hc
  · omega
  · have := h.yes e hc; omega
theorem Half.break {Y u d q r : Int} (h : Half Y u d) (e : q * (Y / 4294967296) + r = u) (hq : Half.q Y u d ≤ q) (hb : q ≤ 4294967296) (hr : 4294967296 ≤ r) : q = Half.q Y u d := by
  have h1 := h.y; have h2 := h.u; have h3 := h.d
  have hlt := h.lt
  have m : q * (Y % 4294967296) ≤ 4294967296 * 4294967295 := Int.mul_le_mul hb (by omega) (by omega) (by omega)
  have := h.no e (by omega)
  omega
theorem Half.stop {Y u d q r : Int} (h : Half Y u d) (e : q * (Y / 4294967296) + r = u) (hq : Half.q Y u d ≤ q) (hc : q * (Y % 4294967296) ≤ 4294967296 * r + d) : q = Half.q Y u d := by
  have := h.no e hc
  omega
/-- what is left -/
def Half.r (Y u d : Int) : Int := u * 4294967296 + d - Half.q Y u d * Y
theorem Half.r_lt {Y u d : Int} (h : Half Y u d) : 0 ≤ Half.r Y u d ∧ Half.r Y u d < Y := by
  have h1 := h.y
  have e := Int.ediv_mul_add_emod (u * 4294967296 + d) Y
  have e1 := Int.emod_nonneg (u * 4294967296 + d) (show Y ≠ 0 by omega)
  have e2 := Int.emod_lt_of_pos (u * 4294967296 + d) (show 0 < Y by omega)
  unfold Half.r Half.q
  omega
/-- both halves -/
theorem long_div {y P N u d1 d0 : Int} (hy : 0 < y) (hP : 0 < P) (e : N * P = u * 18446744073709551616 + d1 * 4294967296 + d0) (h : Half (y * P) u d1) (h0 : Half (y * P) (Half.r (y * P) u d1) d0) :
    Half.q (y * P) u d1 * 4294967296 + Half.q (y * P) (Half.r (y * P) u d1) d0 = N / y ∧ Half.r (y * P) (Half.r (y * P) u d1) d0 / P = N % y := by
  have hr := h0.r_lt
  have e1 : Half.r (y * P) u d1 = u * 4294967296 + d1 - Half.q (y * P) u d1 * (y * P) := rfl
  have e2 : Half.r (y * P) (Half.r (y * P) u d1) d0 = Half.r (y * P) u d1 * 4294967296 + d0 - Half.q (y * P) (Half.r (y * P) u d1) d0 * (y * P) := rfl
  generalize hR0 : Half.r (y * P) (Half.r (y * P) u d1) d0 = R0 at *
  generalize hR1 : Half.r (y * P) u d1 = R1 at *
  generalize hq1 : Half.q (y * P) u d1 = q1 at *
  generalize hq0 : Half.q (y * P) R1 d0 = q0 at *
  have e3 : (q1 * 4294967296 + q0) * (y * P) = q1 * (y * P) * 4294967296 + q0 * (y * P) := by
    rw [Int.add_mul, Int.mul_assoc, Int.mul_comm 4294967296, ← Int.mul_assoc]
  have e4 : R0 = (N - (q1 * 4294967296 + q0) * y) * P := by
    rw [Int.sub_mul, Int.mul_assoc, e3]
    omega
  have e5 : R0 / P = N - (q1 * 4294967296 + q0) * y := by
    rw [e4, Int.mul_ediv_cancel _ (Int.ne_of_gt hP)]
  have e6 : 0 ≤ N - (q1 * 4294967296 + q0) * y := by
    rw [e4] at hr
    exact Int.nonneg_of_mul_nonneg_left hr.1 hP
  have e7 : N - (q1 * 4294967296 + q0) * y < y := by
    rw [e4] at hr
    exact Int.lt_of_mul_lt_mul_right hr.2 (Int.le_of_lt hP)
  have e8 : N / y = q1 * 4294967296 + q0 := by
    have h1 : q1 * 4294967296 + q0 ≤ N / y := by rw [Int.le_ediv_iff_mul_le hy]; omega
    have h2 : N / y < q1 * 4294967296 + q0 + 1 := by rw [Int.ediv_lt_iff_lt_mul hy, Int.add_mul]; omega
    omega
  refine ⟨e8.symm, ?_⟩
  rw [e5, Int.emod_def, e8, Int.mul_comm]
/-- the shift to a divisor of 64 bits -/
theorem shift_up {y : Int} {n : Nat} (h : Bits y n) (hn : n ≤ 64) : 9223372036854775808 ≤ y * 2 ^ (64 - n) ∧ y * 2 ^ (64 - n) < 18446744073709551616 := by
  obtain ⟨h1, h2⟩ := h
  have hk : (0 : Int) < 2 ^ (64 - n) := Int.pow_pos (by omega)
  have e : (2 : Int) ^ n * 2 ^ (64 - n) = 18446744073709551616 := by
    rw [← Int.pow_add, show n + (64 - n) = 64 by omega]; rfl
  have m1 := Int.mul_le_mul_of_nonneg_right h1 (Int.le_of_lt hk)
  have m2 := Int.mul_lt_mul_of_pos_right h2 hk
  rw [Int.mul_assoc] at m1
  omega
theorem shift_parts {hi lo y : Int} {n : Nat} (hn : n ≤ 64) (h : 0 ≤ hi ∧ hi < y) (hl : 0 ≤ lo ∧ lo < 18446744073709551616) :
    (hi * 18446744073709551616 + lo) * 2 ^ (64 - n) = (hi * 2 ^ (64 - n) + lo / 2 ^ n) * 18446744073709551616 + lo * 2 ^ (64 - n) % 18446744073709551616 ∧
    0 ≤ hi * 2 ^ (64 - n) + lo / 2 ^ n ∧ hi * 2 ^ (64 - n) + lo / 2 ^ n < y * 2 ^ (64 - n) ∧ 0 ≤ lo / 2 ^ n ∧ lo / 2 ^ n < 2 ^ (64 - n) := by
  have hk : (0 : Int) < 2 ^ (64 - n) := Int.pow_pos (by omega)
  have hk2 : (0 : Int) < 2 ^ n := Int.pow_pos (by omega)
  have e : (2 : Int) ^ n * 2 ^ (64 - n) = 18446744073709551616 := by
    rw [← Int.pow_add, show n + (64 - n) = 64 by omega]; rfl
  have e2 : lo * 2 ^ (64 - n) / 18446744073709551616 = lo / 2 ^ n := by
    rw [← e]; exact Int.mul_ediv_mul_of_pos_left _ _ hk
  have h1 : 0 ≤ lo / 2 ^ n := Int.ediv_nonneg hl.1 (Int.le_of_lt hk2)
  have h2 : lo / 2 ^ n < 2 ^ (64 - n) := by
    rw [Int.ediv_lt_iff_lt_mul hk2, Int.mul_comm, e]; exact hl.2
  have h3 : 0 ≤ hi * 2 ^ (64 - n) := Int.mul_nonneg h.1 (Int.le_of_lt hk)
  have h4 := Int.mul_le_mul_of_nonneg_right (show hi + 1 ≤ y by omega) (Int.le_of_lt hk)
  rw [Int.add_mul, Int.one_mul] at h4
  refine ⟨?_, by omega, by omega, h1, h2⟩
  rw [Int.add_mul, Int.mul_assoc, Int.mul_comm 18446744073709551616, ← Int.mul_assoc]
  omega
/-- a sum without a carry -/
theorem or_add {a b : Int} {k : Nat} (ha : 0 ≤ a) (hb : 0 ≤ b) (hlt : b < 2 ^ k) (h : a * 2 ^ k + b < 18446744073709551616) : bits .or .u64 (a * 2 ^ k) b = a * 2 ^ k + b := by
  obtain ⟨x, rfl⟩ : ∃ x : Nat, a = x := ⟨a.toNat, by omega⟩
  obtain ⟨y, rfl⟩ : ∃ y : Nat, b = y := ⟨b.toNat, by omega⟩
  have e : (x : Int) * 2 ^ k = ((x * 2 ^ k : Nat) : Int) := by rw [Int.natCast_mul, Int.natCast_pow]; rfl
  have hl : y < 2 ^ k := by
    have : ((2 ^ k : Nat) : Int) = (2 : Int) ^ k := Int.natCast_pow 2 k
    omega
  rw [e] at h ⊢
  rw [bits_or_u64_nat _ _ (by omega) (by omega), ← Nat.shiftLeft_eq, ← Nat.shiftLeft_add_eq_or_of_lt hl]
  omega
end Go.Proofs.Ytfkjdjlcaojedaa

/- The long division: the walk. -/
namespace Go.Proofs.Ytfkjdjlcaojedaa
open Go Sy
set_option maxRecDepth 100000
set_option maxHeartbeats 4000000
set_option linter.unusedVariables false
set_option linter.unusedSimpArgs false
theorem wrapU {x : Int} (h : 0 ≤ x ∧ x < 18446744073709551616) : IntKind.u64.wrap x = x := by rw [IntKind.wrap_u64]; omega
theorem maskI {a : Int} (h : 0 ≤ a ∧ a < 18446744073709551616) : bits .and .u64 a 4294967295 = a % 4294967296 := by
  obtain ⟨n, rfl⟩ : ∃ n : Nat, a = n := ⟨a.toNat, by omega⟩
  rw [maskN n (by omega)]; omega
theorem wrap_rem {a b c r : Int} (h : a + b - c = r) (hr : 0 ≤ r ∧ r < 18446744073709551616) : IntKind.u64.wrap (IntKind.u64.wrap (IntKind.u64.wrap a + b) - IntKind.u64.wrap c) = r := by
  simp only [IntKind.wrap_u64]; omega
theorem fn144 (hi lo y : Int) (h : 0 ≤ hi ∧ hi < y) (hl : 0 ≤ lo ∧ lo < 18446744073709551616) (hy : y < 18446744073709551616) : Sy.Fn Try.prog 144 [uw hi, uw lo, uw y] (.tup [uw ((hi * 18446744073709551616 + lo) / y), uw ((hi * 18446744073709551616 + lo) % y)]) := by
  refine Fn_of_W mixed Xt144 rfl ?_
  obtain ⟨n, hn, hb, c⟩ := fn150 y (by omega) hy
  have hsu := shift_up hb hn
  obtain ⟨hp1, hp2, hp3, hp4, hp5⟩ := shift_parts hn h hl
  repeat' (first | refine WK_go ?_ | refine W_seqL ?_ | refine W_seq ?_ | (refine W_regL ?_; simp (maxSteps := 400000) (disch := omega) only [push_cast, ↓reduceIte, reduceCtorEq, Nat.reduceAdd, Nat.reduceSub, Nat.reduceEqDiff, Nat.reduceLeDiff, Nat.reduceLT, Nat.reduceBEq, Nat.reduceDiv, Nat.reduceMod, Nat.reducePow, Nat.reduceMul, Int.reduceToNat, Int.reduceLT, Int.reduceLE]) | refine W_block ?_ | (refine W_skip ?_; simp (maxSteps := 400000) (disch := omega) only [push_cast, ↓reduceIte, reduceCtorEq, Nat.reduceAdd, Nat.reduceSub, Nat.reduceEqDiff, Nat.reduceLeDiff, Nat.reduceLT, Nat.reduceBEq, Nat.reduceDiv, Nat.reduceMod, Nat.reducePow, Nat.reduceMul, Int.reduceToNat, Int.reduceLT, Int.reduceLE]) | (refine W_exit ?_; simp (maxSteps := 400000) (disch := omega) only [push_cast, ↓reduceIte, reduceCtorEq, Nat.reduceAdd, Nat.reduceSub, Nat.reduceEqDiff, Nat.reduceLeDiff, Nat.reduceLT, Nat.reduceBEq, Nat.reduceDiv, Nat.reduceMod, Nat.reducePow, Nat.reduceMul, Int.reduceToNat, Int.reduceLT, Int.reduceLE]) | refine And.intro (by omega) ?_ | refine And.intro (by intro hq; (try simp only [Bool.and_eq_true, Bool.or_eq_true, Bool.and_eq_false_iff, Bool.or_eq_false_iff, decide_eq_true_eq, decide_eq_false_iff_not, Bool.not_eq_true', Bool.not_eq_false', beq_iff_eq, beq_eq_false_iff_ne, ne_eq] at hq); omega) ?_ | fail)
  refine W_cond (by rfl) (fun h1 => by rw [beq_iff_eq] at h1; omega) (fun _ => ?_)
  repeat' (first | refine WK_go ?_ | refine W_seqL ?_ | refine W_seq ?_ | (refine W_regL ?_; simp (maxSteps := 400000) (disch := omega) only [push_cast, ↓reduceIte, reduceCtorEq, Nat.reduceAdd, Nat.reduceSub, Nat.reduceEqDiff, Nat.reduceLeDiff, Nat.reduceLT, Nat.reduceBEq, Nat.reduceDiv, Nat.reduceMod, Nat.reducePow, Nat.reduceMul, Int.reduceToNat, Int.reduceLT, Int.reduceLE]) | refine W_block ?_ | (refine W_skip ?_; simp (maxSteps := 400000) (disch := omega) only [push_cast, ↓reduceIte, reduceCtorEq, Nat.reduceAdd, Nat.reduceSub, Nat.reduceEqDiff, Nat.reduceLeDiff, Nat.reduceLT, Nat.reduceBEq, Nat.reduceDiv, Nat.reduceMod, Nat.reducePow, Nat.reduceMul, Int.reduceToNat, Int.reduceLT, Int.reduceLE]) | (refine W_exit ?_; simp (maxSteps := 400000) (disch := omega) only [push_cast, ↓reduceIte, reduceCtorEq, Nat.reduceAdd, Nat.reduceSub, Nat.reduceEqDiff, Nat.reduceLeDiff, Nat.reduceLT, Nat.reduceBEq, Nat.reduceDiv, Nat.reduceMod, Nat.reducePow, Nat.reduceMul, Int.reduceToNat, Int.reduceLT, Int.reduceLE]) | refine And.intro (by omega) ?_ | refine And.intro (by intro hq; (try simp only [Bool.and_eq_true, Bool.or_eq_true, Bool.and_eq_false_iff, Bool.or_eq_false_iff, decide_eq_true_eq, decide_eq_false_iff_not, Bool.not_eq_true', Bool.not_eq_false', beq_iff_eq, beq_eq_false_iff_ne, ne_eq] at hq); omega) ?_ | fail)
  refine W_condD (by rfl) (fun h1 => by omega) (fun _ => ?_)
  repeat' (first | refine WK_go ?_ | refine W_seqL ?_ | refine W_seq ?_ | (refine W_regL ?_; simp (maxSteps := 400000) (disch := omega) only [push_cast, ↓reduceIte, reduceCtorEq, Nat.reduceAdd, Nat.reduceSub, Nat.reduceEqDiff, Nat.reduceLeDiff, Nat.reduceLT, Nat.reduceBEq, Nat.reduceDiv, Nat.reduceMod, Nat.reducePow, Nat.reduceMul, Int.reduceToNat, Int.reduceLT, Int.reduceLE]) | refine W_block ?_ | (refine W_skip ?_; simp (maxSteps := 400000) (disch := omega) only [push_cast, ↓reduceIte, reduceCtorEq, Nat.reduceAdd, Nat.reduceSub, Nat.reduceEqDiff, Nat.reduceLeDiff, Nat.reduceLT, Nat.reduceBEq, Nat.reduceDiv, Nat.reduceMod, Nat.reducePow, Nat.reduceMul, Int.reduceToNat, Int.reduceLT, Int.reduceLE]) | (refine W_exit ?_; simp (maxSteps := 400000) (disch := omega) only [push_cast, ↓reduceIte, reduceCtorEq, Nat.reduceAdd, Nat.reduceSub, Nat.reduceEqDiff, Nat.reduceLeDiff, Nat.reduceLT, Nat.reduceBEq, Nat.reduceDiv, Nat.reduceMod, Nat.reducePow, Nat.reduceMul, Int.reduceToNat, Int.reduceLT, Int.reduceLE]) | refine And.intro (by omega) ?_ | refine And.intro (by intro hq; (try simp only [Bool.and_eq_true, Bool.or_eq_true, Bool.and_eq_false_iff, Bool.or_eq_false_iff, decide_eq_true_eq, decide_eq_false_iff_not, Bool.not_eq_true', Bool.not_eq_false', beq_iff_eq, beq_eq_false_iff_ne, ne_eq] at hq); omega) ?_ | fail)
  refine W_cond (by rfl) (fun h1 => ?_) (fun h1 => ?_)
  · rw [beq_iff_eq] at h1
    subst h1
    have e1 := Int.ediv_nonneg hl.1 (show 0 ≤ y by omega)
    have e2 : lo / y ≤ lo := Int.ediv_le_self _ hl.1
    repeat' (first | refine WK_go ?_ | refine W_seqL ?_ | refine W_seq ?_ | (refine W_regL ?_; simp (maxSteps := 400000) (disch := omega) only [push_cast, ↓reduceIte, reduceCtorEq, Nat.reduceAdd, Nat.reduceSub, Nat.reduceEqDiff, Nat.reduceLeDiff, Nat.reduceLT, Nat.reduceBEq, Nat.reduceDiv, Nat.reduceMod, Nat.reducePow, Nat.reduceMul, Int.reduceToNat, Int.reduceLT, Int.reduceLE, Int.tdiv_eq_ediv_of_nonneg, Int.tmod_eq_emod_of_nonneg, wrapU]) | refine W_block ?_ | (refine W_skip ?_; simp (maxSteps := 400000) (disch := omega) only [push_cast, ↓reduceIte, reduceCtorEq, Nat.reduceAdd, Nat.reduceSub, Nat.reduceEqDiff, Nat.reduceLeDiff, Nat.reduceLT, Nat.reduceBEq, Nat.reduceDiv, Nat.reduceMod, Nat.reducePow, Nat.reduceMul, Int.reduceToNat, Int.reduceLT, Int.reduceLE, Int.tdiv_eq_ediv_of_nonneg, Int.tmod_eq_emod_of_nonneg, wrapU]) | (refine W_exit ?_; simp (maxSteps := 400000) (disch := omega) only [push_cast, ↓reduceIte, reduceCtorEq, Nat.reduceAdd, Nat.reduceSub, Nat.reduceEqDiff, Nat.reduceLeDiff, Nat.reduceLT, Nat.reduceBEq, Nat.reduceDiv, Nat.reduceMod, Nat.reducePow, Nat.reduceMul, Int.reduceToNat, Int.reduceLT, Int.reduceLE, Int.tdiv_eq_ediv_of_nonneg, Int.tmod_eq_emod_of_nonneg, wrapU]) | refine And.intro (by omega) ?_ | refine And.intro (by intro hq; (try simp only [Bool.and_eq_true, Bool.or_eq_true, Bool.and_eq_false_iff, Bool.or_eq_false_iff, decide_eq_true_eq, decide_eq_false_iff_not, Bool.not_eq_true', Bool.not_eq_false', beq_iff_eq, beq_eq_false_iff_ne, ne_eq] at hq); omega) ?_ | fail)
    exact W_ret ⟨[_, _], ⟨rfl, rfl, rfl⟩, by simp; rfl⟩
  have w1 : IntKind.u64.wrap (64 - (n : Int)) = 64 - n := wrapU ⟨by omega, by omega⟩
  have w2 : min (64 - (n : Int)).toNat IntKind.u64.bits = 64 - n := by show min _ 64 = _; omega
  have w3 : min n IntKind.u64.bits = n := by show min _ 64 = _; omega
  have w4 : IntKind.u64.wrap (n : Int) = n := wrapU ⟨by omega, by omega⟩
  have hk : (0 : Int) < 2 ^ (64 - n) := Int.pow_pos (by omega)
  have hh : 0 ≤ hi * 2 ^ (64 - n) := Int.mul_nonneg h.1 (Int.le_of_lt hk)
  have w5 : IntKind.u64.wrap (64 - (64 - (n : Int))) = n := by rw [show 64 - (64 - (n : Int)) = n by omega]; exact w4
  have w6 : IntKind.u64.wrap (y * 2 ^ (64 - n)) = y * 2 ^ (64 - n) := wrapU (by omega)
  have w7 : IntKind.u64.wrap (hi * 2 ^ (64 - n)) = hi * 2 ^ (64 - n) := wrapU (by omega)
  have w8 : lo.fdiv (2 ^ n) = lo / 2 ^ n := Int.fdiv_eq_ediv_of_nonneg _ (Int.le_of_lt (Int.pow_pos (by omega)))
  have w9 := or_add (a := hi) (b := lo / 2 ^ n) (k := 64 - n) h.1 hp4 hp5 (by omega)
  have w10 : IntKind.u64.wrap (lo * 2 ^ (64 - n)) = lo * 2 ^ (64 - n) % 18446744073709551616 := IntKind.wrap_u64 _
  have wm := maskI (a := y * 2 ^ (64 - n)) (by omega)
  have wm2 := maskI (a := lo * 2 ^ (64 - n) % 18446744073709551616) (by omega)
  have hld := fun d1 d0 => long_div (y := y) (P := 2 ^ (64 - n)) (N := hi * 18446744073709551616 + lo) (u := hi * 2 ^ (64 - n) + lo / 2 ^ n) (d1 := d1) (d0 := d0) (by omega) hk
  repeat' (first | refine WK_go ?_ | refine W_seqL ?_ | refine W_seq ?_ | (refine W_regL ?_; simp (maxSteps := 400000) (disch := omega) only [push_cast, ↓reduceIte, reduceCtorEq, Nat.reduceAdd, Nat.reduceSub, Nat.reduceEqDiff, Nat.reduceLeDiff, Nat.reduceLT, Nat.reduceBEq, Nat.reduceDiv, Nat.reduceMod, Nat.reducePow, Nat.reduceMul, Int.reduceToNat, Int.reduceLT, Int.reduceLE, w1, w2, w3, w4, w5, w6, w7, w8, w9, w10, wm, wm2, shr32]) | refine W_block ?_ | (refine W_skip ?_; simp (maxSteps := 400000) (disch := omega) only [push_cast, ↓reduceIte, reduceCtorEq, Nat.reduceAdd, Nat.reduceSub, Nat.reduceEqDiff, Nat.reduceLeDiff, Nat.reduceLT, Nat.reduceBEq, Nat.reduceDiv, Nat.reduceMod, Nat.reducePow, Nat.reduceMul, Int.reduceToNat, Int.reduceLT, Int.reduceLE, w1, w2, w3, w4, w5, w6, w7, w8, w9, w10, wm, wm2, shr32]) | (refine W_exit ?_; simp (maxSteps := 400000) (disch := omega) only [push_cast, ↓reduceIte, reduceCtorEq, Nat.reduceAdd, Nat.reduceSub, Nat.reduceEqDiff, Nat.reduceLeDiff, Nat.reduceLT, Nat.reduceBEq, Nat.reduceDiv, Nat.reduceMod, Nat.reducePow, Nat.reduceMul, Int.reduceToNat, Int.reduceLT, Int.reduceLE, w1, w2, w3, w4, w5, w6, w7, w8, w9, w10, wm, wm2, shr32]) | refine And.intro (by omega) ?_ | refine And.intro (by intro hq; (try simp only [Bool.and_eq_true, Bool.or_eq_true, Bool.and_eq_false_iff, Bool.or_eq_false_iff, decide_eq_true_eq, decide_eq_false_iff_not, Bool.not_eq_true', Bool.not_eq_false', beq_iff_eq, beq_eq_false_iff_ne, ne_eq] at hq); omega) ?_ | (refine CallC.now (c) ?_; simp (maxSteps := 400000) (disch := omega) only [push_cast, ↓reduceIte, reduceCtorEq, Nat.reduceAdd, Nat.reduceSub, Nat.reduceEqDiff, Nat.reduceLeDiff, Nat.reduceLT, Nat.reduceBEq, Nat.reduceDiv, Nat.reduceMod, Nat.reducePow, Nat.reduceMul, Int.reduceToNat, Int.reduceLT, Int.reduceLE, w1, w2, w3, w4, w5, w6, w7, w8, w9, w10, wm, wm2, shr32]) | fail)
  generalize hD : y * 2 ^ (64 - n) = Y at *
  generalize hU : hi * 2 ^ (64 - n) + lo / 2 ^ n = u at *
  generalize hE : lo * 2 ^ (64 - n) % 18446744073709551616 = e at *
  have heb : 0 ≤ e ∧ e < 18446744073709551616 := by subst hE; omega
  have H1 : Half Y u (e / 4294967296) := ⟨hsu, ⟨hp2, hp3⟩, by omega⟩
  obtain ⟨s1, s2, s3, s4, s5⟩ := H1.start
  have v1 : u.tdiv (Y / 4294967296) = u / (Y / 4294967296) := Int.tdiv_eq_ediv_of_nonneg hp2
  have s0 : 0 ≤ u / (Y / 4294967296) := Int.ediv_nonneg hp2 (by omega)
  have v2 : IntKind.u64.wrap (u / (Y / 4294967296)) = u / (Y / 4294967296) := wrapU (by omega)
  have s00 : 0 ≤ u / (Y / 4294967296) * (Y / 4294967296) := Int.mul_nonneg s0 (by omega)
  have v3 : IntKind.u64.wrap (u / (Y / 4294967296) * (Y / 4294967296)) = u / (Y / 4294967296) * (Y / 4294967296) := wrapU (by omega)
  have v4 : IntKind.u64.wrap (u - u / (Y / 4294967296) * (Y / 4294967296)) = u % (Y / 4294967296) := by
    rw [show u - u / (Y / 4294967296) * (Y / 4294967296) = u % (Y / 4294967296) by omega]; exact wrapU (by omega)
  rw [v1, v2, v3, v4]
  generalize hq0 : u / (Y / 4294967296) = q0 at *
  generalize hr0 : u % (Y / 4294967296) = r0 at *
  generalize hQ : Half.q Y u (e / 4294967296) = Q1 at *
  have wd : 0 ≤ e / 4294967296 ∧ e / 4294967296 < 4294967296 := by omega
  have we : 0 ≤ e % 4294967296 ∧ e % 4294967296 < 4294967296 := by omega
  have hQb := H1.lt
  refine W_meetB [(15, uw Q1)] [] ?_ ?_
  · refine W_loopU (fun p : Int × Int => [(15, uw p.1), (16, uw p.2)]) (fun i => []) (fun p => p.1 * (Y / 4294967296) + p.2 = u ∧ Q1 ≤ p.1 ∧ p.1 ≤ 4294967297 ∧ 0 ≤ p.2 ∧ p.2 < 4294967296) (fun p => p.1.toNat) (q0, r0) ⟨s1, s2, s3, s4, s5⟩ (by rfl) (by rfl) (fun p hp => ?_)
    obtain ⟨q, r⟩ := p
    obtain ⟨i1, i2, i3, i4, i5⟩ := hp
    simp only at i1 i2 i3 i4 i5
    have m0 : 0 ≤ q * (Y % 4294967296) := Int.mul_nonneg (by omega) (by omega)
    have v5 : IntKind.u64.wrap (4294967296 * r) = 4294967296 * r := wrapU (by omega)
    have v6 : IntKind.u64.wrap (4294967296 * r + e / 4294967296) = 4294967296 * r + e / 4294967296 := wrapU (by omega)
    have m1 : q < 4294967296 → q * (Y % 4294967296) ≤ 4294967295 * 4294967295 := fun hq => Int.mul_le_mul (by omega) (by omega) (by omega) (by omega)
    have v7 : q < 4294967296 → IntKind.u64.wrap (q * (Y % 4294967296)) = q * (Y % 4294967296) := fun hq => wrapU ⟨m0, by have := m1 hq; omega⟩
    simp (maxSteps := 400000) (disch := omega) only [push_cast, ↓reduceIte, reduceCtorEq, Nat.reduceAdd, Nat.reduceSub, Nat.reduceEqDiff, Nat.reduceLeDiff, Nat.reduceLT, Nat.reduceBEq, Nat.reduceDiv, Nat.reduceMod, Nat.reducePow, Nat.reduceMul, Int.reduceToNat, Int.reduceLT, Int.reduceLE]
    repeat' (first | refine WK_go ?_ | refine W_seqL ?_ | refine W_seq ?_ | (refine W_regL ?_; simp (maxSteps := 400000) (disch := omega) only [push_cast, ↓reduceIte, reduceCtorEq, Nat.reduceAdd, Nat.reduceSub, Nat.reduceEqDiff, Nat.reduceLeDiff, Nat.reduceLT, Nat.reduceBEq, Nat.reduceDiv, Nat.reduceMod, Nat.reducePow, Nat.reduceMul, Int.reduceToNat, Int.reduceLT, Int.reduceLE, v5, v6]) | refine W_block ?_ | (refine W_skip ?_; simp (maxSteps := 400000) (disch := omega) only [push_cast, ↓reduceIte, reduceCtorEq, Nat.reduceAdd, Nat.reduceSub, Nat.reduceEqDiff, Nat.reduceLeDiff, Nat.reduceLT, Nat.reduceBEq, Nat.reduceDiv, Nat.reduceMod, Nat.reducePow, Nat.reduceMul, Int.reduceToNat, Int.reduceLT, Int.reduceLE, v5, v6]) | (refine W_exit ?_; simp (maxSteps := 400000) (disch := omega) only [push_cast, ↓reduceIte, reduceCtorEq, Nat.reduceAdd, Nat.reduceSub, Nat.reduceEqDiff, Nat.reduceLeDiff, Nat.reduceLT, Nat.reduceBEq, Nat.reduceDiv, Nat.reduceMod, Nat.reducePow, Nat.reduceMul, Int.reduceToNat, Int.reduceLT, Int.reduceLE, v5, v6]) | refine And.intro (by omega) ?_ | refine And.intro (by intro hq; (try simp only [Bool.and_eq_true, Bool.or_eq_true, Bool.and_eq_false_iff, Bool.or_eq_false_iff, decide_eq_true_eq, decide_eq_false_iff_not, Bool.not_eq_true', Bool.not_eq_false', beq_iff_eq, beq_eq_false_iff_ne, ne_eq] at hq); omega) ?_ | fail)
    refine W_cond (by rfl) (fun hb => ?_) (fun hb => ?_)
    · have hc : 4294967296 ≤ q ∨ 4294967296 * r + e / 4294967296 < q * (Y % 4294967296) := by
        rw [Bool.or_eq_true, decide_eq_true_eq, decide_eq_true_eq] at hb
        by_cases hq : 4294967296 ≤ q
        · exact .inl hq
        · rw [v7 (by omega)] at hb
          exact .inr (hb.resolve_left hq)
      obtain ⟨t1, t2⟩ := H1.step i1 (by rw [hQ]; exact i2) hc
      rw [hQ] at t2
      have v8 : IntKind.u64.wrap (q - 1) = q - 1 := wrapU (by omega)
      have v9 : IntKind.u64.wrap (r + Y / 4294967296) = r + Y / 4294967296 := wrapU (by omega)
      repeat' (first | refine WK_go ?_ | refine W_seqL ?_ | refine W_seq ?_ | (refine W_regL ?_; simp (maxSteps := 400000) (disch := omega) only [push_cast, ↓reduceIte, reduceCtorEq, Nat.reduceAdd, Nat.reduceSub, Nat.reduceEqDiff, Nat.reduceLeDiff, Nat.reduceLT, Nat.reduceBEq, Nat.reduceDiv, Nat.reduceMod, Nat.reducePow, Nat.reduceMul, Int.reduceToNat, Int.reduceLT, Int.reduceLE, v8, v9]) | refine W_block ?_ | (refine W_skip ?_; simp (maxSteps := 400000) (disch := omega) only [push_cast, ↓reduceIte, reduceCtorEq, Nat.reduceAdd, Nat.reduceSub, Nat.reduceEqDiff, Nat.reduceLeDiff, Nat.reduceLT, Nat.reduceBEq, Nat.reduceDiv, Nat.reduceMod, Nat.reducePow, Nat.reduceMul, Int.reduceToNat, Int.reduceLT, Int.reduceLE, v8, v9]) | (refine W_exit ?_; simp (maxSteps := 400000) (disch := omega) only [push_cast, ↓reduceIte, reduceCtorEq, Nat.reduceAdd, Nat.reduceSub, Nat.reduceEqDiff, Nat.reduceLeDiff, Nat.reduceLT, Nat.reduceBEq, Nat.reduceDiv, Nat.reduceMod, Nat.reducePow, Nat.reduceMul, Int.reduceToNat, Int.reduceLT, Int.reduceLE, v8, v9]) | refine And.intro (by omega) ?_ | refine And.intro (by intro hq; (try simp only [Bool.and_eq_true, Bool.or_eq_true, Bool.and_eq_false_iff, Bool.or_eq_false_iff, decide_eq_true_eq, decide_eq_false_iff_not, Bool.not_eq_true', Bool.not_eq_false', beq_iff_eq, beq_eq_false_iff_ne, ne_eq] at hq); omega) ?_ | fail)
      refine W_condD (by rfl) (fun hr => ?_) (fun hr => ?_)
      · have hbr := H1.break t1 (by rw [hQ]; exact t2) (by omega) hr
        rw [hQ] at hbr
        repeat' (first | refine WK_go ?_ | refine W_seqL ?_ | refine W_seq ?_ | (refine W_regL ?_; simp (maxSteps := 400000) (disch := omega) only [push_cast, ↓reduceIte, reduceCtorEq, Nat.reduceAdd, Nat.reduceSub, Nat.reduceEqDiff, Nat.reduceLeDiff, Nat.reduceLT, Nat.reduceBEq, Nat.reduceDiv, Nat.reduceMod, Nat.reducePow, Nat.reduceMul, Int.reduceToNat, Int.reduceLT, Int.reduceLE]) | refine W_block ?_ | (refine W_skip ?_; simp (maxSteps := 400000) (disch := omega) only [push_cast, ↓reduceIte, reduceCtorEq, Nat.reduceAdd, Nat.reduceSub, Nat.reduceEqDiff, Nat.reduceLeDiff, Nat.reduceLT, Nat.reduceBEq, Nat.reduceDiv, Nat.reduceMod, Nat.reducePow, Nat.reduceMul, Int.reduceToNat, Int.reduceLT, Int.reduceLE]) | (refine W_exit ?_; simp (maxSteps := 400000) (disch := omega) only [push_cast, ↓reduceIte, reduceCtorEq, Nat.reduceAdd, Nat.reduceSub, Nat.reduceEqDiff, Nat.reduceLeDiff, Nat.reduceLT, Nat.reduceBEq, Nat.reduceDiv, Nat.reduceMod, Nat.reducePow, Nat.reduceMul, Int.reduceToNat, Int.reduceLT, Int.reduceLE]) | refine And.intro (by omega) ?_ | refine And.intro (by intro hq; (try simp only [Bool.and_eq_true, Bool.or_eq_true, Bool.and_eq_false_iff, Bool.or_eq_false_iff, decide_eq_true_eq, decide_eq_false_iff_not, Bool.not_eq_true', Bool.not_eq_false', beq_iff_eq, beq_eq_false_iff_ne, ne_eq] at hq); omega) ?_ | fail)
        refine ⟨by rfl, ?_⟩
        simp (maxSteps := 400000) (disch := omega) only [push_cast, ↓reduceIte, reduceCtorEq, Nat.reduceAdd, Nat.reduceSub, Nat.reduceEqDiff, Nat.reduceLeDiff, Nat.reduceLT, Nat.reduceBEq, Nat.reduceDiv, Nat.reduceMod, Nat.reducePow, Nat.reduceMul, Int.reduceToNat, Int.reduceLT, Int.reduceLE, S.mk.injEq, List.cons.injEq, Prod.mk.injEq, AV.v.injEq, Value.int.injEq, Value.bool.injEq, Blk.cells.injEq, hbr]
      · repeat' (first | refine WK_go ?_ | refine W_seqL ?_ | refine W_seq ?_ | (refine W_regL ?_; simp (maxSteps := 400000) (disch := omega) only [push_cast, ↓reduceIte, reduceCtorEq, Nat.reduceAdd, Nat.reduceSub, Nat.reduceEqDiff, Nat.reduceLeDiff, Nat.reduceLT, Nat.reduceBEq, Nat.reduceDiv, Nat.reduceMod, Nat.reducePow, Nat.reduceMul, Int.reduceToNat, Int.reduceLT, Int.reduceLE]) | refine W_block ?_ | (refine W_skip ?_; simp (maxSteps := 400000) (disch := omega) only [push_cast, ↓reduceIte, reduceCtorEq, Nat.reduceAdd, Nat.reduceSub, Nat.reduceEqDiff, Nat.reduceLeDiff, Nat.reduceLT, Nat.reduceBEq, Nat.reduceDiv, Nat.reduceMod, Nat.reducePow, Nat.reduceMul, Int.reduceToNat, Int.reduceLT, Int.reduceLE]) | (refine W_exit ?_; simp (maxSteps := 400000) (disch := omega) only [push_cast, ↓reduceIte, reduceCtorEq, Nat.reduceAdd, Nat.reduceSub, Nat.reduceEqDiff, Nat.reduceLeDiff, Nat.reduceLT, Nat.reduceBEq, Nat.reduceDiv, Nat.reduceMod, Nat.reducePow, Nat.reduceMul, Int.reduceToNat, Int.reduceLT, Int.reduceLE]) | refine And.intro (by omega) ?_ | refine And.intro (by intro hq; (try simp only [Bool.and_eq_true, Bool.or_eq_true, Bool.and_eq_false_iff, Bool.or_eq_false_iff, decide_eq_true_eq, decide_eq_false_iff_not, Bool.not_eq_true', Bool.not_eq_false', beq_iff_eq, beq_eq_false_iff_ne, ne_eq] at hq); omega) ?_ | fail)
        refine ⟨(q - 1, r + Y / 4294967296), ⟨t1, t2, by simp only []; omega, by simp only []; omega, by simp only []; omega⟩, by simp only []; omega, by rfl, ?_⟩
        simp (maxSteps := 400000) (disch := omega) only [push_cast, ↓reduceIte, reduceCtorEq, Nat.reduceAdd, Nat.reduceSub, Nat.reduceEqDiff, Nat.reduceLeDiff, Nat.reduceLT, Nat.reduceBEq, Nat.reduceDiv, Nat.reduceMod, Nat.reducePow, Nat.reduceMul, Int.reduceToNat, Int.reduceLT, Int.reduceLE, S.mk.injEq, List.cons.injEq, Prod.mk.injEq, AV.v.injEq, Value.int.injEq, Value.bool.injEq, Blk.cells.injEq]
    · rw [Bool.or_eq_false_iff, decide_eq_false_iff_not, decide_eq_false_iff_not] at hb
      have hst := H1.stop i1 (by rw [hQ]; exact i2) (by rw [v7 (by omega)] at hb; omega)
      rw [hQ] at hst
      repeat' (first | refine WK_go ?_ | refine W_seqL ?_ | refine W_seq ?_ | (refine W_regL ?_; simp (maxSteps := 400000) (disch := omega) only [push_cast, ↓reduceIte, reduceCtorEq, Nat.reduceAdd, Nat.reduceSub, Nat.reduceEqDiff, Nat.reduceLeDiff, Nat.reduceLT, Nat.reduceBEq, Nat.reduceDiv, Nat.reduceMod, Nat.reducePow, Nat.reduceMul, Int.reduceToNat, Int.reduceLT, Int.reduceLE]) | refine W_block ?_ | (refine W_skip ?_; simp (maxSteps := 400000) (disch := omega) only [push_cast, ↓reduceIte, reduceCtorEq, Nat.reduceAdd, Nat.reduceSub, Nat.reduceEqDiff, Nat.reduceLeDiff, Nat.reduceLT, Nat.reduceBEq, Nat.reduceDiv, Nat.reduceMod, Nat.reducePow, Nat.reduceMul, Int.reduceToNat, Int.reduceLT, Int.reduceLE]) | (refine W_exit ?_; simp (maxSteps := 400000) (disch := omega) only [push_cast, ↓reduceIte, reduceCtorEq, Nat.reduceAdd, Nat.reduceSub, Nat.reduceEqDiff, Nat.reduceLeDiff, Nat.reduceLT, Nat.reduceBEq, Nat.reduceDiv, Nat.reduceMod, Nat.reducePow, Nat.reduceMul, Int.reduceToNat, Int.reduceLT, Int.reduceLE]) | refine And.intro (by omega) ?_ | refine And.intro (by intro hq; (try simp only [Bool.and_eq_true, Bool.or_eq_true, Bool.and_eq_false_iff, Bool.or_eq_false_iff, decide_eq_true_eq, decide_eq_false_iff_not, Bool.not_eq_true', Bool.not_eq_false', beq_iff_eq, beq_eq_false_iff_ne, ne_eq] at hq); omega) ?_ | fail)
      refine ⟨by rfl, ?_⟩
      simp (maxSteps := 400000) (disch := omega) only [push_cast, ↓reduceIte, reduceCtorEq, Nat.reduceAdd, Nat.reduceSub, Nat.reduceEqDiff, Nat.reduceLeDiff, Nat.reduceLT, Nat.reduceBEq, Nat.reduceDiv, Nat.reduceMod, Nat.reducePow, Nat.reduceMul, Int.reduceToNat, Int.reduceLT, Int.reduceLE, S.mk.injEq, List.cons.injEq, Prod.mk.injEq, AV.v.injEq, Value.int.injEq, Value.bool.injEq, Blk.cells.injEq, hst]
  generalize hR : Half.r Y u (e / 4294967296) = R1 at *
  have hRb := H1.r_lt
  rw [hR] at hRb
  have H0 : Half Y R1 (e % 4294967296) := ⟨hsu, hRb, we⟩
  have hR' : u * 4294967296 + e / 4294967296 - Q1 * Y = R1 := by rw [← hR, ← hQ]; rfl
  have x1 : IntKind.u64.wrap (IntKind.u64.wrap (IntKind.u64.wrap (u * 4294967296) + e / 4294967296) - IntKind.u64.wrap (Q1 * Y)) = R1 := wrap_rem hR' (by omega)
  obtain ⟨s1', s2', s3', s4', s5'⟩ := H0.start
  have v1' : R1.tdiv (Y / 4294967296) = R1 / (Y / 4294967296) := Int.tdiv_eq_ediv_of_nonneg hRb.1
  have s0' : 0 ≤ R1 / (Y / 4294967296) := Int.ediv_nonneg hRb.1 (by omega)
  have v2' : IntKind.u64.wrap (R1 / (Y / 4294967296)) = R1 / (Y / 4294967296) := wrapU (by omega)
  have s00' : 0 ≤ R1 / (Y / 4294967296) * (Y / 4294967296) := Int.mul_nonneg s0' (by omega)
  have v3' : IntKind.u64.wrap (R1 / (Y / 4294967296) * (Y / 4294967296)) = R1 / (Y / 4294967296) * (Y / 4294967296) := wrapU (by omega)
  have v4' : IntKind.u64.wrap (R1 - R1 / (Y / 4294967296) * (Y / 4294967296)) = R1 % (Y / 4294967296) := by
    rw [show R1 - R1 / (Y / 4294967296) * (Y / 4294967296) = R1 % (Y / 4294967296) by omega]; exact wrapU (by omega)
  simp (maxSteps := 400000) (disch := omega) only [push_cast, ↓reduceIte, reduceCtorEq, Nat.reduceAdd, Nat.reduceSub, Nat.reduceEqDiff, Nat.reduceLeDiff, Nat.reduceLT, Nat.reduceBEq, Nat.reduceDiv, Nat.reduceMod, Nat.reducePow, Nat.reduceMul, Int.reduceToNat, Int.reduceLT, Int.reduceLE]
  repeat' (first | refine WK_go ?_ | refine W_seqL ?_ | refine W_seq ?_ | (refine W_regL ?_; simp (maxSteps := 400000) (disch := omega) only [push_cast, ↓reduceIte, reduceCtorEq, Nat.reduceAdd, Nat.reduceSub, Nat.reduceEqDiff, Nat.reduceLeDiff, Nat.reduceLT, Nat.reduceBEq, Nat.reduceDiv, Nat.reduceMod, Nat.reducePow, Nat.reduceMul, Int.reduceToNat, Int.reduceLT, Int.reduceLE, x1, v1', v2', v3', v4']) | refine W_block ?_ | (refine W_skip ?_; simp (maxSteps := 400000) (disch := omega) only [push_cast, ↓reduceIte, reduceCtorEq, Nat.reduceAdd, Nat.reduceSub, Nat.reduceEqDiff, Nat.reduceLeDiff, Nat.reduceLT, Nat.reduceBEq, Nat.reduceDiv, Nat.reduceMod, Nat.reducePow, Nat.reduceMul, Int.reduceToNat, Int.reduceLT, Int.reduceLE, x1, v1', v2', v3', v4']) | (refine W_exit ?_; simp (maxSteps := 400000) (disch := omega) only [push_cast, ↓reduceIte, reduceCtorEq, Nat.reduceAdd, Nat.reduceSub, Nat.reduceEqDiff, Nat.reduceLeDiff, Nat.reduceLT, Nat.reduceBEq, Nat.reduceDiv, Nat.reduceMod, Nat.reducePow, Nat.reduceMul, Int.reduceToNat, Int.reduceLT, Int.reduceLE, x1, v1', v2', v3', v4']) | refine And.intro (by omega) ?_ | refine And.intro (by intro hq; (try simp only [Bool.and_eq_true, Bool.or_eq_true, Bool.and_eq_false_iff, Bool.or_eq_false_iff, decide_eq_true_eq, decide_eq_false_iff_not, Bool.not_eq_true', Bool.not_eq_false', beq_iff_eq, beq_eq_false_iff_ne, ne_eq] at hq); omega) ?_ | fail)
  generalize hq0' : R1 / (Y / 4294967296) = q0' at *
  generalize hr0' : R1 % (Y / 4294967296) = r0' at *
  generalize hQ' : Half.q Y R1 (e % 4294967296) = Q0 at *
  have hQb' := H0.lt
  rw [hQ] at hQb
  rw [hQ'] at hQb'
  refine W_meetB [(18, uw Q0)] [] ?_ ?_
  · refine W_loopU (fun p : Int × Int => [(18, uw p.1), (16, uw p.2)]) (fun i => []) (fun p => p.1 * (Y / 4294967296) + p.2 = R1 ∧ Q0 ≤ p.1 ∧ p.1 ≤ 4294967297 ∧ 0 ≤ p.2 ∧ p.2 < 4294967296) (fun p => p.1.toNat) (q0', r0') ⟨s1', s2', s3', s4', s5'⟩ (by rfl) (by rfl) (fun p hp => ?_)
    obtain ⟨q, r⟩ := p
    obtain ⟨i1, i2, i3, i4, i5⟩ := hp
    simp only at i1 i2 i3 i4 i5
    have m0 : 0 ≤ q * (Y % 4294967296) := Int.mul_nonneg (by omega) (by omega)
    have v5 : IntKind.u64.wrap (4294967296 * r) = 4294967296 * r := wrapU (by omega)
    have v6 : IntKind.u64.wrap (4294967296 * r + e % 4294967296) = 4294967296 * r + e % 4294967296 := wrapU (by omega)
    have m1 : q < 4294967296 → q * (Y % 4294967296) ≤ 4294967295 * 4294967295 := fun hq => Int.mul_le_mul (by omega) (by omega) (by omega) (by omega)
    have v7 : q < 4294967296 → IntKind.u64.wrap (q * (Y % 4294967296)) = q * (Y % 4294967296) := fun hq => wrapU ⟨m0, by have := m1 hq; omega⟩
    simp (maxSteps := 400000) (disch := omega) only [push_cast, ↓reduceIte, reduceCtorEq, Nat.reduceAdd, Nat.reduceSub, Nat.reduceEqDiff, Nat.reduceLeDiff, Nat.reduceLT, Nat.reduceBEq, Nat.reduceDiv, Nat.reduceMod, Nat.reducePow, Nat.reduceMul, Int.reduceToNat, Int.reduceLT, Int.reduceLE]
    repeat' (first | refine WK_go ?_ | refine W_seqL ?_ | refine W_seq ?_ | (refine W_regL ?_; simp (maxSteps := 400000) (disch := omega) only [push_cast, ↓reduceIte, reduceCtorEq, Nat.reduceAdd, Nat.reduceSub, Nat.reduceEqDiff, Nat.reduceLeDiff, Nat.reduceLT, Nat.reduceBEq, Nat.reduceDiv, Nat.reduceMod, Nat.reducePow, Nat.reduceMul, Int.reduceToNat, Int.reduceLT, Int.reduceLE, v5, v6]) | refine W_block ?_ | (refine W_skip ?_; simp (maxSteps := 400000) (disch := omega) only [push_cast, ↓reduceIte, reduceCtorEq, Nat.reduceAdd, Nat.reduceSub, Nat.reduceEqDiff, Nat.reduceLeDiff, Nat.reduceLT, Nat.reduceBEq, Nat.reduceDiv, Nat.reduceMod, Nat.reducePow, Nat.reduceMul, Int.reduceToNat, Int.reduceLT, Int.reduceLE, v5, v6]) | (refine W_exit ?_; simp (maxSteps := 400000) (disch := omega) only [push_cast, ↓reduceIte, reduceCtorEq, Nat.reduceAdd, Nat.reduceSub, Nat.reduceEqDiff, Nat.reduceLeDiff, Nat.reduceLT, Nat.reduceBEq, Nat.reduceDiv, Nat.reduceMod, Nat.reducePow, Nat.reduceMul, Int.reduceToNat, Int.reduceLT, Int.reduceLE, v5, v6]) | refine And.intro (by omega) ?_ | refine And.intro (by intro hq; (try simp only [Bool.and_eq_true, Bool.or_eq_true, Bool.and_eq_false_iff, Bool.or_eq_false_iff, decide_eq_true_eq, decide_eq_false_iff_not, Bool.not_eq_true', Bool.not_eq_false', beq_iff_eq, beq_eq_false_iff_ne, ne_eq] at hq); omega) ?_ | fail)
    refine W_cond (by rfl) (fun hb => ?_) (fun hb => ?_)
    · have hc : 4294967296 ≤ q ∨ 4294967296 * r + e % 4294967296 < q * (Y % 4294967296) := by
        rw [Bool.or_eq_true, decide_eq_true_eq, decide_eq_true_eq] at hb
        by_cases hq : 4294967296 ≤ q
        · exact .inl hq
        · rw [v7 (by omega)] at hb
          exact .inr (hb.resolve_left hq)
      obtain ⟨t1, t2⟩ := H0.step i1 (by rw [hQ']; exact i2) hc
      rw [hQ'] at t2
      have v8 : IntKind.u64.wrap (q - 1) = q - 1 := wrapU (by omega)
      have v9 : IntKind.u64.wrap (r + Y / 4294967296) = r + Y / 4294967296 := wrapU (by omega)
      repeat' (first | refine WK_go ?_ | refine W_seqL ?_ | refine W_seq ?_ | (refine W_regL ?_; simp (maxSteps := 400000) (disch := omega) only [push_cast, ↓reduceIte, reduceCtorEq, Nat.reduceAdd, Nat.reduceSub, Nat.reduceEqDiff, Nat.reduceLeDiff, Nat.reduceLT, Nat.reduceBEq, Nat.reduceDiv, Nat.reduceMod, Nat.reducePow, Nat.reduceMul, Int.reduceToNat, Int.reduceLT, Int.reduceLE, v8, v9]) | refine W_block ?_ | (refine W_skip ?_; simp (maxSteps := 400000) (disch := omega) only [push_cast, ↓reduceIte, reduceCtorEq, Nat.reduceAdd, Nat.reduceSub, Nat.reduceEqDiff, Nat.reduceLeDiff, Nat.reduceLT, Nat.reduceBEq, Nat.reduceDiv, Nat.reduceMod, Nat.reducePow, Nat.reduceMul, Int.reduceToNat, Int.reduceLT, Int.reduceLE, v8, v9]) | (refine W_exit ?_; simp (maxSteps := 400000) (disch := omega) only [push_cast, ↓reduceIte, reduceCtorEq, Nat.reduceAdd, Nat.reduceSub, Nat.reduceEqDiff, Nat.reduceLeDiff, Nat.reduceLT, Nat.reduceBEq, Nat.reduceDiv, Nat.reduceMod, Nat.reducePow, Nat.reduceMul, Int.reduceToNat, Int.reduceLT, Int.reduceLE, v8, v9]) | refine And.intro (by omega) ?_ | refine And.intro (by intro hq; (try simp only [Bool.and_eq_true, Bool.or_eq_true, Bool.and_eq_false_iff, Bool.or_eq_false_iff, decide_eq_true_eq, decide_eq_false_iff_not, Bool.not_eq_true', Bool.not_eq_false', beq_iff_eq, beq_eq_false_iff_ne, ne_eq] at hq); omega) ?_ | fail)
      refine W_condD (by rfl) (fun hr => ?_) (fun hr => ?_)
      · have hbr := H0.break t1 (by rw [hQ']; exact t2) (by omega) hr
        rw [hQ'] at hbr
        repeat' (first | refine WK_go ?_ | refine W_seqL ?_ | refine W_seq ?_ | (refine W_regL ?_; simp (maxSteps := 400000) (disch := omega) only [push_cast, ↓reduceIte, reduceCtorEq, Nat.reduceAdd, Nat.reduceSub, Nat.reduceEqDiff, Nat.reduceLeDiff, Nat.reduceLT, Nat.reduceBEq, Nat.reduceDiv, Nat.reduceMod, Nat.reducePow, Nat.reduceMul, Int.reduceToNat, Int.reduceLT, Int.reduceLE]) | refine W_block ?_ | (refine W_skip ?_; simp (maxSteps := 400000) (disch := omega) only [push_cast, ↓reduceIte, reduceCtorEq, Nat.reduceAdd, Nat.reduceSub, Nat.reduceEqDiff, Nat.reduceLeDiff, Nat.reduceLT, Nat.reduceBEq, Nat.reduceDiv, Nat.reduceMod, Nat.reducePow, Nat.reduceMul, Int.reduceToNat, Int.reduceLT, Int.reduceLE]) | (refine W_exit ?_; simp (maxSteps := 400000) (disch := omega) only [push_cast, ↓reduceIte, reduceCtorEq, Nat.reduceAdd, Nat.reduceSub, Nat.reduceEqDiff, Nat.reduceLeDiff, Nat.reduceLT, Nat.reduceBEq, Nat.reduceDiv, Nat.reduceMod, Nat.reducePow, Nat.reduceMul, Int.reduceToNat, Int.reduceLT, Int.reduceLE]) | refine And.intro (by omega) ?_ | refine And.intro (by intro hq; (try simp only [Bool.and_eq_true, Bool.or_eq_true, Bool.and_eq_false_iff, Bool.or_eq_false_iff, decide_eq_true_eq, decide_eq_false_iff_not, Bool.not_eq_true', Bool.not_eq_false', beq_iff_eq, beq_eq_false_iff_ne, ne_eq] at hq); omega) ?_ | fail)
        refine ⟨by rfl, ?_⟩
        simp (maxSteps := 400000) (disch := omega) only [push_cast, ↓reduceIte, reduceCtorEq, Nat.reduceAdd, Nat.reduceSub, Nat.reduceEqDiff, Nat.reduceLeDiff, Nat.reduceLT, Nat.reduceBEq, Nat.reduceDiv, Nat.reduceMod, Nat.reducePow, Nat.reduceMul, Int.reduceToNat, Int.reduceLT, Int.reduceLE, S.mk.injEq, List.cons.injEq, Prod.mk.injEq, AV.v.injEq, Value.int.injEq, Value.bool.injEq, Blk.cells.injEq, hbr]
      · repeat' (first | refine WK_go ?_ | refine W_seqL ?_ | refine W_seq ?_ | (refine W_regL ?_; simp (maxSteps := 400000) (disch := omega) only [push_cast, ↓reduceIte, reduceCtorEq, Nat.reduceAdd, Nat.reduceSub, Nat.reduceEqDiff, Nat.reduceLeDiff, Nat.reduceLT, Nat.reduceBEq, Nat.reduceDiv, Nat.reduceMod, Nat.reducePow, Nat.reduceMul, Int.reduceToNat, Int.reduceLT, Int.reduceLE]) | refine W_block ?_ | (refine W_skip ?_; simp (maxSteps := 400000) (disch := omega) only [push_cast, ↓reduceIte, reduceCtorEq, Nat.reduceAdd, Nat.reduceSub, Nat.reduceEqDiff, Nat.reduceLeDiff, Nat.reduceLT, Nat.reduceBEq, Nat.reduceDiv, Nat.reduceMod, Nat.reducePow, Nat.reduceMul, Int.reduceToNat, Int.reduceLT, Int.reduceLE]) | (refine W_exit ?_; simp (maxSteps := 400000) (disch := omega) only [push_cast, ↓reduceIte, reduceCtorEq, Nat.reduceAdd, Nat.reduceSub, Nat.reduceEqDiff, Nat.reduceLeDiff, Nat.reduceLT, Nat.reduceBEq, Nat.reduceDiv, Nat.reduceMod, Nat.reducePow, Nat.reduceMul, Int.reduceToNat, Int.reduceLT, Int.reduceLE]) | refine And.intro (by omega) ?_ | refine And.intro (by intro hq; (try simp only [Bool.and_eq_true, Bool.or_eq_true, Bool.and_eq_false_iff, Bool.or_eq_false_iff, decide_eq_true_eq, decide_eq_false_iff_not, Bool.not_eq_true', Bool.not_eq_false', beq_iff_eq, beq_eq_false_iff_ne, ne_eq] at hq); omega) ?_ | fail)
        refine ⟨(q - 1, r + Y / 4294967296), ⟨t1, t2, by simp only []; omega, by simp only []; omega, by simp only []; omega⟩, by simp only []; omega, by rfl, ?_⟩
        simp (maxSteps := 400000) (disch := omega) only [push_cast, ↓reduceIte, reduceCtorEq, Nat.reduceAdd, Nat.reduceSub, Nat.reduceEqDiff, Nat.reduceLeDiff, Nat.reduceLT, Nat.reduceBEq, Nat.reduceDiv, Nat.reduceMod, Nat.reducePow, Nat.reduceMul, Int.reduceToNat, Int.reduceLT, Int.reduceLE, S.mk.injEq, List.cons.injEq, Prod.mk.injEq, AV.v.injEq, Value.int.injEq, Value.bool.injEq, Blk.cells.injEq]
    · rw [Bool.or_eq_false_iff, decide_eq_false_iff_not, decide_eq_false_iff_not] at hb
      have hst := H0.stop i1 (by rw [hQ']; exact i2) (by rw [v7 (by omega)] at hb; omega)
      rw [hQ'] at hst
      repeat' (first | refine WK_go ?_ | refine W_seqL ?_ | refine W_seq ?_ | (refine W_regL ?_; simp (maxSteps := 400000) (disch := omega) only [push_cast, ↓reduceIte, reduceCtorEq, Nat.reduceAdd, Nat.reduceSub, Nat.reduceEqDiff, Nat.reduceLeDiff, Nat.reduceLT, Nat.reduceBEq, Nat.reduceDiv, Nat.reduceMod, Nat.reducePow, Nat.reduceMul, Int.reduceToNat, Int.reduceLT, Int.reduceLE]) | refine W_block ?_ | (refine W_skip ?_; simp (maxSteps := 400000) (disch := omega) only [push_cast, ↓reduceIte, reduceCtorEq, Nat.reduceAdd, Nat.reduceSub, Nat.reduceEqDiff, Nat.reduceLeDiff, Nat.reduceLT, Nat.reduceBEq, Nat.reduceDiv, Nat.reduceMod, Nat.reducePow, Nat.reduceMul, Int.reduceToNat, Int.reduceLT, Int.reduceLE]) | (refine W_exit ?_; simp (maxSteps := 400000) (disch := omega) only [push_cast, ↓reduceIte, reduceCtorEq, Nat.reduceAdd, Nat.reduceSub, Nat.reduceEqDiff, Nat.reduceLeDiff, Nat.reduceLT, Nat.reduceBEq, Nat.reduceDiv, Nat.reduceMod, Nat.reducePow, Nat.reduceMul, Int.reduceToNat, Int.reduceLT, Int.reduceLE]) | refine And.intro (by omega) ?_ | refine And.intro (by intro hq; (try simp only [Bool.and_eq_true, Bool.or_eq_true, Bool.and_eq_false_iff, Bool.or_eq_false_iff, decide_eq_true_eq, decide_eq_false_iff_not, Bool.not_eq_true', Bool.not_eq_false', beq_iff_eq, beq_eq_false_iff_ne, ne_eq] at hq); omega) ?_ | fail)
      refine ⟨by rfl, ?_⟩
      simp (maxSteps := 400000) (disch := omega) only [push_cast, ↓reduceIte, reduceCtorEq, Nat.reduceAdd, Nat.reduceSub, Nat.reduceEqDiff, Nat.reduceLeDiff, Nat.reduceLT, Nat.reduceBEq, Nat.reduceDiv, Nat.reduceMod, Nat.reducePow, Nat.reduceMul, Int.reduceToNat, Int.reduceLT, Int.reduceLE, S.mk.injEq, List.cons.injEq, Prod.mk.injEq, AV.v.injEq, Value.int.injEq, Value.bool.injEq, Blk.cells.injEq, hst]
  have hQR := hld (e / 4294967296) (e % 4294967296) (by omega) H1 (by rw [hR]; exact H0)
  rw [hR, hQ, hQ'] at hQR
  have hR0 : R1 * 4294967296 + e % 4294967296 - Q0 * Y = Half.r Y R1 (e % 4294967296) := by rw [← hQ']; rfl
  have hRb0 := H0.r_lt
  have x2 := wrap_rem hR0 (by omega)
  have x3 : IntKind.u64.wrap (Q1 * 4294967296) = Q1 * 4294967296 := wrapU (by omega)
  have x4 : IntKind.u64.wrap (Q1 * 4294967296 + Q0) = Q1 * 4294967296 + Q0 := wrapU (by omega)
  have x5 : (Half.r Y R1 (e % 4294967296)).fdiv (2 ^ (64 - n)) = Half.r Y R1 (e % 4294967296) / 2 ^ (64 - n) := Int.fdiv_eq_ediv_of_nonneg _ (Int.le_of_lt hk)
  simp (maxSteps := 400000) (disch := omega) only [push_cast, ↓reduceIte, reduceCtorEq, Nat.reduceAdd, Nat.reduceSub, Nat.reduceEqDiff, Nat.reduceLeDiff, Nat.reduceLT, Nat.reduceBEq, Nat.reduceDiv, Nat.reduceMod, Nat.reducePow, Nat.reduceMul, Int.reduceToNat, Int.reduceLT, Int.reduceLE]
  repeat' (first | refine WK_go ?_ | refine W_seqL ?_ | refine W_seq ?_ | (refine W_regL ?_; simp (maxSteps := 400000) (disch := omega) only [push_cast, ↓reduceIte, reduceCtorEq, Nat.reduceAdd, Nat.reduceSub, Nat.reduceEqDiff, Nat.reduceLeDiff, Nat.reduceLT, Nat.reduceBEq, Nat.reduceDiv, Nat.reduceMod, Nat.reducePow, Nat.reduceMul, Int.reduceToNat, Int.reduceLT, Int.reduceLE, x2, x3, x4, w2, x5]) | refine W_block ?_ | (refine W_skip ?_; simp (maxSteps := 400000) (disch := omega) only [push_cast, ↓reduceIte, reduceCtorEq, Nat.reduceAdd, Nat.reduceSub, Nat.reduceEqDiff, Nat.reduceLeDiff, Nat.reduceLT, Nat.reduceBEq, Nat.reduceDiv, Nat.reduceMod, Nat.reducePow, Nat.reduceMul, Int.reduceToNat, Int.reduceLT, Int.reduceLE, x2, x3, x4, w2, x5]) | (refine W_exit ?_; simp (maxSteps := 400000) (disch := omega) only [push_cast, ↓reduceIte, reduceCtorEq, Nat.reduceAdd, Nat.reduceSub, Nat.reduceEqDiff, Nat.reduceLeDiff, Nat.reduceLT, Nat.reduceBEq, Nat.reduceDiv, Nat.reduceMod, Nat.reducePow, Nat.reduceMul, Int.reduceToNat, Int.reduceLT, Int.reduceLE, x2, x3, x4, w2, x5]) | refine And.intro (by omega) ?_ | refine And.intro (by intro hq; (try simp only [Bool.and_eq_true, Bool.or_eq_true, Bool.and_eq_false_iff, Bool.or_eq_false_iff, decide_eq_true_eq, decide_eq_false_iff_not, Bool.not_eq_true', Bool.not_eq_false', beq_iff_eq, beq_eq_false_iff_ne, ne_eq] at hq); omega) ?_ | fail)
  rw [hQR.1, hQR.2]
  exact W_ret ⟨[_, _], ⟨rfl, rfl, rfl⟩, rfl⟩
end Go.Proofs.Ytfkjdjlcaojedaa

/- Fractions: split, down, up. -/
namespace Go.Proofs.Ytfkjdjlcaojedaa
open Go Sy
set_option maxRecDepth 100000
set_option maxHeartbeats 4000000
set_option linter.unusedVariables false
set_option linter.unusedSimpArgs false
theorem c143 (x y : Int) (hx : 0 ≤ x ∧ x < 18446744073709551616) (hy : 0 ≤ y ∧ y < 18446744073709551616) : Sy.Fn Try.prog 143 [uw x, uw y] (.tup [uw (x * y / 18446744073709551616), uw (x * y % 18446744073709551616)]) := by
  obtain ⟨n, rfl⟩ : ∃ n : Nat, x = n := ⟨x.toNat, by omega⟩
  obtain ⟨m, rfl⟩ : ∃ m : Nat, y = m := ⟨y.toNat, by omega⟩
  have h := fn143 n m (by omega) (by omega)
  have e : (n : Int) * m = ((n * m : Nat) : Int) := (Int.natCast_mul n m).symm
  rw [e]
  exact h
/-- the amount -/
def ab (a : Int) : Int := max a (0 - a)
theorem ab_mul (a b : Int) : ab a * ab b = if decide (a < 0) != decide (b < 0) then -(a * b) else a * b := by
  unfold ab
  by_cases ha : a < 0 <;> by_cases hb : b < 0
  · rw [show max a (0 - a) = -a by omega, show max b (0 - b) = -b by omega, Int.neg_mul_neg]; simp [ha, hb]
  · rw [show max a (0 - a) = -a by omega, show max b (0 - b) = b by omega, Int.neg_mul]; simp [ha, hb]
  · rw [show max a (0 - a) = a by omega, show max b (0 - b) = -b by omega, Int.mul_neg]; simp [ha, hb]
  · rw [show max a (0 - a) = a by omega, show max b (0 - b) = b by omega]; simp [ha, hb]
abbrev aFr (a b d : Int) : AV := .agg [iv a, iv b, iv d]
structure FrOK (a b d : Int) : Prop where
  ha : -9223372036854775807 ≤ a ∧ a ≤ 9223372036854775807
  hb : -9223372036854775807 ≤ b ∧ b ≤ 9223372036854775807
  hd : 0 < d ∧ d ≤ 9223372036854775807
  hq : ab a * ab b < d * 4611686018427387904
theorem fn123 (a b d : Int) (h : FrOK a b d) : Sy.Fn Try.prog 123 [aFr a b d] (.tup [iv (ab a * ab b / d), bv (decide (0 < ab a * ab b % d)), bv (decide (a < 0) != decide (b < 0))]) := by
  refine Fn_of_W mixed Xt123 rfl ?_
  have ha := h.ha; have hb := h.hb; have hd := h.hd; have hq := h.hq
  have hA : 0 ≤ ab a ∧ ab a ≤ 9223372036854775807 := by unfold ab; omega
  have hB : 0 ≤ ab b ∧ ab b ≤ 9223372036854775807 := by unfold ab; omega
  have ea : max a (0 - a) = ab a := rfl
  have eb : max b (0 - b) = ab b := rfl
  generalize ab a = A at *
  generalize ab b = B at *
  have hAB : 0 ≤ A * B := Int.mul_nonneg hA.1 hB.1
  have wa : IntKind.u64.wrap A = A := wrapU (by omega)
  have wb : IntKind.u64.wrap B = B := wrapU (by omega)
  have wd : IntKind.u64.wrap d = d := wrapU (by omega)
  have c1 := c143 A B (by omega) (by omega)
  generalize A * B = M at *
  have c2 := fn144 (M / 18446744073709551616) (M % 18446744073709551616) d ⟨by omega, by omega⟩ (by omega) (by omega)
  rw [show M / 18446744073709551616 * 18446744073709551616 + M % 18446744073709551616 = M by omega] at c2
  have q1 : M / d < 4611686018427387904 := by rw [Int.ediv_lt_iff_lt_mul hd.1, Int.mul_comm]; exact hq
  have q0 : 0 ≤ M / d := Int.ediv_nonneg hAB (by omega)
  have wq : IntKind.i64.wrap (M / d) = M / d := wrap64 ⟨by omega, by omega⟩
  repeat' (first | refine WK_go ?_ | refine W_seqL ?_ | refine W_seq ?_ | (refine W_regL ?_; simp (maxSteps := 400000) (disch := omega) only [push_cast, ↓reduceIte, reduceCtorEq, Nat.reduceAdd, Nat.reduceSub, Nat.reduceEqDiff, Nat.reduceLeDiff, Nat.reduceLT, Nat.reduceBEq, Nat.reduceDiv, Nat.reduceMod, Nat.reducePow, Nat.reduceMul, Int.reduceToNat, Int.reduceLT, Int.reduceLE, ea, eb, wa, wb, wd, wq]) | refine W_block ?_ | (refine W_skip ?_; simp (maxSteps := 400000) (disch := omega) only [push_cast, ↓reduceIte, reduceCtorEq, Nat.reduceAdd, Nat.reduceSub, Nat.reduceEqDiff, Nat.reduceLeDiff, Nat.reduceLT, Nat.reduceBEq, Nat.reduceDiv, Nat.reduceMod, Nat.reducePow, Nat.reduceMul, Int.reduceToNat, Int.reduceLT, Int.reduceLE, ea, eb, wa, wb, wd, wq]) | (refine W_exit ?_; simp (maxSteps := 400000) (disch := omega) only [push_cast, ↓reduceIte, reduceCtorEq, Nat.reduceAdd, Nat.reduceSub, Nat.reduceEqDiff, Nat.reduceLeDiff, Nat.reduceLT, Nat.reduceBEq, Nat.reduceDiv, Nat.reduceMod, Nat.reducePow, Nat.reduceMul, Int.reduceToNat, Int.reduceLT, Int.reduceLE, ea, eb, wa, wb, wd, wq]) | refine And.intro (by omega) ?_ | refine And.intro (by intro hq; (try simp only [Bool.and_eq_true, Bool.or_eq_true, Bool.and_eq_false_iff, Bool.or_eq_false_iff, decide_eq_true_eq, decide_eq_false_iff_not, Bool.not_eq_true', Bool.not_eq_false', beq_iff_eq, beq_eq_false_iff_ne, ne_eq] at hq); omega) ?_ | (refine CallC.now (c1) ?_; simp (maxSteps := 400000) (disch := omega) only [push_cast, ↓reduceIte, reduceCtorEq, Nat.reduceAdd, Nat.reduceSub, Nat.reduceEqDiff, Nat.reduceLeDiff, Nat.reduceLT, Nat.reduceBEq, Nat.reduceDiv, Nat.reduceMod, Nat.reducePow, Nat.reduceMul, Int.reduceToNat, Int.reduceLT, Int.reduceLE, ea, eb, wa, wb, wd, wq]) | (refine CallC.now (c2) ?_; simp (maxSteps := 400000) (disch := omega) only [push_cast, ↓reduceIte, reduceCtorEq, Nat.reduceAdd, Nat.reduceSub, Nat.reduceEqDiff, Nat.reduceLeDiff, Nat.reduceLT, Nat.reduceBEq, Nat.reduceDiv, Nat.reduceMod, Nat.reducePow, Nat.reduceMul, Int.reduceToNat, Int.reduceLT, Int.reduceLE, ea, eb, wa, wb, wd, wq]) | fail)
  exact W_ret ⟨[_, _, _], ⟨rfl, rfl, rfl, rfl⟩, rfl⟩
theorem fn94 (a b d : Int) (h : FrOK a b d) : Sy.Fn Try.prog 94 [aFr a b d] (iv (a * b / d)) := by
  refine Fn_of_W mixed Xt94 rfl ?_
  have hd := h.hd; have hq := h.hq
  have c1 := fn123 a b d h
  have hm := ab_mul a b
  have q1 : ab a * ab b / d < 4611686018427387904 := by rw [Int.ediv_lt_iff_lt_mul hd.1]; omega
  have q0 : 0 ≤ ab a * ab b / d := Int.ediv_nonneg (Int.mul_nonneg (by unfold ab; omega) (by unfold ab; omega)) (by omega)
  generalize ab a * ab b = M at *
  have e := Int.ediv_mul_add_emod M d
  have e1 := Int.emod_nonneg M (Int.ne_of_gt hd.1)
  have e2 := Int.emod_lt_of_pos M hd.1
  repeat' (first | refine WK_go ?_ | refine W_seqL ?_ | refine W_seq ?_ | (refine W_regL ?_; simp (maxSteps := 400000) (disch := omega) only [push_cast, ↓reduceIte, reduceCtorEq, Nat.reduceAdd, Nat.reduceSub, Nat.reduceEqDiff, Nat.reduceLeDiff, Nat.reduceLT, Nat.reduceBEq, Nat.reduceDiv, Nat.reduceMod, Nat.reducePow, Nat.reduceMul, Int.reduceToNat, Int.reduceLT, Int.reduceLE]) | refine W_block ?_ | (refine W_skip ?_; simp (maxSteps := 400000) (disch := omega) only [push_cast, ↓reduceIte, reduceCtorEq, Nat.reduceAdd, Nat.reduceSub, Nat.reduceEqDiff, Nat.reduceLeDiff, Nat.reduceLT, Nat.reduceBEq, Nat.reduceDiv, Nat.reduceMod, Nat.reducePow, Nat.reduceMul, Int.reduceToNat, Int.reduceLT, Int.reduceLE]) | (refine W_exit ?_; simp (maxSteps := 400000) (disch := omega) only [push_cast, ↓reduceIte, reduceCtorEq, Nat.reduceAdd, Nat.reduceSub, Nat.reduceEqDiff, Nat.reduceLeDiff, Nat.reduceLT, Nat.reduceBEq, Nat.reduceDiv, Nat.reduceMod, Nat.reducePow, Nat.reduceMul, Int.reduceToNat, Int.reduceLT, Int.reduceLE]) | refine And.intro (by omega) ?_ | refine And.intro (by intro hq; (try simp only [Bool.and_eq_true, Bool.or_eq_true, Bool.and_eq_false_iff, Bool.or_eq_false_iff, decide_eq_true_eq, decide_eq_false_iff_not, Bool.not_eq_true', Bool.not_eq_false', beq_iff_eq, beq_eq_false_iff_ne, ne_eq] at hq); omega) ?_ | (refine CallC.now (c1) ?_; simp (maxSteps := 400000) (disch := omega) only [push_cast, ↓reduceIte, reduceCtorEq, Nat.reduceAdd, Nat.reduceSub, Nat.reduceEqDiff, Nat.reduceLeDiff, Nat.reduceLT, Nat.reduceBEq, Nat.reduceDiv, Nat.reduceMod, Nat.reducePow, Nat.reduceMul, Int.reduceToNat, Int.reduceLT, Int.reduceLE]) | fail)
  refine W_cond (by rfl) (fun h1 => ?_) (fun h1 => ?_)
  · rw [Bool.not_eq_true'] at h1
    rw [h1] at hm
    simp only [Bool.false_eq_true, if_false] at hm
    repeat' (first | refine WK_go ?_ | refine W_seqL ?_ | refine W_seq ?_ | (refine W_regL ?_; simp (maxSteps := 400000) (disch := omega) only [push_cast, ↓reduceIte, reduceCtorEq, Nat.reduceAdd, Nat.reduceSub, Nat.reduceEqDiff, Nat.reduceLeDiff, Nat.reduceLT, Nat.reduceBEq, Nat.reduceDiv, Nat.reduceMod, Nat.reducePow, Nat.reduceMul, Int.reduceToNat, Int.reduceLT, Int.reduceLE]) | refine W_block ?_ | (refine W_skip ?_; simp (maxSteps := 400000) (disch := omega) only [push_cast, ↓reduceIte, reduceCtorEq, Nat.reduceAdd, Nat.reduceSub, Nat.reduceEqDiff, Nat.reduceLeDiff, Nat.reduceLT, Nat.reduceBEq, Nat.reduceDiv, Nat.reduceMod, Nat.reducePow, Nat.reduceMul, Int.reduceToNat, Int.reduceLT, Int.reduceLE]) | (refine W_exit ?_; simp (maxSteps := 400000) (disch := omega) only [push_cast, ↓reduceIte, reduceCtorEq, Nat.reduceAdd, Nat.reduceSub, Nat.reduceEqDiff, Nat.reduceLeDiff, Nat.reduceLT, Nat.reduceBEq, Nat.reduceDiv, Nat.reduceMod, Nat.reducePow, Nat.reduceMul, Int.reduceToNat, Int.reduceLT, Int.reduceLE]) | refine And.intro (by omega) ?_ | refine And.intro (by intro hq; (try simp only [Bool.and_eq_true, Bool.or_eq_true, Bool.and_eq_false_iff, Bool.or_eq_false_iff, decide_eq_true_eq, decide_eq_false_iff_not, Bool.not_eq_true', Bool.not_eq_false', beq_iff_eq, beq_eq_false_iff_ne, ne_eq] at hq); omega) ?_ | fail)
    exact W_ret ⟨[_], ⟨rfl, rfl⟩, by rw [hm]; rfl⟩
  · rw [Bool.not_eq_false'] at h1
    rw [h1, if_pos rfl] at hm
    have hm' : a * b = -M := by omega
    rw [hm']
    repeat' (first | refine WK_go ?_ | refine W_seqL ?_ | refine W_seq ?_ | (refine W_regL ?_; simp (maxSteps := 400000) (disch := omega) only [push_cast, ↓reduceIte, reduceCtorEq, Nat.reduceAdd, Nat.reduceSub, Nat.reduceEqDiff, Nat.reduceLeDiff, Nat.reduceLT, Nat.reduceBEq, Nat.reduceDiv, Nat.reduceMod, Nat.reducePow, Nat.reduceMul, Int.reduceToNat, Int.reduceLT, Int.reduceLE]) | refine W_block ?_ | (refine W_skip ?_; simp (maxSteps := 400000) (disch := omega) only [push_cast, ↓reduceIte, reduceCtorEq, Nat.reduceAdd, Nat.reduceSub, Nat.reduceEqDiff, Nat.reduceLeDiff, Nat.reduceLT, Nat.reduceBEq, Nat.reduceDiv, Nat.reduceMod, Nat.reducePow, Nat.reduceMul, Int.reduceToNat, Int.reduceLT, Int.reduceLE]) | (refine W_exit ?_; simp (maxSteps := 400000) (disch := omega) only [push_cast, ↓reduceIte, reduceCtorEq, Nat.reduceAdd, Nat.reduceSub, Nat.reduceEqDiff, Nat.reduceLeDiff, Nat.reduceLT, Nat.reduceBEq, Nat.reduceDiv, Nat.reduceMod, Nat.reducePow, Nat.reduceMul, Int.reduceToNat, Int.reduceLT, Int.reduceLE]) | refine And.intro (by omega) ?_ | refine And.intro (by intro hq; (try simp only [Bool.and_eq_true, Bool.or_eq_true, Bool.and_eq_false_iff, Bool.or_eq_false_iff, decide_eq_true_eq, decide_eq_false_iff_not, Bool.not_eq_true', Bool.not_eq_false', beq_iff_eq, beq_eq_false_iff_ne, ne_eq] at hq); omega) ?_ | fail)
    refine W_condD (by rfl) (fun h2 => ?_) (fun h2 => ?_)
    · have e3 : -M / d = -(M / d + 1) := by
        have h1 : -(M / d + 1) ≤ -M / d := by rw [Int.le_ediv_iff_mul_le hd.1, Int.neg_mul, Int.add_mul]; omega
        have h3 : -M / d < -(M / d + 1) + 1 := by
          rw [Int.ediv_lt_iff_lt_mul hd.1, Int.add_mul, Int.neg_mul, Int.add_mul]; omega
        omega
      repeat' (first | refine WK_go ?_ | refine W_seqL ?_ | refine W_seq ?_ | (refine W_regL ?_; simp (maxSteps := 400000) (disch := omega) only [push_cast, ↓reduceIte, reduceCtorEq, Nat.reduceAdd, Nat.reduceSub, Nat.reduceEqDiff, Nat.reduceLeDiff, Nat.reduceLT, Nat.reduceBEq, Nat.reduceDiv, Nat.reduceMod, Nat.reducePow, Nat.reduceMul, Int.reduceToNat, Int.reduceLT, Int.reduceLE]) | refine W_block ?_ | (refine W_skip ?_; simp (maxSteps := 400000) (disch := omega) only [push_cast, ↓reduceIte, reduceCtorEq, Nat.reduceAdd, Nat.reduceSub, Nat.reduceEqDiff, Nat.reduceLeDiff, Nat.reduceLT, Nat.reduceBEq, Nat.reduceDiv, Nat.reduceMod, Nat.reducePow, Nat.reduceMul, Int.reduceToNat, Int.reduceLT, Int.reduceLE]) | (refine W_exit ?_; simp (maxSteps := 400000) (disch := omega) only [push_cast, ↓reduceIte, reduceCtorEq, Nat.reduceAdd, Nat.reduceSub, Nat.reduceEqDiff, Nat.reduceLeDiff, Nat.reduceLT, Nat.reduceBEq, Nat.reduceDiv, Nat.reduceMod, Nat.reducePow, Nat.reduceMul, Int.reduceToNat, Int.reduceLT, Int.reduceLE]) | refine And.intro (by omega) ?_ | refine And.intro (by intro hq; (try simp only [Bool.and_eq_true, Bool.or_eq_true, Bool.and_eq_false_iff, Bool.or_eq_false_iff, decide_eq_true_eq, decide_eq_false_iff_not, Bool.not_eq_true', Bool.not_eq_false', beq_iff_eq, beq_eq_false_iff_ne, ne_eq] at hq); omega) ?_ | fail)
      exact W_ret ⟨[_], ⟨rfl, rfl⟩, by rw [e3]; simp; rfl⟩
    · have e3 : -M / d = -(M / d) := by
        have h1 : -(M / d) ≤ -M / d := by rw [Int.le_ediv_iff_mul_le hd.1, Int.neg_mul]; omega
        have h3 : -M / d < -(M / d) + 1 := by
          rw [Int.ediv_lt_iff_lt_mul hd.1, Int.add_mul, Int.neg_mul]; omega
        omega
      repeat' (first | refine WK_go ?_ | refine W_seqL ?_ | refine W_seq ?_ | (refine W_regL ?_; simp (maxSteps := 400000) (disch := omega) only [push_cast, ↓reduceIte, reduceCtorEq, Nat.reduceAdd, Nat.reduceSub, Nat.reduceEqDiff, Nat.reduceLeDiff, Nat.reduceLT, Nat.reduceBEq, Nat.reduceDiv, Nat.reduceMod, Nat.reducePow, Nat.reduceMul, Int.reduceToNat, Int.reduceLT, Int.reduceLE]) | refine W_block ?_ | (refine W_skip ?_; simp (maxSteps := 400000) (disch := omega) only [push_cast, ↓reduceIte, reduceCtorEq, Nat.reduceAdd, Nat.reduceSub, Nat.reduceEqDiff, Nat.reduceLeDiff, Nat.reduceLT, Nat.reduceBEq, Nat.reduceDiv, Nat.reduceMod, Nat.reducePow, Nat.reduceMul, Int.reduceToNat, Int.reduceLT, Int.reduceLE]) | (refine W_exit ?_; simp (maxSteps := 400000) (disch := omega) only [push_cast, ↓reduceIte, reduceCtorEq, Nat.reduceAdd, Nat.reduceSub, Nat.reduceEqDiff, Nat.reduceLeDiff, Nat.reduceLT, Nat.reduceBEq, Nat.reduceDiv, Nat.reduceMod, Nat.reducePow, Nat.reduceMul, Int.reduceToNat, Int.reduceLT, Int.reduceLE]) | refine And.intro (by omega) ?_ | refine And.intro (by intro hq; (try simp only [Bool.and_eq_true, Bool.or_eq_true, Bool.and_eq_false_iff, Bool.or_eq_false_iff, decide_eq_true_eq, decide_eq_false_iff_not, Bool.not_eq_true', Bool.not_eq_false', beq_iff_eq, beq_eq_false_iff_ne, ne_eq] at hq); omega) ?_ | fail)
      exact W_ret ⟨[_], ⟨rfl, rfl⟩, by rw [e3]; simp; rfl⟩
/-- a quotient, rounded up -/
def cdiv (n d : Int) : Int := -(-n / d)
theorem fn55 (a b d : Int) (h : FrOK a b d) : Sy.Fn Try.prog 55 [aFr a b d] (iv (cdiv (a * b) d)) := by
  refine Fn_of_W mixed Xt55 rfl ?_
  have ha := h.ha; have hd := h.hd
  have h' : FrOK (0 - a) b d := ⟨by omega, h.hb, h.hd, by rw [show ab (0 - a) = ab a by unfold ab; omega]; exact h.hq⟩
  have c1 := fn94 (0 - a) b d h'
  have e : (0 - a) * b = -(a * b) := by rw [Int.zero_sub, Int.neg_mul]
  rw [e] at c1
  have hq := h.hq
  have hm := ab_mul a b
  have hAB : 0 ≤ ab a * ab b := Int.mul_nonneg (by unfold ab; omega) (by unfold ab; omega)
  have hb : -(d * 4611686018427387904) ≤ -(a * b) ∧ -(a * b) ≤ d * 4611686018427387904 := by
    split at hm <;> omega
  have b1 : -4611686018427387904 ≤ -(a * b) / d := by rw [Int.le_ediv_iff_mul_le hd.1, Int.neg_mul, Int.mul_comm]; exact hb.1
  have b2 : -(a * b) / d < 4611686018427387905 := by rw [Int.ediv_lt_iff_lt_mul hd.1]; omega
  repeat' (first | refine WK_go ?_ | refine W_seqL ?_ | refine W_seq ?_ | (refine W_regL ?_; simp (maxSteps := 400000) (disch := omega) only [push_cast, ↓reduceIte, reduceCtorEq, Nat.reduceAdd, Nat.reduceSub, Nat.reduceEqDiff, Nat.reduceLeDiff, Nat.reduceLT, Nat.reduceBEq, Nat.reduceDiv, Nat.reduceMod, Nat.reducePow, Nat.reduceMul, Int.reduceToNat, Int.reduceLT, Int.reduceLE]) | refine W_block ?_ | (refine W_skip ?_; simp (maxSteps := 400000) (disch := omega) only [push_cast, ↓reduceIte, reduceCtorEq, Nat.reduceAdd, Nat.reduceSub, Nat.reduceEqDiff, Nat.reduceLeDiff, Nat.reduceLT, Nat.reduceBEq, Nat.reduceDiv, Nat.reduceMod, Nat.reducePow, Nat.reduceMul, Int.reduceToNat, Int.reduceLT, Int.reduceLE]) | (refine W_exit ?_; simp (maxSteps := 400000) (disch := omega) only [push_cast, ↓reduceIte, reduceCtorEq, Nat.reduceAdd, Nat.reduceSub, Nat.reduceEqDiff, Nat.reduceLeDiff, Nat.reduceLT, Nat.reduceBEq, Nat.reduceDiv, Nat.reduceMod, Nat.reducePow, Nat.reduceMul, Int.reduceToNat, Int.reduceLT, Int.reduceLE]) | refine And.intro (by omega) ?_ | refine And.intro (by intro hq; (try simp only [Bool.and_eq_true, Bool.or_eq_true, Bool.and_eq_false_iff, Bool.or_eq_false_iff, decide_eq_true_eq, decide_eq_false_iff_not, Bool.not_eq_true', Bool.not_eq_false', beq_iff_eq, beq_eq_false_iff_ne, ne_eq] at hq); omega) ?_ | (refine CallC.now (c1) ?_; simp (maxSteps := 400000) (disch := omega) only [push_cast, ↓reduceIte, reduceCtorEq, Nat.reduceAdd, Nat.reduceSub, Nat.reduceEqDiff, Nat.reduceLeDiff, Nat.reduceLT, Nat.reduceBEq, Nat.reduceDiv, Nat.reduceMod, Nat.reducePow, Nat.reduceMul, Int.reduceToNat, Int.reduceLT, Int.reduceLE]) | fail)
  exact W_ret ⟨[_], ⟨rfl, rfl⟩, by unfold cdiv; simp; rfl⟩
end Go.Proofs.Ytfkjdjlcaojedaa

/- Platforms: small functions, determinants. -/
namespace Go.Proofs.Ytfkjdjlcaojedaa
open Go Sy
set_option maxRecDepth 100000
set_option maxHeartbeats 4000000
set_option linter.unusedVariables false
set_option linter.unusedSimpArgs false
def inR (x lo hi : Int) : Bool := decide (lo ≤ x) && decide (x ≤ hi)
theorem inR_iff {x lo hi : Int} : inR x lo hi = true ↔ lo ≤ x ∧ x ≤ hi := by simp [inR]
theorem fn53 (x lo hi : Int) : Sy.Fn Try.prog 53 [iv x, iv lo, iv hi] (bv (inR x lo hi)) := by
  refine Fn_of_W mixed Xt53 rfl ?_
  repeat' (first | refine WK_go ?_ | refine W_seqL ?_ | refine W_seq ?_ | (refine W_regL ?_; simp (maxSteps := 400000) (disch := omega) only [push_cast, ↓reduceIte, reduceCtorEq, Nat.reduceAdd, Nat.reduceSub, Nat.reduceEqDiff, Nat.reduceLeDiff, Nat.reduceLT, Nat.reduceBEq, Nat.reduceDiv, Nat.reduceMod, Nat.reducePow, Nat.reduceMul, Int.reduceToNat, Int.reduceLT, Int.reduceLE]) | refine W_block ?_ | (refine W_skip ?_; simp (maxSteps := 400000) (disch := omega) only [push_cast, ↓reduceIte, reduceCtorEq, Nat.reduceAdd, Nat.reduceSub, Nat.reduceEqDiff, Nat.reduceLeDiff, Nat.reduceLT, Nat.reduceBEq, Nat.reduceDiv, Nat.reduceMod, Nat.reducePow, Nat.reduceMul, Int.reduceToNat, Int.reduceLT, Int.reduceLE]) | (refine W_exit ?_; simp (maxSteps := 400000) (disch := omega) only [push_cast, ↓reduceIte, reduceCtorEq, Nat.reduceAdd, Nat.reduceSub, Nat.reduceEqDiff, Nat.reduceLeDiff, Nat.reduceLT, Nat.reduceBEq, Nat.reduceDiv, Nat.reduceMod, Nat.reducePow, Nat.reduceMul, Int.reduceToNat, Int.reduceLT, Int.reduceLE]) | refine And.intro (by omega) ?_ | refine And.intro (by intro hq; (try simp only [Bool.and_eq_true, Bool.or_eq_true, Bool.and_eq_false_iff, Bool.or_eq_false_iff, decide_eq_true_eq, decide_eq_false_iff_not, Bool.not_eq_true', Bool.not_eq_false', beq_iff_eq, beq_eq_false_iff_ne, ne_eq] at hq); omega) ?_ | fail)
  exact W_ret ⟨[_], ⟨rfl, rfl⟩, rfl⟩
def okMass (m : Int) : Bool := inR m 1 16777216
theorem fn54 (m : Int) : Sy.Fn Try.prog 54 [iv m] (bv (okMass m)) := by
  refine Fn_of_W mixed Xt54 rfl ?_
  repeat' (first | refine WK_go ?_ | refine W_seqL ?_ | refine W_seq ?_ | (refine W_regL ?_; simp (maxSteps := 400000) (disch := omega) only [push_cast, ↓reduceIte, reduceCtorEq, Nat.reduceAdd, Nat.reduceSub, Nat.reduceEqDiff, Nat.reduceLeDiff, Nat.reduceLT, Nat.reduceBEq, Nat.reduceDiv, Nat.reduceMod, Nat.reducePow, Nat.reduceMul, Int.reduceToNat, Int.reduceLT, Int.reduceLE]) | refine W_block ?_ | (refine W_skip ?_; simp (maxSteps := 400000) (disch := omega) only [push_cast, ↓reduceIte, reduceCtorEq, Nat.reduceAdd, Nat.reduceSub, Nat.reduceEqDiff, Nat.reduceLeDiff, Nat.reduceLT, Nat.reduceBEq, Nat.reduceDiv, Nat.reduceMod, Nat.reducePow, Nat.reduceMul, Int.reduceToNat, Int.reduceLT, Int.reduceLE]) | (refine W_exit ?_; simp (maxSteps := 400000) (disch := omega) only [push_cast, ↓reduceIte, reduceCtorEq, Nat.reduceAdd, Nat.reduceSub, Nat.reduceEqDiff, Nat.reduceLeDiff, Nat.reduceLT, Nat.reduceBEq, Nat.reduceDiv, Nat.reduceMod, Nat.reducePow, Nat.reduceMul, Int.reduceToNat, Int.reduceLT, Int.reduceLE]) | refine And.intro (by omega) ?_ | refine And.intro (by intro hq; (try simp only [Bool.and_eq_true, Bool.or_eq_true, Bool.and_eq_false_iff, Bool.or_eq_false_iff, decide_eq_true_eq, decide_eq_false_iff_not, Bool.not_eq_true', Bool.not_eq_false', beq_iff_eq, beq_eq_false_iff_ne, ne_eq] at hq); omega) ?_ | (refine CallC.now (fn53 _ _ _) ?_; simp (maxSteps := 400000) (disch := omega) only [push_cast, ↓reduceIte, reduceCtorEq, Nat.reduceAdd, Nat.reduceSub, Nat.reduceEqDiff, Nat.reduceLeDiff, Nat.reduceLT, Nat.reduceBEq, Nat.reduceDiv, Nat.reduceMod, Nat.reducePow, Nat.reduceMul, Int.reduceToNat, Int.reduceLT, Int.reduceLE]) | fail)
  exact W_ret ⟨[_], ⟨rfl, rfl⟩, rfl⟩
structure Pt where
  x : Int
  y : Int
abbrev cPt (p : Pt) : List AV := [iv p.x, iv p.y]
def okPt (p : Pt) : Bool := inR p.x (-262144) 262144 && inR p.y (-262144) 262144
theorem fn57 (p : Pt) : Sy.Fn Try.prog 57 [.agg (cPt p)] (bv (okPt p)) := by
  refine Fn_of_W mixed Xt57 rfl ?_
  repeat' (first | refine WK_go ?_ | refine W_seqL ?_ | refine W_seq ?_ | (refine W_regL ?_; simp (maxSteps := 400000) (disch := omega) only [push_cast, ↓reduceIte, reduceCtorEq, Nat.reduceAdd, Nat.reduceSub, Nat.reduceEqDiff, Nat.reduceLeDiff, Nat.reduceLT, Nat.reduceBEq, Nat.reduceDiv, Nat.reduceMod, Nat.reducePow, Nat.reduceMul, Int.reduceToNat, Int.reduceLT, Int.reduceLE]) | refine W_block ?_ | (refine W_skip ?_; simp (maxSteps := 400000) (disch := omega) only [push_cast, ↓reduceIte, reduceCtorEq, Nat.reduceAdd, Nat.reduceSub, Nat.reduceEqDiff, Nat.reduceLeDiff, Nat.reduceLT, Nat.reduceBEq, Nat.reduceDiv, Nat.reduceMod, Nat.reducePow, Nat.reduceMul, Int.reduceToNat, Int.reduceLT, Int.reduceLE]) | (refine W_exit ?_; simp (maxSteps := 400000) (disch := omega) only [push_cast, ↓reduceIte, reduceCtorEq, Nat.reduceAdd, Nat.reduceSub, Nat.reduceEqDiff, Nat.reduceLeDiff, Nat.reduceLT, Nat.reduceBEq, Nat.reduceDiv, Nat.reduceMod, Nat.reducePow, Nat.reduceMul, Int.reduceToNat, Int.reduceLT, Int.reduceLE]) | refine And.intro (by omega) ?_ | refine And.intro (by intro hq; (try simp only [Bool.and_eq_true, Bool.or_eq_true, Bool.and_eq_false_iff, Bool.or_eq_false_iff, decide_eq_true_eq, decide_eq_false_iff_not, Bool.not_eq_true', Bool.not_eq_false', beq_iff_eq, beq_eq_false_iff_ne, ne_eq] at hq); omega) ?_ | (refine CallC.now (fn53 _ _ _) ?_; simp (maxSteps := 400000) (disch := omega) only [push_cast, ↓reduceIte, reduceCtorEq, Nat.reduceAdd, Nat.reduceSub, Nat.reduceEqDiff, Nat.reduceLeDiff, Nat.reduceLT, Nat.reduceBEq, Nat.reduceDiv, Nat.reduceMod, Nat.reducePow, Nat.reduceMul, Int.reduceToNat, Int.reduceLT, Int.reduceLE]) | (refine CallC.go _ (fun _ => ⟨trivial, fn53 _ _ _⟩) rfl ?_; simp (maxSteps := 400000) (disch := omega) only [push_cast, ↓reduceIte, reduceCtorEq, Nat.reduceAdd, Nat.reduceSub, Nat.reduceEqDiff, Nat.reduceLeDiff, Nat.reduceLT, Nat.reduceBEq, Nat.reduceDiv, Nat.reduceMod, Nat.reducePow, Nat.reduceMul, Int.reduceToNat, Int.reduceLT, Int.reduceLE]) | fail)
  exact W_ret ⟨[_], ⟨rfl, rfl⟩, rfl⟩
def okPlace (x : Int) : Bool := inR x (-16777216) 16777216
theorem fn52 (x : Int) : Sy.Fn Try.prog 52 [iv x] (bv (okPlace x)) := by
  refine Fn_of_W mixed Xt52 rfl ?_
  repeat' (first | refine WK_go ?_ | refine W_seqL ?_ | refine W_seq ?_ | (refine W_regL ?_; simp (maxSteps := 400000) (disch := omega) only [push_cast, ↓reduceIte, reduceCtorEq, Nat.reduceAdd, Nat.reduceSub, Nat.reduceEqDiff, Nat.reduceLeDiff, Nat.reduceLT, Nat.reduceBEq, Nat.reduceDiv, Nat.reduceMod, Nat.reducePow, Nat.reduceMul, Int.reduceToNat, Int.reduceLT, Int.reduceLE]) | refine W_block ?_ | (refine W_skip ?_; simp (maxSteps := 400000) (disch := omega) only [push_cast, ↓reduceIte, reduceCtorEq, Nat.reduceAdd, Nat.reduceSub, Nat.reduceEqDiff, Nat.reduceLeDiff, Nat.reduceLT, Nat.reduceBEq, Nat.reduceDiv, Nat.reduceMod, Nat.reducePow, Nat.reduceMul, Int.reduceToNat, Int.reduceLT, Int.reduceLE]) | (refine W_exit ?_; simp (maxSteps := 400000) (disch := omega) only [push_cast, ↓reduceIte, reduceCtorEq, Nat.reduceAdd, Nat.reduceSub, Nat.reduceEqDiff, Nat.reduceLeDiff, Nat.reduceLT, Nat.reduceBEq, Nat.reduceDiv, Nat.reduceMod, Nat.reducePow, Nat.reduceMul, Int.reduceToNat, Int.reduceLT, Int.reduceLE]) | refine And.intro (by omega) ?_ | refine And.intro (by intro hq; (try simp only [Bool.and_eq_true, Bool.or_eq_true, Bool.and_eq_false_iff, Bool.or_eq_false_iff, decide_eq_true_eq, decide_eq_false_iff_not, Bool.not_eq_true', Bool.not_eq_false', beq_iff_eq, beq_eq_false_iff_ne, ne_eq] at hq); omega) ?_ | (refine CallC.now (fn53 _ _ _) ?_; simp (maxSteps := 400000) (disch := omega) only [push_cast, ↓reduceIte, reduceCtorEq, Nat.reduceAdd, Nat.reduceSub, Nat.reduceEqDiff, Nat.reduceLeDiff, Nat.reduceLT, Nat.reduceBEq, Nat.reduceDiv, Nat.reduceMod, Nat.reducePow, Nat.reduceMul, Int.reduceToNat, Int.reduceLT, Int.reduceLE]) | fail)
  exact W_ret ⟨[_], ⟨rfl, rfl⟩, rfl⟩
def levE (m a b x : Int) : Int := if (!okMass m || !okPlace a || !okPlace b || !okPlace x) = true then 3 else if b ≤ a then 9 else if inR x a b = false then 19 else 0
def levL (m a b x : Int) : Int := if levE m a b x = 0 then cdiv (m * (b - x)) (b - a) else 0
def levR (m a b x : Int) : Int := if levE m a b x = 0 then cdiv (m * (x - a)) (b - a) else 0
theorem levE_ok {m a b x : Int} (h : levE m a b x = 0) : (1 ≤ m ∧ m ≤ 16777216) ∧ (-16777216 ≤ a ∧ a < b ∧ b ≤ 16777216) ∧ a ≤ x ∧ x ≤ b := by
  unfold levE at h
  split at h
  · omega
  · rename_i h1
    split at h
    · omega
    · split at h
      · omega
      · rename_i h2 h3
        simp only [Bool.or_eq_true, Bool.not_eq_true', okMass, okPlace] at h1
        rw [Bool.not_eq_false, inR_iff] at h3
        simp only [not_or, Bool.not_eq_false, inR_iff] at h1
        omega
theorem ab_pos {a : Int} (h : 0 ≤ a) : ab a = a := by unfold ab; omega
theorem mulP {a b c d : Int} (h0 : 0 ≤ b) (h1 : a ≤ c) (h2 : b ≤ d) (h3 : 0 ≤ c) : a * b ≤ c * d := Int.mul_le_mul h1 h2 h0 h3
theorem frac_ok {m p w : Int} (hm : 1 ≤ m ∧ m ≤ 16777216) (hp : 0 ≤ p ∧ p ≤ w) (hw : 0 < w ∧ w ≤ 9223372036854775807) : FrOK m p w := by
  refine ⟨by omega, by omega, hw, ?_⟩
  rw [ab_pos (by omega), ab_pos hp.1]
  have := mulP (a := m) (b := p) (c := 16777216) (d := w) hp.1 hm.2 hp.2 (by omega)
  omega
theorem fn16 (m a b x : Int) : Sy.Fn Try.prog 16 [iv m, iv a, iv b, iv x] (.tup [iv (levL m a b x), iv (levR m a b x), iv (levE m a b x)]) := by
  refine Fn_of_W mixed Xt16 rfl ?_
  repeat' (first | refine WK_go ?_ | refine W_seqL ?_ | refine W_seq ?_ | (refine W_regL ?_; simp (maxSteps := 400000) (disch := omega) only [push_cast, ↓reduceIte, reduceCtorEq, Nat.reduceAdd, Nat.reduceSub, Nat.reduceEqDiff, Nat.reduceLeDiff, Nat.reduceLT, Nat.reduceBEq, Nat.reduceDiv, Nat.reduceMod, Nat.reducePow, Nat.reduceMul, Int.reduceToNat, Int.reduceLT, Int.reduceLE]) | refine W_block ?_ | (refine W_skip ?_; simp (maxSteps := 400000) (disch := omega) only [push_cast, ↓reduceIte, reduceCtorEq, Nat.reduceAdd, Nat.reduceSub, Nat.reduceEqDiff, Nat.reduceLeDiff, Nat.reduceLT, Nat.reduceBEq, Nat.reduceDiv, Nat.reduceMod, Nat.reducePow, Nat.reduceMul, Int.reduceToNat, Int.reduceLT, Int.reduceLE]) | (refine W_exit ?_; simp (maxSteps := 400000) (disch := omega) only [push_cast, ↓reduceIte, reduceCtorEq, Nat.reduceAdd, Nat.reduceSub, Nat.reduceEqDiff, Nat.reduceLeDiff, Nat.reduceLT, Nat.reduceBEq, Nat.reduceDiv, Nat.reduceMod, Nat.reducePow, Nat.reduceMul, Int.reduceToNat, Int.reduceLT, Int.reduceLE]) | refine And.intro (by omega) ?_ | refine And.intro (by intro hq; (try simp only [Bool.and_eq_true, Bool.or_eq_true, Bool.and_eq_false_iff, Bool.or_eq_false_iff, decide_eq_true_eq, decide_eq_false_iff_not, Bool.not_eq_true', Bool.not_eq_false', beq_iff_eq, beq_eq_false_iff_ne, ne_eq] at hq); omega) ?_ | (refine CallC.now (fn54 _) ?_; simp (maxSteps := 400000) (disch := omega) only [push_cast, ↓reduceIte, reduceCtorEq, Nat.reduceAdd, Nat.reduceSub, Nat.reduceEqDiff, Nat.reduceLeDiff, Nat.reduceLT, Nat.reduceBEq, Nat.reduceDiv, Nat.reduceMod, Nat.reducePow, Nat.reduceMul, Int.reduceToNat, Int.reduceLT, Int.reduceLE]) | (refine CallC.go _ (fun _ => ⟨trivial, fn52 _⟩) rfl ?_; simp (maxSteps := 400000) (disch := omega) only [push_cast, ↓reduceIte, reduceCtorEq, Nat.reduceAdd, Nat.reduceSub, Nat.reduceEqDiff, Nat.reduceLeDiff, Nat.reduceLT, Nat.reduceBEq, Nat.reduceDiv, Nat.reduceMod, Nat.reducePow, Nat.reduceMul, Int.reduceToNat, Int.reduceLT, Int.reduceLE]) | fail)
  refine W_cond (by rfl) (fun h1 => ?_) (fun h1 => ?_)
  · have e : levE m a b x = 3 := by unfold levE; rw [if_pos h1]
    unfold levL levR
    rw [if_neg (by omega), if_neg (by omega), e]
    repeat' (first | refine WK_go ?_ | refine W_seqL ?_ | refine W_seq ?_ | (refine W_regL ?_; simp (maxSteps := 400000) (disch := omega) only [push_cast, ↓reduceIte, reduceCtorEq, Nat.reduceAdd, Nat.reduceSub, Nat.reduceEqDiff, Nat.reduceLeDiff, Nat.reduceLT, Nat.reduceBEq, Nat.reduceDiv, Nat.reduceMod, Nat.reducePow, Nat.reduceMul, Int.reduceToNat, Int.reduceLT, Int.reduceLE]) | refine W_block ?_ | (refine W_skip ?_; simp (maxSteps := 400000) (disch := omega) only [push_cast, ↓reduceIte, reduceCtorEq, Nat.reduceAdd, Nat.reduceSub, Nat.reduceEqDiff, Nat.reduceLeDiff, Nat.reduceLT, Nat.reduceBEq, Nat.reduceDiv, Nat.reduceMod, Nat.reducePow, Nat.reduceMul, Int.reduceToNat, Int.reduceLT, Int.reduceLE]) | (refine W_exit ?_; simp (maxSteps := 400000) (disch := omega) only [push_cast, ↓reduceIte, reduceCtorEq, Nat.reduceAdd, Nat.reduceSub, Nat.reduceEqDiff, Nat.reduceLeDiff, Nat.reduceLT, Nat.reduceBEq, Nat.reduceDiv, Nat.reduceMod, Nat.reducePow, Nat.reduceMul, Int.reduceToNat, Int.reduceLT, Int.reduceLE]) | refine And.intro (by omega) ?_ | refine And.intro (by intro hq; (try simp only [Bool.and_eq_true, Bool.or_eq_true, Bool.and_eq_false_iff, Bool.or_eq_false_iff, decide_eq_true_eq, decide_eq_false_iff_not, Bool.not_eq_true', Bool.not_eq_false', beq_iff_eq, beq_eq_false_iff_ne, ne_eq] at hq); omega) ?_ | fail)
    exact W_ret ⟨[_, _, _], ⟨rfl, rfl, rfl, rfl⟩, rfl⟩
  repeat' (first | refine WK_go ?_ | refine W_seqL ?_ | refine W_seq ?_ | (refine W_regL ?_; simp (maxSteps := 400000) (disch := omega) only [push_cast, ↓reduceIte, reduceCtorEq, Nat.reduceAdd, Nat.reduceSub, Nat.reduceEqDiff, Nat.reduceLeDiff, Nat.reduceLT, Nat.reduceBEq, Nat.reduceDiv, Nat.reduceMod, Nat.reducePow, Nat.reduceMul, Int.reduceToNat, Int.reduceLT, Int.reduceLE]) | refine W_block ?_ | (refine W_skip ?_; simp (maxSteps := 400000) (disch := omega) only [push_cast, ↓reduceIte, reduceCtorEq, Nat.reduceAdd, Nat.reduceSub, Nat.reduceEqDiff, Nat.reduceLeDiff, Nat.reduceLT, Nat.reduceBEq, Nat.reduceDiv, Nat.reduceMod, Nat.reducePow, Nat.reduceMul, Int.reduceToNat, Int.reduceLT, Int.reduceLE]) | (refine W_exit ?_; simp (maxSteps := 400000) (disch := omega) only [push_cast, ↓reduceIte, reduceCtorEq, Nat.reduceAdd, Nat.reduceSub, Nat.reduceEqDiff, Nat.reduceLeDiff, Nat.reduceLT, Nat.reduceBEq, Nat.reduceDiv, Nat.reduceMod, Nat.reducePow, Nat.reduceMul, Int.reduceToNat, Int.reduceLT, Int.reduceLE]) | refine And.intro (by omega) ?_ | refine And.intro (by intro hq; (try simp only [Bool.and_eq_true, Bool.or_eq_true, Bool.and_eq_false_iff, Bool.or_eq_false_iff, decide_eq_true_eq, decide_eq_false_iff_not, Bool.not_eq_true', Bool.not_eq_false', beq_iff_eq, beq_eq_false_iff_ne, ne_eq] at hq); omega) ?_ | fail)
  refine W_condD (by rfl) (fun h2 => ?_) (fun h2 => ?_)
  · have e : levE m a b x = 9 := by unfold levE; rw [if_neg (by rw [h1]; decide), if_pos h2]
    unfold levL levR
    rw [if_neg (by omega), if_neg (by omega), e]
    repeat' (first | refine WK_go ?_ | refine W_seqL ?_ | refine W_seq ?_ | (refine W_regL ?_; simp (maxSteps := 400000) (disch := omega) only [push_cast, ↓reduceIte, reduceCtorEq, Nat.reduceAdd, Nat.reduceSub, Nat.reduceEqDiff, Nat.reduceLeDiff, Nat.reduceLT, Nat.reduceBEq, Nat.reduceDiv, Nat.reduceMod, Nat.reducePow, Nat.reduceMul, Int.reduceToNat, Int.reduceLT, Int.reduceLE]) | refine W_block ?_ | (refine W_skip ?_; simp (maxSteps := 400000) (disch := omega) only [push_cast, ↓reduceIte, reduceCtorEq, Nat.reduceAdd, Nat.reduceSub, Nat.reduceEqDiff, Nat.reduceLeDiff, Nat.reduceLT, Nat.reduceBEq, Nat.reduceDiv, Nat.reduceMod, Nat.reducePow, Nat.reduceMul, Int.reduceToNat, Int.reduceLT, Int.reduceLE]) | (refine W_exit ?_; simp (maxSteps := 400000) (disch := omega) only [push_cast, ↓reduceIte, reduceCtorEq, Nat.reduceAdd, Nat.reduceSub, Nat.reduceEqDiff, Nat.reduceLeDiff, Nat.reduceLT, Nat.reduceBEq, Nat.reduceDiv, Nat.reduceMod, Nat.reducePow, Nat.reduceMul, Int.reduceToNat, Int.reduceLT, Int.reduceLE]) | refine And.intro (by omega) ?_ | refine And.intro (by intro hq; (try simp only [Bool.and_eq_true, Bool.or_eq_true, Bool.and_eq_false_iff, Bool.or_eq_false_iff, decide_eq_true_eq, decide_eq_false_iff_not, Bool.not_eq_true', Bool.not_eq_false', beq_iff_eq, beq_eq_false_iff_ne, ne_eq] at hq); omega) ?_ | fail)
    exact W_ret ⟨[_, _, _], ⟨rfl, rfl, rfl, rfl⟩, rfl⟩
  repeat' (first | refine WK_go ?_ | refine W_seqL ?_ | refine W_seq ?_ | (refine W_regL ?_; simp (maxSteps := 400000) (disch := omega) only [push_cast, ↓reduceIte, reduceCtorEq, Nat.reduceAdd, Nat.reduceSub, Nat.reduceEqDiff, Nat.reduceLeDiff, Nat.reduceLT, Nat.reduceBEq, Nat.reduceDiv, Nat.reduceMod, Nat.reducePow, Nat.reduceMul, Int.reduceToNat, Int.reduceLT, Int.reduceLE]) | refine W_block ?_ | (refine W_skip ?_; simp (maxSteps := 400000) (disch := omega) only [push_cast, ↓reduceIte, reduceCtorEq, Nat.reduceAdd, Nat.reduceSub, Nat.reduceEqDiff, Nat.reduceLeDiff, Nat.reduceLT, Nat.reduceBEq, Nat.reduceDiv, Nat.reduceMod, Nat.reducePow, Nat.reduceMul, Int.reduceToNat, Int.reduceLT, Int.reduceLE]) | (refine W_exit ?_; simp (maxSteps := 400000) (disch := omega) only [push_cast, ↓reduceIte, reduceCtorEq, Nat.reduceAdd, Nat.reduceSub, Nat.reduceEqDiff, Nat.reduceLeDiff, Nat.reduceLT, Nat.reduceBEq, Nat.reduceDiv, Nat.reduceMod, Nat.reducePow, Nat.reduceMul, Int.reduceToNat, Int.reduceLT, Int.reduceLE]) | refine And.intro (by omega) ?_ | refine And.intro (by intro hq; (try simp only [Bool.and_eq_true, Bool.or_eq_true, Bool.and_eq_false_iff, Bool.or_eq_false_iff, decide_eq_true_eq, decide_eq_false_iff_not, Bool.not_eq_true', Bool.not_eq_false', beq_iff_eq, beq_eq_false_iff_ne, ne_eq] at hq); omega) ?_ | (refine CallC.now (fn53 _ _ _) ?_; simp (maxSteps := 400000) (disch := omega) only [push_cast, ↓reduceIte, reduceCtorEq, Nat.reduceAdd, Nat.reduceSub, Nat.reduceEqDiff, Nat.reduceLeDiff, Nat.reduceLT, Nat.reduceBEq, Nat.reduceDiv, Nat.reduceMod, Nat.reducePow, Nat.reduceMul, Int.reduceToNat, Int.reduceLT, Int.reduceLE]) | fail)
  refine W_cond (by rfl) (fun h3 => ?_) (fun h3 => ?_)
  · have e : levE m a b x = 19 := by unfold levE; rw [if_neg (by rw [h1]; decide), if_neg h2, if_pos (by simpa using h3)]
    unfold levL levR
    rw [if_neg (by omega), if_neg (by omega), e]
    repeat' (first | refine WK_go ?_ | refine W_seqL ?_ | refine W_seq ?_ | (refine W_regL ?_; simp (maxSteps := 400000) (disch := omega) only [push_cast, ↓reduceIte, reduceCtorEq, Nat.reduceAdd, Nat.reduceSub, Nat.reduceEqDiff, Nat.reduceLeDiff, Nat.reduceLT, Nat.reduceBEq, Nat.reduceDiv, Nat.reduceMod, Nat.reducePow, Nat.reduceMul, Int.reduceToNat, Int.reduceLT, Int.reduceLE]) | refine W_block ?_ | (refine W_skip ?_; simp (maxSteps := 400000) (disch := omega) only [push_cast, ↓reduceIte, reduceCtorEq, Nat.reduceAdd, Nat.reduceSub, Nat.reduceEqDiff, Nat.reduceLeDiff, Nat.reduceLT, Nat.reduceBEq, Nat.reduceDiv, Nat.reduceMod, Nat.reducePow, Nat.reduceMul, Int.reduceToNat, Int.reduceLT, Int.reduceLE]) | (refine W_exit ?_; simp (maxSteps := 400000) (disch := omega) only [push_cast, ↓reduceIte, reduceCtorEq, Nat.reduceAdd, Nat.reduceSub, Nat.reduceEqDiff, Nat.reduceLeDiff, Nat.reduceLT, Nat.reduceBEq, Nat.reduceDiv, Nat.reduceMod, Nat.reducePow, Nat.reduceMul, Int.reduceToNat, Int.reduceLT, Int.reduceLE]) | refine And.intro (by omega) ?_ | refine And.intro (by intro hq; (try simp only [Bool.and_eq_true, Bool.or_eq_true, Bool.and_eq_false_iff, Bool.or_eq_false_iff, decide_eq_true_eq, decide_eq_false_iff_not, Bool.not_eq_true', Bool.not_eq_false', beq_iff_eq, beq_eq_false_iff_ne, ne_eq] at hq); omega) ?_ | fail)
    exact W_ret ⟨[_, _, _], ⟨rfl, rfl, rfl, rfl⟩, rfl⟩
  have e : levE m a b x = 0 := by unfold levE; rw [if_neg (by rw [h1]; decide), if_neg h2, if_neg (by simpa using h3)]
  have ho := levE_ok e
  have c1 := fn55 m (b - x) (b - a) (frac_ok ho.1 (by omega) (by omega))
  have c2 := fn55 m (x - a) (b - a) (frac_ok ho.1 (by omega) (by omega))
  unfold levL levR
  rw [if_pos e, if_pos e, e]
  repeat' (first | refine WK_go ?_ | refine W_seqL ?_ | refine W_seq ?_ | (refine W_regL ?_; simp (maxSteps := 400000) (disch := omega) only [push_cast, ↓reduceIte, reduceCtorEq, Nat.reduceAdd, Nat.reduceSub, Nat.reduceEqDiff, Nat.reduceLeDiff, Nat.reduceLT, Nat.reduceBEq, Nat.reduceDiv, Nat.reduceMod, Nat.reducePow, Nat.reduceMul, Int.reduceToNat, Int.reduceLT, Int.reduceLE]) | refine W_block ?_ | (refine W_skip ?_; simp (maxSteps := 400000) (disch := omega) only [push_cast, ↓reduceIte, reduceCtorEq, Nat.reduceAdd, Nat.reduceSub, Nat.reduceEqDiff, Nat.reduceLeDiff, Nat.reduceLT, Nat.reduceBEq, Nat.reduceDiv, Nat.reduceMod, Nat.reducePow, Nat.reduceMul, Int.reduceToNat, Int.reduceLT, Int.reduceLE]) | (refine W_exit ?_; simp (maxSteps := 400000) (disch := omega) only [push_cast, ↓reduceIte, reduceCtorEq, Nat.reduceAdd, Nat.reduceSub, Nat.reduceEqDiff, Nat.reduceLeDiff, Nat.reduceLT, Nat.reduceBEq, Nat.reduceDiv, Nat.reduceMod, Nat.reducePow, Nat.reduceMul, Int.reduceToNat, Int.reduceLT, Int.reduceLE]) | refine And.intro (by omega) ?_ | refine And.intro (by intro hq; (try simp only [Bool.and_eq_true, Bool.or_eq_true, Bool.and_eq_false_iff, Bool.or_eq_false_iff, decide_eq_true_eq, decide_eq_false_iff_not, Bool.not_eq_true', Bool.not_eq_false', beq_iff_eq, beq_eq_false_iff_ne, ne_eq] at hq); omega) ?_ | (refine CallC.now (c1) ?_; simp (maxSteps := 400000) (disch := omega) only [push_cast, ↓reduceIte, reduceCtorEq, Nat.reduceAdd, Nat.reduceSub, Nat.reduceEqDiff, Nat.reduceLeDiff, Nat.reduceLT, Nat.reduceBEq, Nat.reduceDiv, Nat.reduceMod, Nat.reducePow, Nat.reduceMul, Int.reduceToNat, Int.reduceLT, Int.reduceLE]) | (refine CallC.now (c2) ?_; simp (maxSteps := 400000) (disch := omega) only [push_cast, ↓reduceIte, reduceCtorEq, Nat.reduceAdd, Nat.reduceSub, Nat.reduceEqDiff, Nat.reduceLeDiff, Nat.reduceLT, Nat.reduceBEq, Nat.reduceDiv, Nat.reduceMod, Nat.reducePow, Nat.reduceMul, Int.reduceToNat, Int.reduceLT, Int.reduceLE]) | fail)
  exact W_ret ⟨[_, _, _], ⟨rfl, rfl, rfl, rfl⟩, rfl⟩
end Go.Proofs.Ytfkjdjlcaojedaa

/- Determinants. -/
namespace Go.Proofs.Ytfkjdjlcaojedaa
open Go Sy
set_option maxRecDepth 100000
set_option maxHeartbeats 4000000
set_option linter.unusedVariables false
set_option linter.unusedSimpArgs false
/-- three rows of three numbers -/
def c9 (f : Nat → Int) : List AV := [iv (f 0), iv (f 1), iv (f 2), iv (f 3), iv (f 4), iv (f 5), iv (f 6), iv (f 7), iv (f 8)]
theorem nth9 (f : Nat → Int) (i : Nat) (h : i < 9) : nth (c9 f) i = iv (f i) := by
  rcases i with _ | _ | _ | _ | _ | _ | _ | _ | _ | i <;> first | rfl | omega
theorem len9 (f : Nat → Int) : (c9 f).length = 9 := rfl
theorem frz9 (f : Nat → Int) : frzAll (c9 f) = true := rfl
theorem ids9 {m : Nat → Option Blk} {n : Nat} (f : Nat → Int) : List.flatMap (ids m n) (c9 f) = [] := flat_frz n _ (frz9 f)
theorem take9 (f : Nat → Int) : List.take 9 (c9 f) = c9 f := rfl
theorem vw9 {m : Nat → Option Blk} {n : Nat} (f : Nat → Int) : List.map (view m n) (c9 f) = c9 f := by cases n <;> rfl
attribute [push_cast] nth9 len9 frz9 ids9 take9 vw9
def det (f : Nat → Int) : Int := f 0 * (f 4 * f 8 - f 7 * f 5) - f 1 * (f 3 * f 8 - f 6 * f 5) + f 2 * (f 3 * f 7 - f 6 * f 4)
/-- the numbers are small -/
structure Tab (f : Nat → Int) : Prop where
  n : ∀ g, g < 3 → 0 ≤ f (3 * g) ∧ f (3 * g) ≤ 48
  a : ∀ j, j < 9 → -6291456 ≤ f j ∧ f j ≤ 6291456
theorem mulB {a b A B C : Int} (ha : -A ≤ a ∧ a ≤ A) (hb : -B ≤ b ∧ b ≤ B) (hC : A * B = C) : -C ≤ a * b ∧ a * b ≤ C := by
  have h1 : (a * b).natAbs = a.natAbs * b.natAbs := Int.natAbs_mul ..
  have h2 : a.natAbs * b.natAbs ≤ A.natAbs * B.natAbs := Nat.mul_le_mul (by omega) (by omega)
  have h3 : A.natAbs * B.natAbs = C.natAbs := by rw [← hC, Int.natAbs_mul]
  have h4 : 0 ≤ C := by rw [← hC]; exact Int.mul_nonneg (by omega) (by omega)
  omega
theorem fn124 (f : Nat → Int) (a b : Nat) (ha : a < 3) (hb : b < 3) (h : Tab f) : Sy.Fn Try.prog 124 [iv a, iv b, .fp (c9 f) 0] (iv (f (3 + a) * f (6 + b) - f (6 + a) * f (3 + b))) := by
  refine Fn_of_W mixed Xt124 rfl ?_
  have h1 := mulB (h.a (3 + a) (by omega)) (h.a (6 + b) (by omega)) rfl
  have h2 := mulB (h.a (6 + a) (by omega)) (h.a (3 + b) (by omega)) rfl
  simp only [Int.reduceMul] at h1 h2
  repeat' (first | refine WK_go ?_ | refine W_seqL ?_ | refine W_seq ?_ | (refine W_regL ?_; simp (maxSteps := 400000) (disch := omega) only [push_cast, ↓reduceIte, reduceCtorEq, Nat.reduceAdd, Nat.reduceSub, Nat.reduceEqDiff, Nat.reduceLeDiff, Nat.reduceLT, Nat.reduceBEq, Nat.reduceDiv, Nat.reduceMod, Nat.reducePow, Nat.reduceMul, Int.reduceToNat, Int.reduceLT, Int.reduceLE, Nat.mul_one]) | refine W_block ?_ | (refine W_skip ?_; simp (maxSteps := 400000) (disch := omega) only [push_cast, ↓reduceIte, reduceCtorEq, Nat.reduceAdd, Nat.reduceSub, Nat.reduceEqDiff, Nat.reduceLeDiff, Nat.reduceLT, Nat.reduceBEq, Nat.reduceDiv, Nat.reduceMod, Nat.reducePow, Nat.reduceMul, Int.reduceToNat, Int.reduceLT, Int.reduceLE, Nat.mul_one]) | (refine W_exit ?_; simp (maxSteps := 400000) (disch := omega) only [push_cast, ↓reduceIte, reduceCtorEq, Nat.reduceAdd, Nat.reduceSub, Nat.reduceEqDiff, Nat.reduceLeDiff, Nat.reduceLT, Nat.reduceBEq, Nat.reduceDiv, Nat.reduceMod, Nat.reducePow, Nat.reduceMul, Int.reduceToNat, Int.reduceLT, Int.reduceLE, Nat.mul_one]) | refine And.intro (by omega) ?_ | refine And.intro (by intro hq; (try simp only [Bool.and_eq_true, Bool.or_eq_true, Bool.and_eq_false_iff, Bool.or_eq_false_iff, decide_eq_true_eq, decide_eq_false_iff_not, Bool.not_eq_true', Bool.not_eq_false', beq_iff_eq, beq_eq_false_iff_ne, ne_eq] at hq); omega) ?_ | fail)
  exact W_ret ⟨[_], ⟨rfl, rfl⟩, rfl⟩
theorem det_parts {f : Nat → Int} (h : Tab f) :
    (-3799912185593856 ≤ f 0 * (f 4 * f 8 - f 7 * f 5) ∧ f 0 * (f 4 * f 8 - f 7 * f 5) ≤ 3799912185593856) ∧
    (-3799912185593856 ≤ f 1 * (f 3 * f 8 - f 6 * f 5) ∧ f 1 * (f 3 * f 8 - f 6 * f 5) ≤ 3799912185593856) ∧
    (-3799912185593856 ≤ f 2 * (f 3 * f 7 - f 6 * f 4) ∧ f 2 * (f 3 * f 7 - f 6 * f 4) ≤ 3799912185593856) := by
  have n0 := h.n 0 (by omega)
  have n1 := h.n 1 (by omega)
  have n2 := h.n 2 (by omega)
  simp only [Nat.reduceMul] at n0 n1 n2
  have m1 := mulB (C := 39582418599936) (h.a 4 (by omega)) (h.a 8 (by omega)) (by decide)
  have m2 := mulB (C := 39582418599936) (h.a 7 (by omega)) (h.a 5 (by omega)) (by decide)
  have m3 := mulB (C := 301989888) (A := 48) (show -48 ≤ f 3 ∧ f 3 ≤ 48 by omega) (h.a 8 (by omega)) (by decide)
  have m4 := mulB (C := 301989888) (A := 48) (show -48 ≤ f 6 ∧ f 6 ≤ 48 by omega) (h.a 5 (by omega)) (by decide)
  have m5 := mulB (C := 301989888) (A := 48) (show -48 ≤ f 3 ∧ f 3 ≤ 48 by omega) (h.a 7 (by omega)) (by decide)
  have m6 := mulB (C := 301989888) (A := 48) (show -48 ≤ f 6 ∧ f 6 ≤ 48 by omega) (h.a 4 (by omega)) (by decide)
  exact ⟨mulB (A := 48) (B := 79164837199872) (by omega) (by omega) (by decide), mulB (A := 6291456) (B := 603979776) (h.a 1 (by omega)) (by omega) (by decide), mulB (A := 6291456) (B := 603979776) (h.a 2 (by omega)) (by omega) (by decide)⟩
theorem det_B {f : Nat → Int} (h : Tab f) : -11399736556781568 ≤ det f ∧ det f ≤ 11399736556781568 := by
  have := det_parts h
  unfold det
  omega
theorem fn95 (f : Nat → Int) (h : Tab f) : Sy.Fn Try.prog 95 [.agg (c9 f)] (iv (det f)) := by
  refine Fn_of_W mixed Xt95 rfl ?_
  have c12 := fn124 f 1 2 (by omega) (by omega) h
  have c02 := fn124 f 0 2 (by omega) (by omega) h
  have c01 := fn124 f 0 1 (by omega) (by omega) h
  obtain ⟨b1, b2, b3⟩ := det_parts h
  repeat' (first | refine WK_go ?_ | refine W_seqL ?_ | refine W_seq ?_ | (refine W_regL ?_; simp (maxSteps := 400000) (disch := omega) only [push_cast, ↓reduceIte, reduceCtorEq, Nat.reduceAdd, Nat.reduceSub, Nat.reduceEqDiff, Nat.reduceLeDiff, Nat.reduceLT, Nat.reduceBEq, Nat.reduceDiv, Nat.reduceMod, Nat.reducePow, Nat.reduceMul, Int.reduceToNat, Int.reduceLT, Int.reduceLE]) | refine W_block ?_ | (refine W_skip ?_; simp (maxSteps := 400000) (disch := omega) only [push_cast, ↓reduceIte, reduceCtorEq, Nat.reduceAdd, Nat.reduceSub, Nat.reduceEqDiff, Nat.reduceLeDiff, Nat.reduceLT, Nat.reduceBEq, Nat.reduceDiv, Nat.reduceMod, Nat.reducePow, Nat.reduceMul, Int.reduceToNat, Int.reduceLT, Int.reduceLE]) | (refine W_exit ?_; simp (maxSteps := 400000) (disch := omega) only [push_cast, ↓reduceIte, reduceCtorEq, Nat.reduceAdd, Nat.reduceSub, Nat.reduceEqDiff, Nat.reduceLeDiff, Nat.reduceLT, Nat.reduceBEq, Nat.reduceDiv, Nat.reduceMod, Nat.reducePow, Nat.reduceMul, Int.reduceToNat, Int.reduceLT, Int.reduceLE]) | refine And.intro (by omega) ?_ | refine And.intro (by intro hq; (try simp only [Bool.and_eq_true, Bool.or_eq_true, Bool.and_eq_false_iff, Bool.or_eq_false_iff, decide_eq_true_eq, decide_eq_false_iff_not, Bool.not_eq_true', Bool.not_eq_false', beq_iff_eq, beq_eq_false_iff_ne, ne_eq] at hq); omega) ?_ | (refine CallC.now (c12) ?_; simp (maxSteps := 400000) (disch := omega) only [push_cast, ↓reduceIte, reduceCtorEq, Nat.reduceAdd, Nat.reduceSub, Nat.reduceEqDiff, Nat.reduceLeDiff, Nat.reduceLT, Nat.reduceBEq, Nat.reduceDiv, Nat.reduceMod, Nat.reducePow, Nat.reduceMul, Int.reduceToNat, Int.reduceLT, Int.reduceLE]) | (refine CallC.now (c02) ?_; simp (maxSteps := 400000) (disch := omega) only [push_cast, ↓reduceIte, reduceCtorEq, Nat.reduceAdd, Nat.reduceSub, Nat.reduceEqDiff, Nat.reduceLeDiff, Nat.reduceLT, Nat.reduceBEq, Nat.reduceDiv, Nat.reduceMod, Nat.reducePow, Nat.reduceMul, Int.reduceToNat, Int.reduceLT, Int.reduceLE]) | (refine CallC.now (c01) ?_; simp (maxSteps := 400000) (disch := omega) only [push_cast, ↓reduceIte, reduceCtorEq, Nat.reduceAdd, Nat.reduceSub, Nat.reduceEqDiff, Nat.reduceLeDiff, Nat.reduceLT, Nat.reduceBEq, Nat.reduceDiv, Nat.reduceMod, Nat.reducePow, Nat.reduceMul, Int.reduceToNat, Int.reduceLT, Int.reduceLE]) | fail)
  exact W_ret ⟨[_], ⟨rfl, rfl⟩, rfl⟩
end Go.Proofs.Ytfkjdjlcaojedaa

/- Platforms: the deck. -/
namespace Go.Proofs.Ytfkjdjlcaojedaa
open Go Sy
set_option maxRecDepth 100000
set_option maxHeartbeats 4000000
set_option linter.unusedVariables false
set_option linter.unusedSimpArgs false
structure Sup where
  x : Int
  y : Int
  g : Int
  limit : Int
  least : Int
  most : Int
def cS (s : Sup) : List AV := [iv s.x, iv s.y, iv s.g, iv s.limit, iv s.least, iv s.most]
theorem nS0 (s : Sup) : nth (cS s) 0 = iv s.x := rfl
theorem nS1 (s : Sup) : nth (cS s) 1 = iv s.y := rfl
theorem nS2 (s : Sup) : nth (cS s) 2 = iv s.g := rfl
theorem nS3 (s : Sup) : nth (cS s) 3 = iv s.limit := rfl
theorem nS4 (s : Sup) : nth (cS s) 4 = iv s.least := rfl
theorem nS5 (s : Sup) : nth (cS s) 5 = iv s.most := rfl
theorem lS (s : Sup) : (cS s).length = 6 := rfl
theorem tS (s : Sup) : List.take 6 (cS s) = cS s := rfl
theorem frS (s : Sup) : frzAll (cS s) = true := rfl
theorem iS {m : Nat → Option Blk} {n : Nat} (s : Sup) : List.flatMap (ids m n) (cS s) = [] := flat_frz n _ (frS s)
attribute [push_cast] nS0 nS1 nS2 nS3 nS4 nS5 lS tS frS iS
def dS : Sup := ⟨0, 0, 0, 0, 0, 0⟩
abbrev aP (ps : List Sup) : AV := .sl 6 dS cS ps
def sp (ps : List Sup) (i : Nat) : Sup := ps.getD i dS
def supB (s : Sup) : Bool := inR s.x (-131072) 131072 && inR s.y (-131072) 131072 && decide (0 ≤ s.g) && decide (s.g ≤ 2) && inR s.limit 1 1048576 && decide (0 ≤ s.least) && decide (s.least ≤ s.most) && decide (s.most ≤ 4096)
def pick (s : Sup) : Nat → Int
  | 0 => 1
  | 1 => s.x
  | _ => s.y
def addK (f : Nat → Int) (s : Sup) (k : Nat) (j : Nat) : Int := f j + if j / 3 = s.g.toNat ∧ j % 3 < k then pick s (j % 3) else 0
def addS (f : Nat → Int) (s : Sup) : Nat → Int := addK f s 3
def sumsL (ps : List Sup) : Nat → Int := ps.foldl addS (fun _ => 0)
theorem sumsL_append (ps : List Sup) (s : Sup) : sumsL (ps ++ [s]) = addS (sumsL ps) s := by simp [sumsL, List.foldl_append]
theorem take_sp (ps : List Sup) (i : Nat) (h : i < ps.length) : ps.take (i + 1) = ps.take i ++ [sp ps i] := by
  rw [List.take_succ_eq_append_getElem h]
  simp [sp, h]
def cDk (ps : List Sup) (f : Nat → Int) (w : Int) : List AV := [.sl 6 dS cS ps, iv (f 0), iv (f 1), iv (f 2), iv (f 3), iv (f 4), iv (f 5), iv (f 6), iv (f 7), iv (f 8), iv w]
theorem nD0 (ps : List Sup) (f : Nat → Int) (w : Int) : nth (cDk ps f w) 0 = .sl 6 dS cS ps := rfl
theorem nDw (ps : List Sup) (f : Nat → Int) (w : Int) : nth (cDk ps f w) 10 = iv w := rfl
theorem nDf (ps : List Sup) (f : Nat → Int) (w : Int) (j : Nat) (h : j < 9) : nth (cDk ps f w) (1 + j) = iv (f j) := by
  rcases j with _ | _ | _ | _ | _ | _ | _ | _ | _ | j <;> first | rfl | omega
theorem lD (ps : List Sup) (f : Nat → Int) (w : Int) : (cDk ps f w).length = 11 := rfl
theorem frD (ps : List Sup) (f : Nat → Int) (w : Int) : frzAll (cDk ps f w) = true := rfl
theorem iD {m : Nat → Option Blk} {n : Nat} (ps : List Sup) (f : Nat → Int) (w : Int) : List.flatMap (ids m n) (cDk ps f w) = [] := flat_frz n _ (frD ps f w)
theorem cutD (ps : List Sup) (f : Nat → Int) (w : Int) : List.take 9 (List.drop 1 (cDk ps f w)) = c9 f := rfl
attribute [push_cast] nD0 nDw nDf lD frD iD cutD
abbrev upd9 (f : Nat → Int) (j : Nat) (v : Int) : Nat → Int := fun i => if i = j then v else f i
theorem setD (ps : List Sup) (f : Nat → Int) (w : Int) (j : Nat) (h : j < 9) (v : Int) : List.take (1 + j) (cDk ps f w) ++ [iv v] ++ List.drop (1 + j + 1) (cDk ps f w) = cDk ps (upd9 f j v) w := by
  rcases j with _ | _ | _ | _ | _ | _ | _ | _ | _ | j <;> first | rfl | omega
theorem setDw (ps : List Sup) (f : Nat → Int) (w v : Int) : List.take 10 (cDk ps f w) ++ [iv v] ++ List.drop 11 (cDk ps f w) = cDk ps f v := rfl
noncomputable def chkP (ps : List Sup) : Int := if ps.length < 3 ∨ 48 < ps.length then 6 else if ps.all supB = false then 2 else if det (sumsL ps) = 0 then 9 else 0
abbrev aDk (ps : List Sup) : AV := .fp (cDk ps (sumsL ps) (det (sumsL ps))) 0
noncomputable def dkR (ps : List Sup) : AV := if chkP ps = 0 then .tup [aDk ps, iv 0] else .tup [.v (.pointer none), iv (chkP ps)]
/-- the sums are small -/
structure Small (f : Nat → Int) (i : Nat) : Prop where
  n : ∀ g, g < 3 → 0 ≤ f (3 * g) ∧ f (3 * g) ≤ i
  a : ∀ j, j < 9 → -(131072 * (i : Int)) ≤ f j ∧ f j ≤ 131072 * i
  r : ∀ g k, g < 3 → k < 3 → -(131072 * f (3 * g)) ≤ f (3 * g + k) ∧ f (3 * g + k) ≤ 131072 * f (3 * g)
theorem Small.tab {f : Nat → Int} {i : Nat} (h : Small f i) (hi : i ≤ 48) : Tab f :=
  ⟨fun g hg => by have := h.n g hg; omega, fun j hj => by have := h.a j hj; omega⟩
theorem supB_iff {s : Sup} : supB s = true ↔ (-131072 ≤ s.x ∧ s.x ≤ 131072) ∧ (-131072 ≤ s.y ∧ s.y ≤ 131072) ∧ (0 ≤ s.g ∧ s.g ≤ 2) ∧ (1 ≤ s.limit ∧ s.limit ≤ 1048576) ∧ 0 ≤ s.least ∧ s.least ≤ s.most ∧ s.most ≤ 4096 := by
  simp only [supB, Bool.and_eq_true, inR_iff, decide_eq_true_eq]
  omega
theorem pick_small {s : Sup} (h : supB s = true) (k : Nat) : -131072 ≤ pick s k ∧ pick s k ≤ 131072 := by
  have := supB_iff.1 h
  rcases k with _ | _ | k <;> simp only [pick] <;> omega
theorem Small.add {f : Nat → Int} {i : Nat} {s : Sup} (h : Small f i) (hs : supB s = true) : Small (addS f s) (i + 1) := by
  refine ⟨fun g hg => ?_, fun j hj => ?_, fun g k hg hk => ?_⟩
  · have h1 := h.n g hg
    unfold addS addK
    have e : 3 * g % 3 = 0 := by omega
    rw [e]
    simp only [pick]
    split <;> omega
  · have h1 := h.a j hj
    have h2 := pick_small hs (j % 3)
    unfold addS addK
    split <;> omega
  · have h1 := h.r g k hg hk
    have h2 := pick_small hs k
    unfold addS addK
    rw [show 3 * g / 3 = g by omega, show 3 * g % 3 = 0 by omega, show (3 * g + k) / 3 = g by omega, show (3 * g + k) % 3 = k by omega]
    by_cases e : g = s.g.toNat
    · rw [if_pos ⟨e, by omega⟩, if_pos ⟨e, hk⟩]
      simp only [pick] at h2 ⊢
      omega
    · rw [if_neg (fun q => e q.1), if_neg (fun q => e q.1)]
      omega
theorem small0 : Small (fun _ => 0) 0 := ⟨fun g hg => by omega, fun j hj => by omega, fun g k hg hk => by omega⟩
theorem addK_zero (f : Nat → Int) (s : Sup) : addK f s 0 = f := by
  funext j; unfold addK; rw [if_neg (by omega)]; omega
theorem addK_succ (f : Nat → Int) (s : Sup) (k g : Nat) (hg : s.g = g) (hk : k < 3) : upd9 (addK f s k) (g * 3 + k) (f (g * 3 + k) + pick s k) = addK f s (k + 1) := by
  funext j
  unfold upd9 addK
  have e : s.g.toNat = g := by omega
  rw [e]
  by_cases h : j = g * 3 + k
  · rw [if_pos h, if_pos (by omega), h, show (g * 3 + k) % 3 = k by omega]
  · rw [if_neg h]
    by_cases h2 : j / 3 = g ∧ j % 3 < k
    · rw [if_pos h2, if_pos (by omega)]
    · rw [if_neg h2, if_neg (by omega)]
theorem addK_here (f : Nat → Int) (s : Sup) (k g : Nat) (hg : s.g = g) (hk : k < 3) : addK f s k (g * 3 + k) = f (g * 3 + k) := by
  unfold addK; rw [if_neg (by omega)]; omega
end Go.Proofs.Ytfkjdjlcaojedaa

