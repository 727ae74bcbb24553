/- Part 4 of the proof of: For every log, claim and list of steps the law ClaimVerdicts returns true, and every argument reads behind the call as it read before. -/
import Derived.Test.YtgijpimjfoabjaaP3
import Derived.Test.YtgijpimjfoabjaaChecked
/- Print of my own generator (wip/sy/gen2.lean). -/
namespace Go.Proofs.Ytgijpimjfoabjaa
open Go Sy
set_option maxRecDepth 100000
/-! 41 gooseneck_goosenecklaw11_part: parameters 2, slots 17 -/
def Xn41_1 : C := regL [1, 2] none [⟨some 2, .box true 40 (.tmp 0), none⟩, ⟨some 4, .mv (.const (.int .i64 0)), none⟩]
def Xn41_3 : C := regL [4] none [⟨some 5, .fa 0 (.tmp 2), none⟩, ⟨some 6, .ld 2 1 false (.tmp 5), none⟩, ⟨some 7, .fa 1 (.tmp 2), none⟩, ⟨some 8, .ld 2 1 false (.tmp 7), none⟩, ⟨some 9, .fa 0 (.tmp 2), none⟩, ⟨some 10, .ld 2 1 false (.tmp 9), none⟩, ⟨some 11, .bin 2 .sub (.tmp 8) (.tmp 10), none⟩, ⟨some 12, .mv (.tmp 1), none⟩, ⟨some 13, .cvt .i64 (.tmp 12), none⟩, ⟨some 14, .bin 2 .mul (.tmp 11) (.tmp 13), none⟩, ⟨some 15, .bin 2 .quo (.tmp 14) (.const (.int .i64 255)), none⟩, ⟨some 16, .bin 2 .add (.tmp 6) (.tmp 15), none⟩, ⟨some 4, .mv (.tmp 16), none⟩]
def Xn41_2 : C := .seq Xn41_3 .ret
def Xn41_0 : C := .seq Xn41_1 Xn41_2
theorem Xt41 : Text Try.prog 41 Xn41_0 17 2 [.t 4] := ⟨⟨Try.f41, [2], Try.func41, by kernel_rfl, by kernel_rfl, by kernel_rfl, by kernel_rfl⟩⟩
/-! 42 gooseneck_goosenecklaw11_pick: parameters 2, slots 13 -/
def Xn42_1 : C := regL [0, 1] none [⟨some 4, .mv (.const (.int .u8 0)), none⟩]
def Xn42_4 : C := regL [0, 1, 8] none [⟨some 5, .mv (.tmp 1), none⟩, ⟨some 6, .mv (.tmp 0), none⟩, ⟨some 7, .len (.tmp 6), none⟩, ⟨some 8, .bin 3 .lss (.tmp 5) (.tmp 7), none⟩]
def Xn42_7 : C := regL [4] none [⟨some 9, .mv (.tmp 0), none⟩, ⟨some 10, .mv (.tmp 1), none⟩, ⟨some 11, .ia 1 (.tmp 9) (.tmp 10), none⟩, ⟨some 12, .ld 5 1 false (.tmp 11), none⟩, ⟨some 4, .mv (.tmp 12), none⟩]
def Xn42_6 : C := .seq Xn42_7 .ret
def Xn42_5 : C := .cond (.tmp 8) Xn42_6 .skip
def Xn42_3 : C := .seq Xn42_4 Xn42_5
def Xn42_11 : C := regL [4] none [⟨some 4, .mv (.const (.int .u8 0)), none⟩]
def Xn42_10 : C := .seq Xn42_11 .ret
def Xn42_2 : C := seqL [] Xn42_3 Xn42_10
def Xn42_0 : C := .seq Xn42_1 Xn42_2
theorem Xt42 : Text Try.prog 42 Xn42_0 13 2 [.t 4] := ⟨⟨Try.f42, [], Try.func42, by kernel_rfl, by kernel_rfl, by kernel_rfl, by kernel_rfl⟩⟩
/-! 43 gooseneck_claim_about: parameters 2, slots 19 -/
def Xn43_1 : C := regL [2, 3] none [⟨some 2, .box true 25 (.tmp 0), none⟩, ⟨some 3, .box true 27 (.tmp 1), none⟩, ⟨some 4, .mv (.const (.pointer none)), none⟩, ⟨some 5, .mv (.const (.int .i64 0)), none⟩]
def Xn43_3 : C := regL [3, 6, 7] none [⟨some 9, .ld 25 5 true (.tmp 2), none⟩, ⟨some 10, .call 46 [.tmp 9], none⟩, ⟨some 8, .mv (.tmp 10), none⟩, ⟨some 11, .ext 0 (.tmp 8), none⟩, ⟨some 12, .ext 1 (.tmp 8), none⟩, ⟨some 6, .mv (.tmp 11), none⟩, ⟨some 7, .mv (.tmp 12), none⟩]
def Xn43_6 : C := regL [3, 6, 7, 14] none [⟨some 13, .mv (.tmp 7), none⟩, ⟨some 14, .bin 36 .neq (.tmp 13) (.const (.int .i64 0)), none⟩]
def Xn43_9 : C := regL [4, 5] none [⟨some 15, .mv (.tmp 7), none⟩, ⟨some 4, .mv (.const (.pointer none)), none⟩, ⟨some 5, .mv (.tmp 15), none⟩]
def Xn43_8 : C := .seq Xn43_9 .ret
def Xn43_7 : C := .cond (.tmp 14) Xn43_8 .skip
def Xn43_5 : C := .seq Xn43_6 Xn43_7
def Xn43_13 : C := regL [4, 5] none [⟨some 16, .mv (.tmp 6), none⟩, ⟨some 17, .ld 27 7 true (.tmp 3), none⟩, ⟨some 18, .call 32 [.tmp 17], none⟩, ⟨some 4, .mv (.tmp 16), none⟩, ⟨some 5, .mv (.tmp 18), none⟩]
def Xn43_12 : C := .seq Xn43_13 .ret
def Xn43_4 : C := seqL [3, 6] Xn43_5 Xn43_12
def Xn43_2 : C := .seq Xn43_3 Xn43_4
def Xn43_0 : C := .seq Xn43_1 Xn43_2
theorem Xt43 : Text Try.prog 43 Xn43_0 19 2 [.t 4, .t 5] := ⟨⟨Try.f43, [2, 3], Try.func43, by kernel_rfl, by kernel_rfl, by kernel_rfl, by kernel_rfl⟩⟩
/-! 44 __gooseneck_claim_course__verdict: parameters 2, slots 18 -/
def Xn44_1 : C := regL [0, 3] none [⟨some 3, .box true 27 (.tmp 1), none⟩, ⟨some 4, .mv (.const (.int .i64 0)), none⟩]
def Xn44_5 : C := regL [0, 3, 5] (some [0, 0, 0, 0, 12, 31, 63, 127]) [⟨some 6, .mv (.tmp 0), none⟩, ⟨some 7, .ld 27 7 true (.tmp 3), none⟩, ⟨some 8, .mv (.tmp 0), none⟩, ⟨some 9, .ld 27 7 true (.tmp 3), none⟩, ⟨some 10, .call 56 [.tmp 8, .tmp 9], none⟩, ⟨some 11, .call 58 [.tmp 6, .tmp 7, .tmp 10], none⟩, ⟨some 12, .bin 3 .lss (.tmp 11) (.const (.int .i64 0)), none⟩, ⟨some 5, .mv (.tmp 12), none⟩]
def Xn44_8 : C := regL [4] none [⟨some 4, .mv (.const (.int .i64 1)), none⟩]
def Xn44_7 : C := .seq Xn44_8 .ret
def Xn44_11 : C := regL [13] none [⟨some 14, .mv (.tmp 0), none⟩, ⟨some 15, .ld 27 7 true (.tmp 3), none⟩, ⟨some 16, .call 65 [.tmp 14, .tmp 15], none⟩, ⟨some 17, .bin 3 .lss (.tmp 16) (.const (.int .i64 0)), none⟩, ⟨some 13, .mv (.tmp 17), none⟩]
def Xn44_14 : C := regL [4] none [⟨some 4, .mv (.const (.int .i64 2)), none⟩]
def Xn44_13 : C := .seq Xn44_14 .ret
def Xn44_12 : C := .cond (.tmp 13) Xn44_13 .skip
def Xn44_10 : C := .seq Xn44_11 Xn44_12
def Xn44_6 : C := .cond (.tmp 5) Xn44_7 Xn44_10
def Xn44_4 : C := .seq Xn44_5 Xn44_6
def Xn44_3 : C := .block 0 Xn44_4
def Xn44_18 : C := regL [4] none [⟨some 4, .mv (.const (.int .i64 0)), none⟩]
def Xn44_17 : C := .seq Xn44_18 .ret
def Xn44_2 : C := seqL [] Xn44_3 Xn44_17
def Xn44_0 : C := .seq Xn44_1 Xn44_2
theorem Xt44 : Text Try.prog 44 Xn44_0 18 2 [.t 4] := ⟨⟨Try.f44, [3], Try.func44, by kernel_rfl, by kernel_rfl, by kernel_rfl, by kernel_rfl⟩⟩
/-! 45 gooseneck_gooseneckref11_time: parameters 2, slots 12 -/
def Xn45_1 : C := regL [1, 2] none [⟨some 2, .box true 25 (.tmp 0), none⟩, ⟨some 4, .mv (.const (.int .i64 0)), none⟩]
def Xn45_3 : C := regL [4] none [⟨some 5, .fa 0 (.tmp 2), none⟩, ⟨some 6, .ld 22 1 false (.tmp 5), none⟩, ⟨some 7, .ia 11 (.tmp 6) (.const (.int .i64 0)), none⟩, ⟨some 8, .fa 0 (.tmp 7), none⟩, ⟨some 9, .ld 2 1 false (.tmp 8), none⟩, ⟨some 10, .mv (.tmp 1), none⟩, ⟨some 11, .bin 2 .add (.tmp 9) (.tmp 10), none⟩, ⟨some 4, .mv (.tmp 11), none⟩]
def Xn45_2 : C := .seq Xn45_3 .ret
def Xn45_0 : C := .seq Xn45_1 Xn45_2
theorem Xt45 : Text Try.prog 45 Xn45_0 12 2 [.t 4] := ⟨⟨Try.f45, [2], Try.func45, by kernel_rfl, by kernel_rfl, by kernel_rfl, by kernel_rfl⟩⟩
/-! 46 gooseneck_claim_open: parameters 1, slots 125 -/
def Xn46_1 : C := regL [1] none [⟨some 1, .box true 25 (.tmp 0), none⟩, ⟨some 2, .mv (.const (.pointer none)), none⟩, ⟨some 3, .mv (.const (.int .i64 0)), none⟩]
def Xn46_4 : C := regL [1, 14] none [⟨some 11, .fa 0 (.tmp 1), none⟩, ⟨some 12, .ld 22 1 false (.tmp 11), none⟩, ⟨some 13, .len (.tmp 12), none⟩, ⟨some 14, .bin 3 .gtr (.tmp 13) (.const (.int .i64 64)), none⟩]
def Xn46_7 : C := regL [2, 3] none [⟨some 2, .mv (.const (.pointer none)), none⟩, ⟨some 3, .mv (.const (.int .i64 6)), none⟩]
def Xn46_6 : C := .seq Xn46_7 .ret
def Xn46_5 : C := .cond (.tmp 14) Xn46_6 .skip
def Xn46_3 : C := .seq Xn46_4 Xn46_5
def Xn46_12 : C := regL [1, 23] none [⟨some 15, .fa 0 (.tmp 1), none⟩, ⟨some 16, .ld 22 1 false (.tmp 15), none⟩, ⟨some 17, .len (.tmp 16), none⟩, ⟨some 18, .bin 3 .lss (.tmp 17) (.const (.int .i64 2)), none⟩, ⟨some 19, .mv (.tmp 18), none⟩, ⟨some 20, .fa 1 (.tmp 1), some (19, false)⟩, ⟨some 21, .sla 23 4 1 (.tmp 20), some (19, false)⟩, ⟨some 22, .call 68 [.tmp 21, .func 69], some (19, false)⟩, ⟨some 23, .pick 19 (.const (.bool true)) (.tmp 22), none⟩]
def Xn46_15 : C := regL [2, 3] none [⟨some 2, .mv (.const (.pointer none)), none⟩, ⟨some 3, .mv (.const (.int .i64 2)), none⟩]
def Xn46_14 : C := .seq Xn46_15 .ret
def Xn46_13 : C := .cond (.tmp 23) Xn46_14 .skip
def Xn46_11 : C := .seq Xn46_12 Xn46_13
def Xn46_20 : C := regL [1, 25, 26, 27] none [⟨some 24, .fa 0 (.tmp 1), none⟩, ⟨some 25, .ld 22 1 false (.tmp 24), none⟩, ⟨some 26, .len (.tmp 25), none⟩, ⟨some 27, .mv (.const (.int .i64 0)), none⟩]
def Xn46_24 : C := regL [1, 25, 26, 27, 28] none [⟨some 28, .bin 3 .lss (.tmp 27) (.tmp 26), none⟩]
def Xn46_26 : C := .cond (.tmp 28) .skip (.exit 0)
def Xn46_32 : C := regL [1, 4, 5, 25, 26, 27] none [⟨some 29, .mv (.tmp 27), none⟩, ⟨some 30, .ia 11 (.tmp 25) (.tmp 27), none⟩, ⟨some 31, .ld 43 11 true (.tmp 30), none⟩, ⟨some 5, .alc 43 (.agg #[.int .i64 0, .int .i64 0, .int .i64 0, .int .i64 0, .int .i64 0, .int .i64 0, .int .i64 0, .int .i64 0, .int .i64 0, .int .i64 0, .int .i64 0]), none⟩, ⟨some 4, .mv (.tmp 29), none⟩, ⟨none, .st 43 11 (.tmp 5) (.tmp 31), none⟩]
def Xn46_34 : C := regL [1, 5, 6, 25, 26, 27] (some [0, 1, 3, 7, 15, 31, 63, 127, 255, 511, 1023, 2047, 4095, 8191, 16383, 32767, 16383, 81919, 16383, 278527, 999423, 2047999, 4145151, 8388607, 16777215, 33554431, 67108863]) [⟨some 32, .fa 0 (.tmp 5), none⟩, ⟨some 33, .ld 2 1 false (.tmp 32), none⟩, ⟨some 34, .call 49 [.tmp 33, .const (.int .i64 0), .const (.int .i64 1099511627776)], none⟩, ⟨some 35, .un .not (.tmp 34), none⟩, ⟨some 36, .mv (.tmp 35), none⟩, ⟨some 37, .fa 1 (.tmp 5), some (36, false)⟩, ⟨some 38, .ld 40 2 true (.tmp 37), some (36, false)⟩, ⟨some 39, .call 61 [.tmp 38], some (36, false)⟩, ⟨some 40, .un .not (.tmp 39), some (36, false)⟩, ⟨some 41, .pick 36 (.const (.bool true)) (.tmp 40), none⟩, ⟨some 42, .mv (.tmp 41), none⟩, ⟨some 43, .mv (.tmp 4), some (42, false)⟩, ⟨some 44, .bin 3 .gtr (.tmp 43) (.const (.int .i64 0)), some (42, false)⟩, ⟨some 45, .mv (.tmp 44), some (42, false)⟩, ⟨some 46, .fa 0 (.tmp 5), some (45, true)⟩, ⟨some 47, .ld 2 1 false (.tmp 46), some (45, true)⟩, ⟨some 48, .fa 0 (.tmp 1), some (45, true)⟩, ⟨some 49, .ld 22 1 false (.tmp 48), some (45, true)⟩, ⟨some 50, .mv (.tmp 4), some (45, true)⟩, ⟨some 51, .bin 3 .sub (.tmp 50) (.const (.int .i64 1)), some (45, true)⟩, ⟨some 52, .ia 11 (.tmp 49) (.tmp 51), some (45, true)⟩, ⟨some 53, .fa 0 (.tmp 52), some (45, true)⟩, ⟨some 54, .ld 2 1 false (.tmp 53), some (45, true)⟩, ⟨some 55, .bin 2 .leq (.tmp 47) (.tmp 54), some (45, true)⟩, ⟨some 56, .pick 45 (.tmp 55) (.const (.bool false)), some (42, false)⟩, ⟨some 57, .pick 42 (.const (.bool true)) (.tmp 56), none⟩, ⟨some 6, .mv (.tmp 57), none⟩]
def Xn46_36 : C := regL [1, 25, 26, 27, 63] none [⟨some 58, .mv (.tmp 6), none⟩, ⟨some 59, .mv (.tmp 58), none⟩, ⟨some 60, .fa 3 (.tmp 5), some (59, false)⟩, ⟨some 61, .sla 41 4 2 (.tmp 60), some (59, false)⟩, ⟨some 62, .call 70 [.tmp 61, .func 71], some (59, false)⟩, ⟨some 63, .pick 59 (.const (.bool true)) (.tmp 62), none⟩]
def Xn46_39 : C := regL [2, 3] none [⟨some 2, .mv (.const (.pointer none)), none⟩, ⟨some 3, .mv (.const (.int .i64 2)), none⟩]
def Xn46_38 : C := .seq Xn46_39 .ret
def Xn46_37 : C := .cond (.tmp 63) Xn46_38 .skip
def Xn46_35 : C := .seq Xn46_36 Xn46_37
def Xn46_33 : C := .seq Xn46_34 Xn46_35
def Xn46_31 : C := .seq Xn46_32 Xn46_33
def Xn46_30 : C := .block 1 Xn46_31
def Xn46_42 : C := regL [1, 25, 26, 27] none [⟨some 64, .bin 3 .add (.tmp 27) (.const (.int .i64 1)), none⟩, ⟨some 27, .mv (.tmp 64), none⟩]
def Xn46_29 : C := seqL [1, 25, 26, 27] Xn46_30 Xn46_42
def Xn46_25 : C := seqL [1, 25, 26, 27] Xn46_26 Xn46_29
def Xn46_23 : C := .seq Xn46_24 Xn46_25
/- carried: [27] -/
def Xn46_22 : C := loopL [1, 25, 26, 27] Xn46_23
def Xn46_21 : C := .block 0 Xn46_22
def Xn46_19 : C := .seq Xn46_20 Xn46_21
def Xn46_44 : C := regL [1, 7] (some [0, 0, 2, 6, 14, 30, 63, 127, 255]) [⟨some 65, .ld 25 5 true (.tmp 1), none⟩, ⟨some 66, .fa 0 (.tmp 1), none⟩, ⟨some 67, .ld 22 1 false (.tmp 66), none⟩, ⟨some 68, .ia 11 (.tmp 67) (.const (.int .i64 0)), none⟩, ⟨some 69, .fa 0 (.tmp 68), none⟩, ⟨some 70, .ld 2 1 false (.tmp 69), none⟩, ⟨some 71, .bld (.agg #[.slice none 0 0, .int .i64 0, .int .i64 0, .int .i64 0, .int .i64 0, .int .i64 0, .slice none 0 0, .slice none 0 0, .slice none 0 0, .slice none 0 0, .slice none 0 0]) [(0, 5, .tmp 65), (5, 1, .tmp 70)], none⟩, ⟨some 72, .box false 95 (.tmp 71), none⟩, ⟨some 7, .mv (.tmp 72), none⟩]
def Xn46_46 : C := regL [7, 8] (some [0, 1, 0, 4, 12, 28, 63, 127, 255, 0, 512, 1536, 3584, 8191, 16383]) [⟨some 73, .fa 0 (.tmp 1), none⟩, ⟨some 74, .ld 22 1 false (.tmp 73), none⟩, ⟨some 75, .fa 0 (.tmp 1), none⟩, ⟨some 76, .ld 22 1 false (.tmp 75), none⟩, ⟨some 77, .len (.tmp 76), none⟩, ⟨some 78, .bin 3 .sub (.tmp 77) (.const (.int .i64 1)), none⟩, ⟨some 79, .ia 11 (.tmp 74) (.tmp 78), none⟩, ⟨some 80, .fa 0 (.tmp 79), none⟩, ⟨some 81, .ld 2 1 false (.tmp 80), none⟩, ⟨some 82, .mv (.tmp 7), none⟩, ⟨some 83, .nilc (.tmp 82), none⟩, ⟨some 84, .fa 5 (.tmp 83), none⟩, ⟨some 85, .ld 2 1 false (.tmp 84), none⟩, ⟨some 86, .bin 2 .sub (.tmp 81) (.tmp 85), none⟩, ⟨some 8, .mv (.tmp 86), none⟩]
def Xn46_49 : C := regL [7, 8, 88] none [⟨some 87, .mv (.tmp 8), none⟩, ⟨some 88, .bin 2 .gtr (.tmp 87) (.const (.int .i64 2000)), none⟩]
def Xn46_52 : C := regL [2, 3] none [⟨some 2, .mv (.const (.pointer none)), none⟩, ⟨some 3, .mv (.const (.int .i64 2)), none⟩]
def Xn46_51 : C := .seq Xn46_52 .ret
def Xn46_50 : C := .cond (.tmp 88) Xn46_51 .skip
def Xn46_48 : C := .seq Xn46_49 Xn46_50
def Xn46_56 : C := regL [7, 8] none [⟨some 9, .mv (.const (.bool true)), none⟩]
def Xn46_59 : C := regL [7, 8, 9] none [⟨some 90, .mv (.tmp 7), none⟩, ⟨some 91, .mv (.tmp 7), none⟩, ⟨some 92, .mv (.tmp 8), none⟩, ⟨some 93, .bin 3 .add (.tmp 92) (.const (.int .i64 1)), none⟩, ⟨some 94, .mv (.tmp 7), none⟩, ⟨some 95, .mkf 73 [.tmp 94] [], none⟩, ⟨some 96, .call 72 [.tmp 91, .tmp 93, .tmp 95], none⟩, ⟨some 89, .mv (.tmp 96), none⟩, ⟨some 97, .ext 0 (.tmp 89), none⟩, ⟨some 98, .ext 1 (.tmp 89), none⟩, ⟨some 99, .nilc (.tmp 90), none⟩, ⟨some 100, .fa 6 (.tmp 99), none⟩, ⟨none, .st 92 1 (.tmp 100) (.tmp 97), none⟩, ⟨some 9, .mv (.tmp 98), none⟩]
def Xn46_61 : C := regL [7, 8, 102] none [⟨some 101, .mv (.tmp 9), none⟩, ⟨some 102, .un .not (.tmp 101), none⟩]
def Xn46_64 : C := regL [2, 3] none [⟨some 2, .mv (.const (.pointer none)), none⟩, ⟨some 3, .mv (.const (.int .i64 16)), none⟩]
def Xn46_63 : C := .seq Xn46_64 .ret
def Xn46_62 : C := .cond (.tmp 102) Xn46_63 .skip
def Xn46_60 : C := .seq Xn46_61 Xn46_62
def Xn46_58 : C := .seq Xn46_59 Xn46_60
def Xn46_69 : C := regL [7, 8, 103] none [⟨some 103, .mv (.const (.int .i64 0)), none⟩]
def Xn46_73 : C := regL [7, 8, 103, 104] none [⟨some 104, .bin 3 .lss (.tmp 103) (.const (.int .i64 4)), none⟩]
def Xn46_75 : C := .cond (.tmp 104) .skip (.exit 2)
def Xn46_81 : C := regL [7, 8, 10, 103] none [⟨some 105, .mv (.tmp 103), none⟩, ⟨some 10, .mv (.tmp 105), none⟩]
def Xn46_83 : C := regL [7, 8, 9, 103] (some [0, 0, 0, 0, 8, 0, 0, 96, 252, 508, 1020, 1020, 1, 4097, 14335, 30719, 65535]) [⟨some 107, .mv (.tmp 7), none⟩, ⟨some 108, .mv (.tmp 10), none⟩, ⟨some 109, .mv (.tmp 7), none⟩, ⟨some 110, .mv (.tmp 8), none⟩, ⟨some 111, .bin 3 .add (.tmp 110) (.const (.int .i64 1)), none⟩, ⟨some 112, .mv (.tmp 7), none⟩, ⟨some 113, .mv (.tmp 10), none⟩, ⟨some 114, .call 74 [.tmp 112, .tmp 113], none⟩, ⟨some 115, .call 72 [.tmp 109, .tmp 111, .tmp 114], none⟩, ⟨some 106, .mv (.tmp 115), none⟩, ⟨some 116, .ext 0 (.tmp 106), none⟩, ⟨some 117, .ext 1 (.tmp 106), none⟩, ⟨some 118, .nilc (.tmp 107), none⟩, ⟨some 119, .fa 7 (.tmp 118), none⟩, ⟨some 120, .iaa 4 1 (.tmp 119) (.tmp 108), none⟩, ⟨none, .st 92 1 (.tmp 120) (.tmp 116), none⟩, ⟨some 9, .mv (.tmp 117), none⟩]
def Xn46_85 : C := regL [7, 8, 103, 122] none [⟨some 121, .mv (.tmp 9), none⟩, ⟨some 122, .un .not (.tmp 121), none⟩]
def Xn46_88 : C := regL [2, 3] none [⟨some 2, .mv (.const (.pointer none)), none⟩, ⟨some 3, .mv (.const (.int .i64 16)), none⟩]
def Xn46_87 : C := .seq Xn46_88 .ret
def Xn46_86 : C := .cond (.tmp 122) Xn46_87 .skip
def Xn46_84 : C := .seq Xn46_85 Xn46_86
def Xn46_82 : C := .seq Xn46_83 Xn46_84
def Xn46_80 : C := .seq Xn46_81 Xn46_82
def Xn46_79 : C := .block 3 Xn46_80
def Xn46_91 : C := regL [7, 8, 103] none [⟨some 123, .bin 3 .add (.tmp 103) (.const (.int .i64 1)), none⟩, ⟨some 103, .mv (.tmp 123), none⟩]
def Xn46_78 : C := seqL [7, 8, 103] Xn46_79 Xn46_91
def Xn46_74 : C := seqL [7, 8, 103] Xn46_75 Xn46_78
def Xn46_72 : C := .seq Xn46_73 Xn46_74
/- carried: [103] -/
def Xn46_71 : C := loopL [7, 8, 103] Xn46_72
def Xn46_70 : C := .block 2 Xn46_71
def Xn46_68 : C := .seq Xn46_69 Xn46_70
def Xn46_93 : C := regL [2, 3] none [⟨some 124, .mv (.tmp 7), none⟩, ⟨some 2, .mv (.tmp 124), none⟩, ⟨some 3, .mv (.const (.int .i64 0)), none⟩]
def Xn46_92 : C := .seq Xn46_93 .ret
def Xn46_67 : C := seqL [7] Xn46_68 Xn46_92
def Xn46_57 : C := seqL [7, 8] Xn46_58 Xn46_67
def Xn46_55 : C := .seq Xn46_56 Xn46_57
def Xn46_47 : C := seqL [7, 8] Xn46_48 Xn46_55
def Xn46_45 : C := .seq Xn46_46 Xn46_47
def Xn46_43 : C := .seq Xn46_44 Xn46_45
def Xn46_18 : C := seqL [1] Xn46_19 Xn46_43
def Xn46_10 : C := seqL [1] Xn46_11 Xn46_18
def Xn46_2 : C := seqL [1] Xn46_3 Xn46_10
def Xn46_0 : C := .seq Xn46_1 Xn46_2
theorem Xt46 : Text Try.prog 46 Xn46_0 125 1 [.t 2, .t 3] := ⟨⟨Try.f46, [1], Try.func46, by kernel_rfl, by kernel_rfl, by kernel_rfl, by kernel_rfl⟩⟩
/-! 47 slices_ContainsFunc___gooseneck_api_Claim_gooseneck_api_Claim_: parameters 2, slots 9 -/
def Xn47_1 : C := regL [0, 1] none [⟨some 4, .mv (.const (.bool false)), none⟩]
def Xn47_3 : C := regL [4] none [⟨some 5, .mv (.tmp 0), none⟩, ⟨some 6, .mv (.tmp 1), none⟩, ⟨some 7, .call 75 [.tmp 5, .tmp 6], none⟩, ⟨some 8, .bin 3 .geq (.tmp 7) (.const (.int .i64 0)), none⟩, ⟨some 4, .mv (.tmp 8), none⟩]
def Xn47_2 : C := .seq Xn47_3 .ret
def Xn47_0 : C := .seq Xn47_1 Xn47_2
theorem Xt47 : Text Try.prog 47 Xn47_0 9 2 [.t 4] := ⟨⟨Try.f47, [], Try.func47, by kernel_rfl, by kernel_rfl, by kernel_rfl, by kernel_rfl⟩⟩
/-! 48 gooseneck_claim_Settle_1: parameters 1, slots 6 -/
def Xn48_1 : C := regL [1] none [⟨some 1, .box true 27 (.tmp 0), none⟩, ⟨some 2, .mv (.const (.bool false)), none⟩]
def Xn48_3 : C := regL [2] none [⟨some 3, .ld 27 7 true (.tmp 1), none⟩, ⟨some 4, .call 32 [.tmp 3], none⟩, ⟨some 5, .bin 36 .neq (.tmp 4) (.const (.int .i64 0)), none⟩, ⟨some 2, .mv (.tmp 5), none⟩]
def Xn48_2 : C := .seq Xn48_3 .ret
def Xn48_0 : C := .seq Xn48_1 Xn48_2
theorem Xt48 : Text Try.prog 48 Xn48_0 6 1 [.t 2] := ⟨⟨Try.f48, [1], Try.func48, by kernel_rfl, by kernel_rfl, by kernel_rfl, by kernel_rfl⟩⟩
/-! 49 gooseneck_claim_within: parameters 3, slots 15 -/
def Xn49_1 : C := regL [0, 1, 2] none [⟨some 6, .mv (.const (.bool false)), none⟩]
def Xn49_3 : C := regL [6] none [⟨some 7, .mv (.tmp 1), none⟩, ⟨some 8, .mv (.tmp 0), none⟩, ⟨some 9, .bin 2 .leq (.tmp 7) (.tmp 8), none⟩, ⟨some 10, .mv (.tmp 9), none⟩, ⟨some 11, .mv (.tmp 0), some (10, true)⟩, ⟨some 12, .mv (.tmp 2), some (10, true)⟩, ⟨some 13, .bin 2 .leq (.tmp 11) (.tmp 12), some (10, true)⟩, ⟨some 14, .pick 10 (.tmp 13) (.const (.bool false)), none⟩, ⟨some 6, .mv (.tmp 14), none⟩]
def Xn49_2 : C := .seq Xn49_3 .ret
def Xn49_0 : C := .seq Xn49_1 Xn49_2
theorem Xt49 : Text Try.prog 49 Xn49_0 15 3 [.t 6] := ⟨⟨Try.f49, [], Try.func49, by kernel_rfl, by kernel_rfl, by kernel_rfl, by kernel_rfl⟩⟩
/-! 50 gooseneck_gooseneckref11_in: parameters 3, slots 15 -/
def Xn50_1 : C := regL [0, 1, 2] none [⟨some 6, .mv (.const (.bool false)), none⟩]
def Xn50_3 : C := regL [6] none [⟨some 7, .mv (.tmp 0), none⟩, ⟨some 8, .mv (.tmp 1), none⟩, ⟨some 9, .bin 2 .geq (.tmp 7) (.tmp 8), none⟩, ⟨some 10, .mv (.tmp 9), none⟩, ⟨some 11, .mv (.tmp 0), some (10, true)⟩, ⟨some 12, .mv (.tmp 2), some (10, true)⟩, ⟨some 13, .bin 2 .leq (.tmp 11) (.tmp 12), some (10, true)⟩, ⟨some 14, .pick 10 (.tmp 13) (.const (.bool false)), none⟩, ⟨some 6, .mv (.tmp 14), none⟩]
def Xn50_2 : C := .seq Xn50_3 .ret
def Xn50_0 : C := .seq Xn50_1 Xn50_2
theorem Xt50 : Text Try.prog 50 Xn50_0 15 3 [.t 6] := ⟨⟨Try.f50, [], Try.func50, by kernel_rfl, by kernel_rfl, by kernel_rfl, by kernel_rfl⟩⟩
/-! 51 gooseneck_gooseneckref11_verdict: parameters 2, slots 16 -/
def Xn51_1 : C := regL [2, 3] none [⟨some 2, .box true 25 (.tmp 0), none⟩, ⟨some 3, .box true 27 (.tmp 1), none⟩, ⟨some 4, .mv (.const (.int .i64 0)), none⟩]
def Xn51_4 : C := regL [2, 3, 11] (some [0, 0, 0, 0, 12, 31, 63]) [⟨some 5, .ld 25 5 true (.tmp 2), none⟩, ⟨some 6, .ld 27 7 true (.tmp 3), none⟩, ⟨some 7, .ld 25 5 true (.tmp 2), none⟩, ⟨some 8, .ld 27 7 true (.tmp 3), none⟩, ⟨some 9, .call 59 [.tmp 7, .tmp 8], none⟩, ⟨some 10, .call 60 [.tmp 5, .tmp 6, .tmp 9], none⟩, ⟨some 11, .bin 3 .lss (.tmp 10) (.const (.int .i64 0)), none⟩]
def Xn51_7 : C := regL [4] none [⟨some 4, .mv (.const (.int .i64 1)), none⟩]
def Xn51_6 : C := .seq Xn51_7 .ret
def Xn51_5 : C := .cond (.tmp 11) Xn51_6 .skip
def Xn51_3 : C := .seq Xn51_4 Xn51_5
def Xn51_12 : C := regL [15] none [⟨some 12, .ld 25 5 true (.tmp 2), none⟩, ⟨some 13, .ld 27 7 true (.tmp 3), none⟩, ⟨some 14, .call 76 [.tmp 12, .tmp 13], none⟩, ⟨some 15, .bin 3 .lss (.tmp 14) (.const (.int .i64 0)), none⟩]
def Xn51_15 : C := regL [4] none [⟨some 4, .mv (.const (.int .i64 2)), none⟩]
def Xn51_14 : C := .seq Xn51_15 .ret
def Xn51_13 : C := .cond (.tmp 15) Xn51_14 .skip
def Xn51_11 : C := .seq Xn51_12 Xn51_13
def Xn51_19 : C := regL [4] none [⟨some 4, .mv (.const (.int .i64 0)), none⟩]
def Xn51_18 : C := .seq Xn51_19 .ret
def Xn51_10 : C := seqL [] Xn51_11 Xn51_18
def Xn51_2 : C := seqL [2, 3] Xn51_3 Xn51_10
def Xn51_0 : C := .seq Xn51_1 Xn51_2
theorem Xt51 : Text Try.prog 51 Xn51_0 16 2 [.t 4] := ⟨⟨Try.f51, [2, 3], Try.func51, by kernel_rfl, by kernel_rfl, by kernel_rfl, by kernel_rfl⟩⟩
/-! 52 gooseneck_gooseneckref11_band: parameters 1, slots 18 -/
def Xn52_1 : C := regL [1] none [⟨some 1, .box true 40 (.tmp 0), none⟩, ⟨some 2, .mv (.const (.bool false)), none⟩]
def Xn52_3 : C := regL [2] none [⟨some 3, .fa 0 (.tmp 1), none⟩, ⟨some 4, .ld 2 1 false (.tmp 3), none⟩, ⟨some 5, .fa 1 (.tmp 1), none⟩, ⟨some 6, .ld 2 1 false (.tmp 5), none⟩, ⟨some 7, .bin 2 .leq (.tmp 4) (.tmp 6), none⟩, ⟨some 8, .mv (.tmp 7), none⟩, ⟨some 9, .fa 0 (.tmp 1), some (8, true)⟩, ⟨some 10, .ld 2 1 false (.tmp 9), some (8, true)⟩, ⟨some 11, .bin 2 .geq (.tmp 10) (.const (.int .i64 (-1073741824))), some (8, true)⟩, ⟨some 12, .pick 8 (.tmp 11) (.const (.bool false)), none⟩, ⟨some 13, .mv (.tmp 12), none⟩, ⟨some 14, .fa 1 (.tmp 1), some (13, true)⟩, ⟨some 15, .ld 2 1 false (.tmp 14), some (13, true)⟩, ⟨some 16, .bin 2 .leq (.tmp 15) (.const (.int .i64 1073741824)), some (13, true)⟩, ⟨some 17, .pick 13 (.tmp 16) (.const (.bool false)), none⟩, ⟨some 2, .mv (.tmp 17), none⟩]
def Xn52_2 : C := .seq Xn52_3 .ret
def Xn52_0 : C := .seq Xn52_1 Xn52_2
theorem Xt52 : Text Try.prog 52 Xn52_0 18 1 [.t 2] := ⟨⟨Try.f52, [1], Try.func52, by kernel_rfl, by kernel_rfl, by kernel_rfl, by kernel_rfl⟩⟩
/-! 53 gooseneck_gooseneckref11_last: parameters 1, slots 18 -/
def Xn53_1 : C := regL [1] none [⟨some 1, .box true 25 (.tmp 0), none⟩, ⟨some 2, .mv (.const (.int .i64 0)), none⟩]
def Xn53_3 : C := regL [2] (some [0, 1, 0, 4, 12, 28, 63, 127, 255, 0, 512, 1536, 3584, 7680, 16383, 32767]) [⟨some 3, .fa 0 (.tmp 1), none⟩, ⟨some 4, .ld 22 1 false (.tmp 3), none⟩, ⟨some 5, .fa 0 (.tmp 1), none⟩, ⟨some 6, .ld 22 1 false (.tmp 5), none⟩, ⟨some 7, .len (.tmp 6), none⟩, ⟨some 8, .bin 3 .sub (.tmp 7) (.const (.int .i64 1)), none⟩, ⟨some 9, .ia 11 (.tmp 4) (.tmp 8), none⟩, ⟨some 10, .fa 0 (.tmp 9), none⟩, ⟨some 11, .ld 2 1 false (.tmp 10), none⟩, ⟨some 12, .fa 0 (.tmp 1), none⟩, ⟨some 13, .ld 22 1 false (.tmp 12), none⟩, ⟨some 14, .ia 11 (.tmp 13) (.const (.int .i64 0)), none⟩, ⟨some 15, .fa 0 (.tmp 14), none⟩, ⟨some 16, .ld 2 1 false (.tmp 15), none⟩, ⟨some 17, .bin 2 .sub (.tmp 11) (.tmp 16), none⟩, ⟨some 2, .mv (.tmp 17), none⟩]
def Xn53_2 : C := .seq Xn53_3 .ret
def Xn53_0 : C := .seq Xn53_1 Xn53_2
theorem Xt53 : Text Try.prog 53 Xn53_0 18 1 [.t 2] := ⟨⟨Try.f53, [1], Try.func53, by kernel_rfl, by kernel_rfl, by kernel_rfl, by kernel_rfl⟩⟩
/-! 54 __gooseneck_claim_course__whole: parameters 2, slots 25 -/
def Xn54_1 : C := regL [0, 3] none [⟨some 3, .box true 34 (.tmp 1), none⟩, ⟨some 4, .mv (.const (.bool false)), none⟩]
def Xn54_3 : C := regL [4] (some [0, 1, 3, 0, 8, 24, 56, 120, 255, 511, 1023, 2047, 4095, 1023, 9215, 25599, 58367, 123903, 262143, 524287, 1048575]) [⟨some 5, .fa 0 (.tmp 3), none⟩, ⟨some 6, .ld 31 1 false (.tmp 5), none⟩, ⟨some 7, .len (.tmp 6), none⟩, ⟨some 8, .mv (.tmp 0), none⟩, ⟨some 9, .nilc (.tmp 8), none⟩, ⟨some 10, .fa 6 (.tmp 9), none⟩, ⟨some 11, .ld 92 1 false (.tmp 10), none⟩, ⟨some 12, .len (.tmp 11), none⟩, ⟨some 13, .bin 3 .eql (.tmp 7) (.tmp 12), none⟩, ⟨some 14, .mv (.tmp 13), none⟩, ⟨some 15, .fa 1 (.tmp 3), some (14, true)⟩, ⟨some 16, .ld 32 1 false (.tmp 15), some (14, true)⟩, ⟨some 17, .len (.tmp 16), some (14, true)⟩, ⟨some 18, .mv (.tmp 0), some (14, true)⟩, ⟨some 19, .nilc (.tmp 18), some (14, true)⟩, ⟨some 20, .fa 6 (.tmp 19), some (14, true)⟩, ⟨some 21, .ld 92 1 false (.tmp 20), some (14, true)⟩, ⟨some 22, .len (.tmp 21), some (14, true)⟩, ⟨some 23, .bin 3 .eql (.tmp 17) (.tmp 22), some (14, true)⟩, ⟨some 24, .pick 14 (.tmp 23) (.const (.bool false)), none⟩, ⟨some 4, .mv (.tmp 24), none⟩]
def Xn54_2 : C := .seq Xn54_3 .ret
def Xn54_0 : C := .seq Xn54_1 Xn54_2
theorem Xt54 : Text Try.prog 54 Xn54_0 25 2 [.t 4] := ⟨⟨Try.f54, [3], Try.func54, by kernel_rfl, by kernel_rfl, by kernel_rfl, by kernel_rfl⟩⟩
/-! 55 gooseneck_gooseneckref11_both: parameters 2, slots 13 -/
def Xn55_1 : C := regL [2, 3] none [⟨some 2, .box true 25 (.tmp 0), none⟩, ⟨some 3, .box true 27 (.tmp 1), none⟩, ⟨some 4, .mv (.const (.int .i64 0)), none⟩]
def Xn55_3 : C := regL [3, 5] none [⟨some 6, .ld 25 5 true (.tmp 2), none⟩, ⟨some 7, .call 21 [.tmp 6], none⟩, ⟨some 5, .mv (.tmp 7), none⟩]
def Xn55_6 : C := regL [3, 5, 9] none [⟨some 8, .mv (.tmp 5), none⟩, ⟨some 9, .bin 36 .neq (.tmp 8) (.const (.int .i64 0)), none⟩]
def Xn55_9 : C := regL [4] none [⟨some 10, .mv (.tmp 5), none⟩, ⟨some 4, .mv (.tmp 10), none⟩]
def Xn55_8 : C := .seq Xn55_9 .ret
def Xn55_7 : C := .cond (.tmp 9) Xn55_8 .skip
def Xn55_5 : C := .seq Xn55_6 Xn55_7
def Xn55_13 : C := regL [4] none [⟨some 11, .ld 27 7 true (.tmp 3), none⟩, ⟨some 12, .call 33 [.tmp 11], none⟩, ⟨some 4, .mv (.tmp 12), none⟩]
def Xn55_12 : C := .seq Xn55_13 .ret
def Xn55_4 : C := seqL [3] Xn55_5 Xn55_12
def Xn55_2 : C := .seq Xn55_3 Xn55_4
def Xn55_0 : C := .seq Xn55_1 Xn55_2
theorem Xt55 : Text Try.prog 55 Xn55_0 13 2 [.t 4] := ⟨⟨Try.f55, [2, 3], Try.func55, by kernel_rfl, by kernel_rfl, by kernel_rfl, by kernel_rfl⟩⟩
/-! 56 __gooseneck_claim_course__must: parameters 2, slots 39 -/
def Xn56_1 : C := regL [0, 3] none [⟨some 3, .box true 27 (.tmp 1), none⟩, ⟨some 4, .mv (.const (.slice none 0 0)), none⟩]
def Xn56_3 : C := regL [0, 3, 5] none [⟨some 5, .alc 64 (.slice none 0 0), none⟩]
def Xn56_5 : C := regL [0, 3, 5, 6] (some [0, 0, 2, 1, 9, 31, 63, 0, 255]) [⟨some 8, .mv (.tmp 0), none⟩, ⟨some 9, .fa 2 (.tmp 3), none⟩, ⟨some 10, .ld 3 1 false (.tmp 9), none⟩, ⟨some 11, .nilc (.tmp 8), none⟩, ⟨some 12, .fa 7 (.tmp 11), none⟩, ⟨some 13, .iaa 4 1 (.tmp 12) (.tmp 10), none⟩, ⟨some 14, .ld 92 1 false (.tmp 13), none⟩, ⟨some 6, .alc 92 (.slice none 0 0), none⟩, ⟨none, .st 92 1 (.tmp 6) (.tmp 14), none⟩]
def Xn56_8 : C := regL [3, 5, 6, 17] none [⟨some 15, .mv (.tmp 0), none⟩, ⟨some 16, .ld 27 7 true (.tmp 3), none⟩, ⟨some 17, .call 77 [.tmp 15, .tmp 16], none⟩]
def Xn56_11 : C := regL [3, 5, 6, 7] none [⟨some 7, .mv (.tmp 18), none⟩]
def Xn56_14 : C := regL [5, 7, 33] (some [0, 0, 3, 7, 15, 0, 0, 64, 224, 480, 992, 2047, 0, 4096, 16383]) [⟨some 19, .ld 92 1 false (.tmp 6), none⟩, ⟨some 20, .mv (.tmp 7), none⟩, ⟨some 21, .ia 2 (.tmp 19) (.tmp 20), none⟩, ⟨some 22, .fa 0 (.tmp 21), none⟩, ⟨some 23, .ld 2 1 false (.tmp 22), none⟩, ⟨some 24, .ld 92 1 false (.tmp 6), none⟩, ⟨some 25, .mv (.tmp 7), none⟩, ⟨some 26, .bin 3 .add (.tmp 25) (.const (.int .i64 1)), none⟩, ⟨some 27, .ia 2 (.tmp 24) (.tmp 26), none⟩, ⟨some 28, .fa 0 (.tmp 27), none⟩, ⟨some 29, .ld 2 1 false (.tmp 28), none⟩, ⟨some 30, .mx [.tmp 23, .tmp 29], none⟩, ⟨some 31, .fa 3 (.tmp 3), none⟩, ⟨some 32, .ld 2 1 false (.tmp 31), none⟩, ⟨some 33, .bin 2 .gtr (.tmp 30) (.tmp 32), none⟩]
def Xn56_16 : C := regL [] none [⟨some 34, .ld 64 1 false (.tmp 5), none⟩, ⟨some 35, .mv (.tmp 7), none⟩, ⟨some 36, .bls 3 1 1 (.int .i64 0) [(0, 1, .tmp 35)], none⟩, ⟨some 37, .app 3 1 8 (.tmp 34) (.tmp 36), none⟩, ⟨none, .st 64 1 (.tmp 5) (.tmp 37), none⟩]
def Xn56_15 : C := .cond (.tmp 33) Xn56_16 .skip
def Xn56_13 : C := .seq Xn56_14 Xn56_15
def Xn56_12 : C := .block 1 Xn56_13
def Xn56_10 : C := .rfn (.tmp 17) [18] Xn56_11 Xn56_12
def Xn56_9 : C := .block 0 Xn56_10
def Xn56_7 : C := .seq Xn56_8 Xn56_9
def Xn56_19 : C := regL [4] none [⟨some 38, .ld 64 1 false (.tmp 5), none⟩, ⟨some 4, .mv (.tmp 38), none⟩]
def Xn56_18 : C := .seq Xn56_19 .ret
def Xn56_6 : C := seqL [5] Xn56_7 Xn56_18
def Xn56_4 : C := .seq Xn56_5 Xn56_6
def Xn56_2 : C := .seq Xn56_3 Xn56_4
def Xn56_0 : C := .seq Xn56_1 Xn56_2
theorem Xt56 : Text Try.prog 56 Xn56_0 39 2 [.t 4] := ⟨⟨Try.f56, [3], Try.func56, by kernel_rfl, by kernel_rfl, by kernel_rfl, by kernel_rfl⟩⟩
/-! 57 slices_BinarySearch___int_int_: parameters 2, slots 54 -/
def Xn57_1 : C := regL [0, 1] none [⟨some 4, .mv (.const (.int .i64 0)), none⟩, ⟨some 5, .mv (.const (.bool false)), none⟩]
def Xn57_3 : C := regL [0, 1, 6] none [⟨some 10, .mv (.tmp 0), none⟩, ⟨some 11, .len (.tmp 10), none⟩, ⟨some 6, .mv (.tmp 11), none⟩]
def Xn57_5 : C := regL [0, 1, 6, 7, 8] none [⟨some 12, .mv (.tmp 6), none⟩, ⟨some 7, .mv (.const (.int .i64 0)), none⟩, ⟨some 8, .mv (.tmp 12), none⟩]
def Xn57_11 : C := regL [0, 1, 6, 7, 8, 15] none [⟨some 13, .mv (.tmp 7), none⟩, ⟨some 14, .mv (.tmp 8), none⟩, ⟨some 15, .bin 3 .lss (.tmp 13) (.tmp 14), none⟩]
def Xn57_12 : C := .cond (.tmp 15) .skip (.exit 0)
def Xn57_10 : C := .seq Xn57_11 Xn57_12
def Xn57_17 : C := regL [0, 1, 6, 7, 8, 9] none [⟨some 16, .mv (.tmp 7), none⟩, ⟨some 17, .mv (.tmp 8), none⟩, ⟨some 18, .bin 3 .add (.tmp 16) (.tmp 17), none⟩, ⟨some 19, .cvt .u64 (.tmp 18), none⟩, ⟨some 20, .bin 121 .shr (.tmp 19) (.const (.int .u64 1)), none⟩, ⟨some 21, .cvt .i64 (.tmp 20), none⟩, ⟨some 9, .mv (.tmp 21), none⟩]
def Xn57_19 : C := regL [0, 1, 6, 7, 8, 9, 27] none [⟨some 22, .mv (.tmp 0), none⟩, ⟨some 23, .mv (.tmp 9), none⟩, ⟨some 24, .ia 1 (.tmp 22) (.tmp 23), none⟩, ⟨some 25, .ld 3 1 false (.tmp 24), none⟩, ⟨some 26, .mv (.tmp 1), none⟩, ⟨some 27, .call 78 [.tmp 25, .tmp 26], none⟩]
def Xn57_21 : C := regL [0, 1, 6, 7, 8] none [⟨some 28, .mv (.tmp 9), none⟩, ⟨some 29, .bin 3 .add (.tmp 28) (.const (.int .i64 1)), none⟩, ⟨some 7, .mv (.tmp 29), none⟩]
def Xn57_22 : C := regL [0, 1, 6, 7, 8] none [⟨some 30, .mv (.tmp 9), none⟩, ⟨some 8, .mv (.tmp 30), none⟩]
def Xn57_20 : C := .cond (.tmp 27) Xn57_21 Xn57_22
def Xn57_18 : C := .seq Xn57_19 Xn57_20
def Xn57_16 : C := .seq Xn57_17 Xn57_18
def Xn57_15 : C := .block 1 Xn57_16
def Xn57_9 : C := seqL [0, 1, 6, 7, 8] Xn57_10 Xn57_15
/- carried: [7, 8] -/
def Xn57_8 : C := loopL [0, 1, 6, 7, 8] Xn57_9
def Xn57_7 : C := .block 0 Xn57_8
def Xn57_24 : C := regL [4, 5] none [⟨some 31, .mv (.tmp 7), none⟩, ⟨some 32, .mv (.tmp 7), none⟩, ⟨some 33, .mv (.tmp 6), none⟩, ⟨some 34, .bin 3 .lss (.tmp 32) (.tmp 33), none⟩, ⟨some 35, .mv (.tmp 34), none⟩, ⟨some 36, .mv (.tmp 0), some (35, true)⟩, ⟨some 37, .mv (.tmp 7), some (35, true)⟩, ⟨some 38, .ia 1 (.tmp 36) (.tmp 37), some (35, true)⟩, ⟨some 39, .ld 3 1 false (.tmp 38), some (35, true)⟩, ⟨some 40, .mv (.tmp 1), some (35, true)⟩, ⟨some 41, .bin 3 .eql (.tmp 39) (.tmp 40), some (35, true)⟩, ⟨some 42, .mv (.tmp 41), some (35, true)⟩, ⟨some 43, .mv (.tmp 0), some (42, false)⟩, ⟨some 44, .mv (.tmp 7), some (42, false)⟩, ⟨some 45, .ia 1 (.tmp 43) (.tmp 44), some (42, false)⟩, ⟨some 46, .ld 3 1 false (.tmp 45), some (42, false)⟩, ⟨some 47, .call 79 [.tmp 46], some (42, false)⟩, ⟨some 48, .mv (.tmp 47), some (42, false)⟩, ⟨some 49, .mv (.tmp 1), some (48, true)⟩, ⟨some 50, .call 79 [.tmp 49], some (48, true)⟩, ⟨some 51, .pick 48 (.tmp 50) (.const (.bool false)), some (42, false)⟩, ⟨some 52, .pick 42 (.const (.bool true)) (.tmp 51), some (35, true)⟩, ⟨some 53, .pick 35 (.tmp 52) (.const (.bool false)), none⟩, ⟨some 4, .mv (.tmp 31), none⟩, ⟨some 5, .mv (.tmp 53), none⟩]
def Xn57_23 : C := .seq Xn57_24 .ret
def Xn57_6 : C := seqL [0, 1, 6, 7] Xn57_7 Xn57_23
def Xn57_4 : C := .seq Xn57_5 Xn57_6
def Xn57_2 : C := .seq Xn57_3 Xn57_4
def Xn57_0 : C := .seq Xn57_1 Xn57_2
theorem Xt57 : Text Try.prog 57 Xn57_0 54 2 [.t 4, .t 5] := ⟨⟨Try.f57, [], Try.func57, by kernel_rfl, by kernel_rfl, by kernel_rfl, by kernel_rfl⟩⟩
/-! 58 __gooseneck_claim_course__past: parameters 3, slots 87 -/
def Xn58_1 : C := regL [0, 2, 4] none [⟨some 4, .box true 27 (.tmp 1), none⟩, ⟨some 6, .mv (.const (.int .i64 0)), none⟩]
def Xn58_4 : C := regL [0, 2, 4, 13, 14] none [⟨some 11, .mv (.tmp 2), none⟩, ⟨some 12, .len (.tmp 11), none⟩, ⟨some 13, .bin 3 .add (.tmp 12) (.const (.int .i64 1)), none⟩, ⟨some 14, .mv (.const (.int .i64 0)), none⟩]
def Xn58_8 : C := regL [0, 2, 4, 13, 14, 15] none [⟨some 15, .bin 3 .lss (.tmp 14) (.tmp 13), none⟩]
def Xn58_10 : C := .cond (.tmp 15) .skip (.exit 0)
def Xn58_16 : C := regL [0, 2, 4, 7, 13, 14] none [⟨some 16, .mv (.tmp 14), none⟩, ⟨some 7, .mv (.tmp 16), none⟩]
def Xn58_18 : C := regL [0, 2, 4, 7, 8, 13, 14] (some [0, 1, 3, 7, 15, 31, 63, 7, 7, 263, 903, 1927, 3975, 8191, 16383, 32767, 7, 65543, 262143, 524287, 1048575]) [⟨some 17, .mv (.tmp 7), none⟩, ⟨some 18, .bin 3 .eql (.tmp 17) (.const (.int .i64 0)), none⟩, ⟨some 19, .mv (.tmp 18), none⟩, ⟨some 20, .mv (.tmp 0), some (19, false)⟩, ⟨some 21, .nilc (.tmp 20), some (19, false)⟩, ⟨some 22, .fa 6 (.tmp 21), some (19, false)⟩, ⟨some 23, .ld 92 1 false (.tmp 22), some (19, false)⟩, ⟨some 24, .mv (.tmp 2), some (19, false)⟩, ⟨some 25, .mv (.tmp 7), some (19, false)⟩, ⟨some 26, .bin 3 .sub (.tmp 25) (.const (.int .i64 1)), some (19, false)⟩, ⟨some 27, .ia 1 (.tmp 24) (.tmp 26), some (19, false)⟩, ⟨some 28, .ld 3 1 false (.tmp 27), some (19, false)⟩, ⟨some 29, .bin 3 .add (.tmp 28) (.const (.int .i64 1)), some (19, false)⟩, ⟨some 30, .ia 2 (.tmp 23) (.tmp 29), some (19, false)⟩, ⟨some 31, .fa 0 (.tmp 30), some (19, false)⟩, ⟨some 32, .ld 2 1 false (.tmp 31), some (19, false)⟩, ⟨some 33, .fa 0 (.tmp 4), some (19, false)⟩, ⟨some 34, .ld 2 1 false (.tmp 33), some (19, false)⟩, ⟨some 35, .bin 2 .lss (.tmp 32) (.tmp 34), some (19, false)⟩, ⟨some 36, .pick 19 (.const (.bool true)) (.tmp 35), none⟩, ⟨some 8, .mv (.tmp 36), none⟩]
def Xn58_20 : C := regL [0, 2, 4, 7, 8, 9, 13, 14] (some [0, 0, 2, 7, 15, 31, 63, 127, 255, 31, 31, 1567, 3615, 8191, 16383, 32767, 31, 65567, 262143, 524287, 1048575]) [⟨some 37, .mv (.tmp 7), none⟩, ⟨some 38, .mv (.tmp 2), none⟩, ⟨some 39, .len (.tmp 38), none⟩, ⟨some 40, .bin 3 .eql (.tmp 37) (.tmp 39), none⟩, ⟨some 41, .mv (.tmp 40), none⟩, ⟨some 42, .mv (.tmp 0), some (41, false)⟩, ⟨some 43, .nilc (.tmp 42), some (41, false)⟩, ⟨some 44, .fa 6 (.tmp 43), some (41, false)⟩, ⟨some 45, .ld 92 1 false (.tmp 44), some (41, false)⟩, ⟨some 46, .mv (.tmp 2), some (41, false)⟩, ⟨some 47, .mv (.tmp 7), some (41, false)⟩, ⟨some 48, .ia 1 (.tmp 46) (.tmp 47), some (41, false)⟩, ⟨some 49, .ld 3 1 false (.tmp 48), some (41, false)⟩, ⟨some 50, .ia 2 (.tmp 45) (.tmp 49), some (41, false)⟩, ⟨some 51, .fa 1 (.tmp 50), some (41, false)⟩, ⟨some 52, .ld 2 1 false (.tmp 51), some (41, false)⟩, ⟨some 53, .fa 1 (.tmp 4), some (41, false)⟩, ⟨some 54, .ld 2 1 false (.tmp 53), some (41, false)⟩, ⟨some 55, .bin 2 .gtr (.tmp 52) (.tmp 54), some (41, false)⟩, ⟨some 56, .pick 41 (.const (.bool true)) (.tmp 55), none⟩, ⟨some 9, .mv (.tmp 56), none⟩]
def Xn58_22 : C := regL [0, 2, 4, 7, 8, 9, 10, 13, 14] (some [0, 1, 3, 7, 7, 23, 63, 127, 255, 511, 511, 2047, 4095, 511, 511, 16895, 57855, 123391, 254463, 524287, 1048575, 2097151]) [⟨some 57, .mv (.tmp 7), none⟩, ⟨some 58, .bin 3 .eql (.tmp 57) (.const (.int .i64 0)), none⟩, ⟨some 59, .mv (.tmp 58), none⟩, ⟨some 60, .mv (.tmp 7), some (59, false)⟩, ⟨some 61, .mv (.tmp 2), some (59, false)⟩, ⟨some 62, .len (.tmp 61), some (59, false)⟩, ⟨some 63, .bin 3 .eql (.tmp 60) (.tmp 62), some (59, false)⟩, ⟨some 64, .pick 59 (.const (.bool true)) (.tmp 63), none⟩, ⟨some 65, .mv (.tmp 64), none⟩, ⟨some 66, .mv (.tmp 2), some (65, false)⟩, ⟨some 67, .mv (.tmp 7), some (65, false)⟩, ⟨some 68, .ia 1 (.tmp 66) (.tmp 67), some (65, false)⟩, ⟨some 69, .ld 3 1 false (.tmp 68), some (65, false)⟩, ⟨some 70, .mv (.tmp 2), some (65, false)⟩, ⟨some 71, .mv (.tmp 7), some (65, false)⟩, ⟨some 72, .bin 3 .sub (.tmp 71) (.const (.int .i64 1)), some (65, false)⟩, ⟨some 73, .ia 1 (.tmp 70) (.tmp 72), some (65, false)⟩, ⟨some 74, .ld 3 1 false (.tmp 73), some (65, false)⟩, ⟨some 75, .bin 3 .add (.tmp 74) (.const (.int .i64 1)), some (65, false)⟩, ⟨some 76, .bin 3 .gtr (.tmp 69) (.tmp 75), some (65, false)⟩, ⟨some 77, .pick 65 (.const (.bool true)) (.tmp 76), none⟩, ⟨some 10, .mv (.tmp 77), none⟩]
def Xn58_24 : C := regL [0, 2, 4, 7, 13, 14, 84] none [⟨some 78, .mv (.tmp 8), none⟩, ⟨some 79, .mv (.tmp 78), none⟩, ⟨some 80, .mv (.tmp 9), some (79, true)⟩, ⟨some 81, .pick 79 (.tmp 80) (.const (.bool false)), none⟩, ⟨some 82, .mv (.tmp 81), none⟩, ⟨some 83, .mv (.tmp 10), some (82, true)⟩, ⟨some 84, .pick 82 (.tmp 83) (.const (.bool false)), none⟩]
def Xn58_27 : C := regL [6] none [⟨some 85, .mv (.tmp 7), none⟩, ⟨some 6, .mv (.tmp 85), none⟩]
def Xn58_26 : C := .seq Xn58_27 .ret
def Xn58_25 : C := .cond (.tmp 84) Xn58_26 .skip
def Xn58_23 : C := .seq Xn58_24 Xn58_25
def Xn58_21 : C := .seq Xn58_22 Xn58_23
def Xn58_19 : C := .seq Xn58_20 Xn58_21
def Xn58_17 : C := .seq Xn58_18 Xn58_19
def Xn58_15 : C := .seq Xn58_16 Xn58_17
def Xn58_14 : C := .block 1 Xn58_15
def Xn58_30 : C := regL [0, 2, 4, 13, 14] none [⟨some 86, .bin 3 .add (.tmp 14) (.const (.int .i64 1)), none⟩, ⟨some 14, .mv (.tmp 86), none⟩]
def Xn58_13 : C := seqL [0, 2, 4, 13, 14] Xn58_14 Xn58_30
def Xn58_9 : C := seqL [0, 2, 4, 13, 14] Xn58_10 Xn58_13
def Xn58_7 : C := .seq Xn58_8 Xn58_9
/- carried: [14] -/
def Xn58_6 : C := loopL [0, 2, 4, 13, 14] Xn58_7
def Xn58_5 : C := .block 0 Xn58_6
def Xn58_3 : C := .seq Xn58_4 Xn58_5
def Xn58_32 : C := regL [6] none [⟨some 6, .mv (.const (.int .i64 (-1))), none⟩]
def Xn58_31 : C := .seq Xn58_32 .ret
def Xn58_2 : C := seqL [] Xn58_3 Xn58_31
def Xn58_0 : C := .seq Xn58_1 Xn58_2
theorem Xt58 : Text Try.prog 58 Xn58_0 87 3 [.t 6] := ⟨⟨Try.f58, [4], Try.func58, by kernel_rfl, by kernel_rfl, by kernel_rfl, by kernel_rfl⟩⟩
/-! 59 gooseneck_gooseneckref11_Must: parameters 2, slots 43 -/
def Xn59_1 : C := regL [2, 3] none [⟨some 2, .box true 25 (.tmp 0), none⟩, ⟨some 3, .box true 27 (.tmp 1), none⟩, ⟨some 4, .mv (.const (.slice none 0 0)), none⟩]
def Xn59_3 : C := regL [2, 3, 5] none [⟨some 5, .mv (.const (.slice none 0 0)), none⟩]
def Xn59_6 : C := regL [2, 3, 5, 6] none [⟨some 6, .mv (.const (.int .i64 0)), none⟩]
def Xn59_11 : C := regL [2, 3, 5, 6, 11] none [⟨some 8, .mv (.tmp 6), none⟩, ⟨some 9, .ld 25 5 true (.tmp 2), none⟩, ⟨some 10, .call 53 [.tmp 9], none⟩, ⟨some 11, .bin 3 .lss (.tmp 8) (.tmp 10), none⟩]
def Xn59_12 : C := .cond (.tmp 11) .skip (.exit 0)
def Xn59_10 : C := .seq Xn59_11 Xn59_12
def Xn59_18 : C := regL [2, 3, 5, 6, 7] (some [0, 0, 0, 4, 15, 31, 0, 0, 128, 0, 512, 2015, 4063, 8191, 16383]) [⟨some 14, .ld 25 5 true (.tmp 2), none⟩, ⟨some 15, .mv (.tmp 6), none⟩, ⟨some 16, .fa 2 (.tmp 3), none⟩, ⟨some 17, .ld 3 1 false (.tmp 16), none⟩, ⟨some 18, .call 17 [.tmp 14, .tmp 15, .tmp 17], none⟩, ⟨some 19, .fl 0 1 false (.tmp 18), none⟩, ⟨some 20, .ld 25 5 true (.tmp 2), none⟩, ⟨some 21, .mv (.tmp 6), none⟩, ⟨some 22, .bin 3 .add (.tmp 21) (.const (.int .i64 1)), none⟩, ⟨some 23, .fa 2 (.tmp 3), none⟩, ⟨some 24, .ld 3 1 false (.tmp 23), none⟩, ⟨some 25, .call 17 [.tmp 20, .tmp 22, .tmp 24], none⟩, ⟨some 26, .fl 0 1 false (.tmp 25), none⟩, ⟨some 27, .mx [.tmp 19, .tmp 26], none⟩, ⟨some 7, .mv (.tmp 27), none⟩]
def Xn59_20 : C := regL [2, 3, 5, 6, 37] none [⟨some 28, .ld 25 5 true (.tmp 2), none⟩, ⟨some 29, .ld 27 7 true (.tmp 3), none⟩, ⟨some 30, .mv (.tmp 6), none⟩, ⟨some 31, .call 80 [.tmp 28, .tmp 29, .tmp 30], none⟩, ⟨some 32, .mv (.tmp 31), none⟩, ⟨some 33, .mv (.tmp 7), some (32, true)⟩, ⟨some 34, .fa 3 (.tmp 3), some (32, true)⟩, ⟨some 35, .ld 2 1 false (.tmp 34), some (32, true)⟩, ⟨some 36, .bin 2 .gtr (.tmp 33) (.tmp 35), some (32, true)⟩, ⟨some 37, .pick 32 (.tmp 36) (.const (.bool false)), none⟩]
def Xn59_22 : C := regL [2, 3, 5, 6] none [⟨some 38, .mv (.tmp 5), none⟩, ⟨some 39, .mv (.tmp 6), none⟩, ⟨some 40, .bls 3 1 1 (.int .i64 0) [(0, 1, .tmp 39)], none⟩, ⟨some 41, .app 3 1 8 (.tmp 38) (.tmp 40), none⟩, ⟨some 5, .mv (.tmp 41), none⟩]
def Xn59_21 : C := .cond (.tmp 37) Xn59_22 .skip
def Xn59_19 : C := .seq Xn59_20 Xn59_21
def Xn59_17 : C := .seq Xn59_18 Xn59_19
def Xn59_16 : C := .block 1 Xn59_17
def Xn59_24 : C := regL [2, 3, 5, 6] none [⟨some 12, .mv (.tmp 6), none⟩, ⟨some 13, .bin 3 .add (.tmp 12) (.const (.int .i64 1)), none⟩, ⟨some 6, .mv (.tmp 13), none⟩]
def Xn59_15 : C := seqL [2, 3, 5, 6] Xn59_16 Xn59_24
def Xn59_9 : C := seqL [2, 3, 5, 6] Xn59_10 Xn59_15
/- carried: [5, 6] -/
def Xn59_8 : C := loopL [2, 3, 5, 6] Xn59_9
def Xn59_7 : C := .block 0 Xn59_8
def Xn59_5 : C := .seq Xn59_6 Xn59_7
def Xn59_26 : C := regL [4] none [⟨some 42, .mv (.tmp 5), none⟩, ⟨some 4, .mv (.tmp 42), none⟩]
def Xn59_25 : C := .seq Xn59_26 .ret
def Xn59_4 : C := seqL [5] Xn59_5 Xn59_25
def Xn59_2 : C := .seq Xn59_3 Xn59_4
def Xn59_0 : C := .seq Xn59_1 Xn59_2
theorem Xt59 : Text Try.prog 59 Xn59_0 43 2 [.t 4] := ⟨⟨Try.f59, [2, 3], Try.func59, by kernel_rfl, by kernel_rfl, by kernel_rfl, by kernel_rfl⟩⟩
/-! 60 gooseneck_gooseneckref11_past: parameters 3, slots 75 -/
def Xn60_1 : C := regL [2, 3, 4] none [⟨some 3, .box true 25 (.tmp 0), none⟩, ⟨some 4, .box true 27 (.tmp 1), none⟩, ⟨some 6, .mv (.const (.int .i64 0)), none⟩]
def Xn60_3 : C := regL [2, 3, 4, 7] none [⟨some 10, .mv (.tmp 2), none⟩, ⟨some 11, .len (.tmp 10), none⟩, ⟨some 7, .mv (.tmp 11), none⟩]
def Xn60_6 : C := regL [2, 3, 4, 7, 8] none [⟨some 8, .mv (.const (.int .i64 0)), none⟩]
def Xn60_11 : C := regL [2, 3, 4, 7, 8, 14] none [⟨some 12, .mv (.tmp 8), none⟩, ⟨some 13, .mv (.tmp 7), none⟩, ⟨some 14, .bin 3 .leq (.tmp 12) (.tmp 13), none⟩]
def Xn60_12 : C := .cond (.tmp 14) .skip (.exit 0)
def Xn60_10 : C := .seq Xn60_11 Xn60_12
def Xn60_18 : C := regL [2, 3, 4, 7, 8, 9] (some [0, 1, 3, 7, 7, 7, 39, 119, 247, 503, 1023, 2047, 7, 4103, 16383, 32767, 65535, 131071, 131071, 524287, 1048575, 2097151, 2097151, 2097151, 14680063, 31457279, 67108863, 134217727, 2097151, 270532607, 1073741823, 2147483647, 4294967295, 8589934591, 17179869183, 34359738367, 68719476735, 137438953471, 137438953471, 549755813887, 1099511627775, 2199023255551, 4398046511103, 4398046511103, 17592186044415, 35184372088831, 4398046511103, 4398046511103, 145135534866431, 496979255754751, 1059929209176063, 2185829116018687, 4503599627370495, 9007199254740991, 18014398509481983, 36028797018963967]) [⟨some 17, .mv (.tmp 8), none⟩, ⟨some 18, .bin 3 .gtr (.tmp 17) (.const (.int .i64 0)), none⟩, ⟨some 19, .mv (.tmp 18), none⟩, ⟨some 20, .ld 25 5 true (.tmp 3), some (19, true)⟩, ⟨some 21, .mv (.tmp 2), some (19, true)⟩, ⟨some 22, .mv (.tmp 8), some (19, true)⟩, ⟨some 23, .bin 3 .sub (.tmp 22) (.const (.int .i64 1)), some (19, true)⟩, ⟨some 24, .ia 1 (.tmp 21) (.tmp 23), some (19, true)⟩, ⟨some 25, .ld 3 1 false (.tmp 24), some (19, true)⟩, ⟨some 26, .bin 3 .add (.tmp 25) (.const (.int .i64 1)), some (19, true)⟩, ⟨some 27, .call 16 [.tmp 20, .tmp 26], some (19, true)⟩, ⟨some 28, .fl 0 1 false (.tmp 27), some (19, true)⟩, ⟨some 29, .fa 0 (.tmp 4), some (19, true)⟩, ⟨some 30, .ld 2 1 false (.tmp 29), some (19, true)⟩, ⟨some 31, .bin 2 .geq (.tmp 28) (.tmp 30), some (19, true)⟩, ⟨some 32, .pick 19 (.tmp 31) (.const (.bool false)), none⟩, ⟨some 33, .mv (.tmp 32), none⟩, ⟨some 34, .mv (.tmp 8), some (33, false)⟩, ⟨some 35, .mv (.tmp 7), some (33, false)⟩, ⟨some 36, .bin 3 .lss (.tmp 34) (.tmp 35), some (33, false)⟩, ⟨some 37, .mv (.tmp 36), some (33, false)⟩, ⟨some 38, .ld 25 5 true (.tmp 3), some (37, true)⟩, ⟨some 39, .mv (.tmp 2), some (37, true)⟩, ⟨some 40, .mv (.tmp 8), some (37, true)⟩, ⟨some 41, .ia 1 (.tmp 39) (.tmp 40), some (37, true)⟩, ⟨some 42, .ld 3 1 false (.tmp 41), some (37, true)⟩, ⟨some 43, .call 16 [.tmp 38, .tmp 42], some (37, true)⟩, ⟨some 44, .fl 1 1 false (.tmp 43), some (37, true)⟩, ⟨some 45, .fa 1 (.tmp 4), some (37, true)⟩, ⟨some 46, .ld 2 1 false (.tmp 45), some (37, true)⟩, ⟨some 47, .bin 2 .leq (.tmp 44) (.tmp 46), some (37, true)⟩, ⟨some 48, .pick 37 (.tmp 47) (.const (.bool false)), some (33, false)⟩, ⟨some 49, .pick 33 (.const (.bool true)) (.tmp 48), none⟩, ⟨some 50, .mv (.tmp 49), none⟩, ⟨some 51, .mv (.tmp 8), some (50, false)⟩, ⟨some 52, .bin 3 .gtr (.tmp 51) (.const (.int .i64 0)), some (50, false)⟩, ⟨some 53, .mv (.tmp 52), some (50, false)⟩, ⟨some 54, .mv (.tmp 8), some (53, true)⟩, ⟨some 55, .mv (.tmp 7), some (53, true)⟩, ⟨some 56, .bin 3 .lss (.tmp 54) (.tmp 55), some (53, true)⟩, ⟨some 57, .pick 53 (.tmp 56) (.const (.bool false)), some (50, false)⟩, ⟨some 58, .mv (.tmp 57), some (50, false)⟩, ⟨some 59, .mv (.tmp 2), some (58, true)⟩, ⟨some 60, .mv (.tmp 8), some (58, true)⟩, ⟨some 61, .ia 1 (.tmp 59) (.tmp 60), some (58, true)⟩, ⟨some 62, .ld 3 1 false (.tmp 61), some (58, true)⟩, ⟨some 63, .mv (.tmp 2), some (58, true)⟩, ⟨some 64, .mv (.tmp 8), some (58, true)⟩, ⟨some 65, .bin 3 .sub (.tmp 64) (.const (.int .i64 1)), some (58, true)⟩, ⟨some 66, .ia 1 (.tmp 63) (.tmp 65), some (58, true)⟩, ⟨some 67, .ld 3 1 false (.tmp 66), some (58, true)⟩, ⟨some 68, .bin 3 .add (.tmp 67) (.const (.int .i64 1)), some (58, true)⟩, ⟨some 69, .bin 3 .eql (.tmp 62) (.tmp 68), some (58, true)⟩, ⟨some 70, .pick 58 (.tmp 69) (.const (.bool false)), some (50, false)⟩, ⟨some 71, .pick 50 (.const (.bool true)) (.tmp 70), none⟩, ⟨some 9, .mv (.tmp 71), none⟩]
def Xn60_20 : C := regL [2, 3, 4, 7, 8, 73] none [⟨some 72, .mv (.tmp 9), none⟩, ⟨some 73, .un .not (.tmp 72), none⟩]
def Xn60_23 : C := regL [6] none [⟨some 74, .mv (.tmp 8), none⟩, ⟨some 6, .mv (.tmp 74), none⟩]
def Xn60_22 : C := .seq Xn60_23 .ret
def Xn60_21 : C := .cond (.tmp 73) Xn60_22 .skip
def Xn60_19 : C := .seq Xn60_20 Xn60_21
def Xn60_17 : C := .seq Xn60_18 Xn60_19
def Xn60_16 : C := .block 1 Xn60_17
def Xn60_26 : C := regL [2, 3, 4, 7, 8] none [⟨some 15, .mv (.tmp 8), none⟩, ⟨some 16, .bin 3 .add (.tmp 15) (.const (.int .i64 1)), none⟩, ⟨some 8, .mv (.tmp 16), none⟩]
def Xn60_15 : C := seqL [2, 3, 4, 7, 8] Xn60_16 Xn60_26
def Xn60_9 : C := seqL [2, 3, 4, 7, 8] Xn60_10 Xn60_15
/- carried: [8] -/
def Xn60_8 : C := loopL [2, 3, 4, 7, 8] Xn60_9
def Xn60_7 : C := .block 0 Xn60_8
def Xn60_5 : C := .seq Xn60_6 Xn60_7
def Xn60_28 : C := regL [6] none [⟨some 6, .mv (.const (.int .i64 (-1))), none⟩]
def Xn60_27 : C := .seq Xn60_28 .ret
def Xn60_4 : C := seqL [] Xn60_5 Xn60_27
def Xn60_2 : C := .seq Xn60_3 Xn60_4
def Xn60_0 : C := .seq Xn60_1 Xn60_2
theorem Xt60 : Text Try.prog 60 Xn60_0 75 3 [.t 6] := ⟨⟨Try.f60, [3, 4], Try.func60, by kernel_rfl, by kernel_rfl, by kernel_rfl, by kernel_rfl⟩⟩
/-! 61 gooseneck_claim_checkBand: parameters 1, slots 13 -/
def Xn61_1 : C := regL [1] none [⟨some 1, .box true 40 (.tmp 0), none⟩, ⟨some 2, .mv (.const (.bool false)), none⟩]
def Xn61_3 : C := regL [2] none [⟨some 3, .fa 0 (.tmp 1), none⟩, ⟨some 4, .ld 2 1 false (.tmp 3), none⟩, ⟨some 5, .fa 1 (.tmp 1), none⟩, ⟨some 6, .ld 2 1 false (.tmp 5), none⟩, ⟨some 7, .call 49 [.tmp 4, .const (.int .i64 (-1073741824)), .tmp 6], none⟩, ⟨some 8, .mv (.tmp 7), none⟩, ⟨some 9, .fa 1 (.tmp 1), some (8, true)⟩, ⟨some 10, .ld 2 1 false (.tmp 9), some (8, true)⟩, ⟨some 11, .bin 2 .leq (.tmp 10) (.const (.int .i64 1073741824)), some (8, true)⟩, ⟨some 12, .pick 8 (.tmp 11) (.const (.bool false)), none⟩, ⟨some 2, .mv (.tmp 12), none⟩]
def Xn61_2 : C := .seq Xn61_3 .ret
def Xn61_0 : C := .seq Xn61_1 Xn61_2
theorem Xt61 : Text Try.prog 61 Xn61_0 13 1 [.t 2] := ⟨⟨Try.f61, [1], Try.func61, by kernel_rfl, by kernel_rfl, by kernel_rfl, by kernel_rfl⟩⟩
/-! 62 gooseneck_gooseneckref11_whole: parameters 2, slots 21 -/
def Xn62_1 : C := regL [2, 3] none [⟨some 2, .box true 25 (.tmp 0), none⟩, ⟨some 3, .box true 34 (.tmp 1), none⟩, ⟨some 4, .mv (.const (.bool false)), none⟩]
def Xn62_3 : C := regL [4] (some [0, 1, 3, 0, 8, 24, 63, 127, 255, 511, 1023, 255, 2303, 6399, 16383, 32767, 65535]) [⟨some 5, .fa 0 (.tmp 3), none⟩, ⟨some 6, .ld 31 1 false (.tmp 5), none⟩, ⟨some 7, .len (.tmp 6), none⟩, ⟨some 8, .ld 25 5 true (.tmp 2), none⟩, ⟨some 9, .call 53 [.tmp 8], none⟩, ⟨some 10, .bin 3 .add (.tmp 9) (.const (.int .i64 1)), none⟩, ⟨some 11, .bin 3 .eql (.tmp 7) (.tmp 10), none⟩, ⟨some 12, .mv (.tmp 11), none⟩, ⟨some 13, .fa 1 (.tmp 3), some (12, true)⟩, ⟨some 14, .ld 32 1 false (.tmp 13), some (12, true)⟩, ⟨some 15, .len (.tmp 14), some (12, true)⟩, ⟨some 16, .ld 25 5 true (.tmp 2), some (12, true)⟩, ⟨some 17, .call 53 [.tmp 16], some (12, true)⟩, ⟨some 18, .bin 3 .add (.tmp 17) (.const (.int .i64 1)), some (12, true)⟩, ⟨some 19, .bin 3 .eql (.tmp 15) (.tmp 18), some (12, true)⟩, ⟨some 20, .pick 12 (.tmp 19) (.const (.bool false)), none⟩, ⟨some 4, .mv (.tmp 20), none⟩]
def Xn62_2 : C := .seq Xn62_3 .ret
def Xn62_0 : C := .seq Xn62_1 Xn62_2
theorem Xt62 : Text Try.prog 62 Xn62_0 21 2 [.t 4] := ⟨⟨Try.f62, [2, 3], Try.func62, by kernel_rfl, by kernel_rfl, by kernel_rfl, by kernel_rfl⟩⟩
/-! 63 __gooseneck_claim_course__damages: parameters 3, slots 54 -/
def Xn63_1 : C := regL [0, 4, 5, 6] none [⟨some 4, .box true 27 (.tmp 1), none⟩, ⟨some 5, .box true 34 (.tmp 2), none⟩, ⟨some 6, .alc 4 (.bool false), none⟩]
def Xn63_4 : C := regL [4, 5, 6, 10] none [⟨some 8, .mv (.tmp 0), none⟩, ⟨some 9, .ld 27 7 true (.tmp 4), none⟩, ⟨some 10, .call 77 [.tmp 8, .tmp 9], none⟩]
def Xn63_7 : C := regL [4, 5, 6, 7] none [⟨some 7, .mv (.tmp 11), none⟩]
def Xn63_10 : C := regL [6, 53] (some [0, 1, 0, 7, 15, 0, 32, 127, 255, 511, 1023, 511, 2559, 8191, 16383, 511, 33279, 131071, 262143, 524287, 1048575, 2097151, 1048575, 1048575, 9437183, 8388607, 67108863, 134217727, 1048575, 269484031, 1048575, 1074790399, 1048575, 4296015871, 4027580415, 34092351487, 68452089855, 137438953471, 1048575, 274878955519, 1099511627775, 2199023255551]) [⟨some 12, .fa 0 (.tmp 5), none⟩, ⟨some 13, .ld 31 1 false (.tmp 12), none⟩, ⟨some 14, .mv (.tmp 7), none⟩, ⟨some 15, .ia 1 (.tmp 13) (.tmp 14), none⟩, ⟨some 16, .ld 2 1 false (.tmp 15), none⟩, ⟨some 17, .fa 1 (.tmp 4), none⟩, ⟨some 18, .ld 2 1 false (.tmp 17), none⟩, ⟨some 19, .bin 2 .leq (.tmp 16) (.tmp 18), none⟩, ⟨some 20, .mv (.tmp 19), none⟩, ⟨some 21, .fa 0 (.tmp 5), some (20, true)⟩, ⟨some 22, .ld 31 1 false (.tmp 21), some (20, true)⟩, ⟨some 23, .mv (.tmp 7), some (20, true)⟩, ⟨some 24, .bin 3 .add (.tmp 23) (.const (.int .i64 1)), some (20, true)⟩, ⟨some 25, .ia 1 (.tmp 22) (.tmp 24), some (20, true)⟩, ⟨some 26, .ld 2 1 false (.tmp 25), some (20, true)⟩, ⟨some 27, .fa 0 (.tmp 4), some (20, true)⟩, ⟨some 28, .ld 2 1 false (.tmp 27), some (20, true)⟩, ⟨some 29, .bin 2 .geq (.tmp 26) (.tmp 28), some (20, true)⟩, ⟨some 30, .pick 20 (.tmp 29) (.const (.bool false)), none⟩, ⟨some 31, .mv (.tmp 30), none⟩, ⟨some 32, .fa 1 (.tmp 5), some (31, true)⟩, ⟨some 33, .ld 32 1 false (.tmp 32), some (31, true)⟩, ⟨some 34, .mv (.tmp 7), some (31, true)⟩, ⟨some 35, .fa 2 (.tmp 4), some (31, true)⟩, ⟨some 36, .ld 3 1 false (.tmp 35), some (31, true)⟩, ⟨some 37, .ia 4 (.tmp 33) (.tmp 34), some (31, true)⟩, ⟨some 38, .iaa 4 1 (.tmp 37) (.tmp 36), some (31, true)⟩, ⟨some 39, .ld 2 1 false (.tmp 38), some (31, true)⟩, ⟨some 40, .fa 1 (.tmp 5), some (31, true)⟩, ⟨some 41, .ld 32 1 false (.tmp 40), some (31, true)⟩, ⟨some 42, .mv (.tmp 7), some (31, true)⟩, ⟨some 43, .bin 3 .add (.tmp 42) (.const (.int .i64 1)), some (31, true)⟩, ⟨some 44, .fa 2 (.tmp 4), some (31, true)⟩, ⟨some 45, .ld 3 1 false (.tmp 44), some (31, true)⟩, ⟨some 46, .ia 4 (.tmp 41) (.tmp 43), some (31, true)⟩, ⟨some 47, .iaa 4 1 (.tmp 46) (.tmp 45), some (31, true)⟩, ⟨some 48, .ld 2 1 false (.tmp 47), some (31, true)⟩, ⟨some 49, .mx [.tmp 39, .tmp 48], some (31, true)⟩, ⟨some 50, .fa 3 (.tmp 4), some (31, true)⟩, ⟨some 51, .ld 2 1 false (.tmp 50), some (31, true)⟩, ⟨some 52, .bin 2 .gtr (.tmp 49) (.tmp 51), some (31, true)⟩, ⟨some 53, .pick 31 (.tmp 52) (.const (.bool false)), none⟩]
def Xn63_13 : C := regL [] none [⟨none, .st 4 1 (.tmp 6) (.const (.bool true)), none⟩]
def Xn63_12 : C := .seq Xn63_13 .ret
def Xn63_11 : C := .cond (.tmp 53) Xn63_12 .skip
def Xn63_9 : C := .seq Xn63_10 Xn63_11
def Xn63_8 : C := .block 1 Xn63_9
def Xn63_6 : C := .rfn (.tmp 10) [11] Xn63_7 Xn63_8
def Xn63_5 : C := .block 0 Xn63_6
def Xn63_3 : C := .seq Xn63_4 Xn63_5
def Xn63_17 : C := regL [6] none [⟨none, .st 4 1 (.tmp 6) (.const (.bool false)), none⟩]
def Xn63_16 : C := .seq Xn63_17 .ret
def Xn63_2 : C := seqL [6] Xn63_3 Xn63_16
def Xn63_0 : C := .seq Xn63_1 Xn63_2
theorem Xt63 : Text Try.prog 63 Xn63_0 54 3 [.c 6 1 false] := ⟨⟨Try.f63, [4, 5], Try.func63, by kernel_rfl, by kernel_rfl, by kernel_rfl, by kernel_rfl⟩⟩
/-! 64 gooseneck_gooseneckref11_damages: parameters 3, slots 62 -/
def Xn64_1 : C := regL [3, 4, 5] none [⟨some 3, .box true 25 (.tmp 0), none⟩, ⟨some 4, .box true 27 (.tmp 1), none⟩, ⟨some 5, .box true 34 (.tmp 2), none⟩, ⟨some 6, .mv (.const (.bool false)), none⟩]
def Xn64_4 : C := regL [3, 4, 5, 7] none [⟨some 7, .mv (.const (.int .i64 0)), none⟩]
def Xn64_9 : C := regL [3, 4, 5, 7, 11] none [⟨some 8, .mv (.tmp 7), none⟩, ⟨some 9, .ld 25 5 true (.tmp 3), none⟩, ⟨some 10, .call 53 [.tmp 9], none⟩, ⟨some 11, .bin 3 .lss (.tmp 8) (.tmp 10), none⟩]
def Xn64_10 : C := .cond (.tmp 11) .skip (.exit 0)
def Xn64_8 : C := .seq Xn64_9 Xn64_10
def Xn64_16 : C := regL [3, 4, 5, 7, 61] (some [0, 0, 0, 7, 15, 31, 63, 31, 255, 511, 31, 1055, 4095, 8191, 16383, 32767, 65535, 32767, 163839, 524287, 1048575, 32767, 2129919, 8388607, 16777215, 33554431, 67108863, 134217727, 67108863, 67108863, 603979775, 536870911, 4294967295, 8589934591, 67108863, 17246978047, 67108863, 68786585599, 67108863, 274945015807, 257765146623, 2181910495231, 4380933750783, 8796093022207, 67108863, 17592253153279, 70368744177663, 140737488355327]) [⟨some 14, .ld 25 5 true (.tmp 3), none⟩, ⟨some 15, .ld 27 7 true (.tmp 4), none⟩, ⟨some 16, .mv (.tmp 7), none⟩, ⟨some 17, .call 80 [.tmp 14, .tmp 15, .tmp 16], none⟩, ⟨some 18, .mv (.tmp 17), none⟩, ⟨some 19, .fa 0 (.tmp 5), some (18, true)⟩, ⟨some 20, .ld 31 1 false (.tmp 19), some (18, true)⟩, ⟨some 21, .mv (.tmp 7), some (18, true)⟩, ⟨some 22, .ia 1 (.tmp 20) (.tmp 21), some (18, true)⟩, ⟨some 23, .ld 2 1 false (.tmp 22), some (18, true)⟩, ⟨some 24, .fa 1 (.tmp 4), some (18, true)⟩, ⟨some 25, .ld 2 1 false (.tmp 24), some (18, true)⟩, ⟨some 26, .bin 2 .leq (.tmp 23) (.tmp 25), some (18, true)⟩, ⟨some 27, .pick 18 (.tmp 26) (.const (.bool false)), none⟩, ⟨some 28, .mv (.tmp 27), none⟩, ⟨some 29, .fa 0 (.tmp 5), some (28, true)⟩, ⟨some 30, .ld 31 1 false (.tmp 29), some (28, true)⟩, ⟨some 31, .mv (.tmp 7), some (28, true)⟩, ⟨some 32, .bin 3 .add (.tmp 31) (.const (.int .i64 1)), some (28, true)⟩, ⟨some 33, .ia 1 (.tmp 30) (.tmp 32), some (28, true)⟩, ⟨some 34, .ld 2 1 false (.tmp 33), some (28, true)⟩, ⟨some 35, .fa 0 (.tmp 4), some (28, true)⟩, ⟨some 36, .ld 2 1 false (.tmp 35), some (28, true)⟩, ⟨some 37, .bin 2 .geq (.tmp 34) (.tmp 36), some (28, true)⟩, ⟨some 38, .pick 28 (.tmp 37) (.const (.bool false)), none⟩, ⟨some 39, .mv (.tmp 38), none⟩, ⟨some 40, .fa 1 (.tmp 5), some (39, true)⟩, ⟨some 41, .ld 32 1 false (.tmp 40), some (39, true)⟩, ⟨some 42, .mv (.tmp 7), some (39, true)⟩, ⟨some 43, .fa 2 (.tmp 4), some (39, true)⟩, ⟨some 44, .ld 3 1 false (.tmp 43), some (39, true)⟩, ⟨some 45, .ia 4 (.tmp 41) (.tmp 42), some (39, true)⟩, ⟨some 46, .iaa 4 1 (.tmp 45) (.tmp 44), some (39, true)⟩, ⟨some 47, .ld 2 1 false (.tmp 46), some (39, true)⟩, ⟨some 48, .fa 1 (.tmp 5), some (39, true)⟩, ⟨some 49, .ld 32 1 false (.tmp 48), some (39, true)⟩, ⟨some 50, .mv (.tmp 7), some (39, true)⟩, ⟨some 51, .bin 3 .add (.tmp 50) (.const (.int .i64 1)), some (39, true)⟩, ⟨some 52, .fa 2 (.tmp 4), some (39, true)⟩, ⟨some 53, .ld 3 1 false (.tmp 52), some (39, true)⟩, ⟨some 54, .ia 4 (.tmp 49) (.tmp 51), some (39, true)⟩, ⟨some 55, .iaa 4 1 (.tmp 54) (.tmp 53), some (39, true)⟩, ⟨some 56, .ld 2 1 false (.tmp 55), some (39, true)⟩, ⟨some 57, .mx [.tmp 47, .tmp 56], some (39, true)⟩, ⟨some 58, .fa 3 (.tmp 4), some (39, true)⟩, ⟨some 59, .ld 2 1 false (.tmp 58), some (39, true)⟩, ⟨some 60, .bin 2 .gtr (.tmp 57) (.tmp 59), some (39, true)⟩, ⟨some 61, .pick 39 (.tmp 60) (.const (.bool false)), none⟩]
def Xn64_19 : C := regL [6] none [⟨some 6, .mv (.const (.bool true)), none⟩]
def Xn64_18 : C := .seq Xn64_19 .ret
def Xn64_17 : C := .cond (.tmp 61) Xn64_18 .skip
def Xn64_15 : C := .seq Xn64_16 Xn64_17
def Xn64_14 : C := .block 1 Xn64_15
def Xn64_22 : C := regL [3, 4, 5, 7] none [⟨some 12, .mv (.tmp 7), none⟩, ⟨some 13, .bin 3 .add (.tmp 12) (.const (.int .i64 1)), none⟩, ⟨some 7, .mv (.tmp 13), none⟩]
def Xn64_13 : C := seqL [3, 4, 5, 7] Xn64_14 Xn64_22
def Xn64_7 : C := seqL [3, 4, 5, 7] Xn64_8 Xn64_13
/- carried: [7] -/
def Xn64_6 : C := loopL [3, 4, 5, 7] Xn64_7
def Xn64_5 : C := .block 0 Xn64_6
def Xn64_3 : C := .seq Xn64_4 Xn64_5
def Xn64_24 : C := regL [6] none [⟨some 6, .mv (.const (.bool false)), none⟩]
def Xn64_23 : C := .seq Xn64_24 .ret
def Xn64_2 : C := seqL [] Xn64_3 Xn64_23
def Xn64_0 : C := .seq Xn64_1 Xn64_2
theorem Xt64 : Text Try.prog 64 Xn64_0 62 3 [.t 6] := ⟨⟨Try.f64, [3, 4, 5], Try.func64, by kernel_rfl, by kernel_rfl, by kernel_rfl, by kernel_rfl⟩⟩
/-! 65 __gooseneck_claim_course__can: parameters 2, slots 61 -/
def Xn65_1 : C := regL [2, 3, 4] none [⟨some 2, .box true 79 (.tmp 0), none⟩, ⟨some 3, .box true 27 (.tmp 1), none⟩, ⟨some 4, .alc 3 (.int .i64 0), none⟩]
def Xn65_3 : C := regL [2, 3, 4, 5] (some [0, 0, 2, 1, 9, 31, 63, 0, 255]) [⟨some 7, .ld 79 1 false (.tmp 2), none⟩, ⟨some 8, .fa 2 (.tmp 3), none⟩, ⟨some 9, .ld 3 1 false (.tmp 8), none⟩, ⟨some 10, .nilc (.tmp 7), none⟩, ⟨some 11, .fa 7 (.tmp 10), none⟩, ⟨some 12, .iaa 4 1 (.tmp 11) (.tmp 9), none⟩, ⟨some 13, .ld 92 1 false (.tmp 12), none⟩, ⟨some 5, .alc 92 (.slice none 0 0), none⟩, ⟨none, .st 92 1 (.tmp 5) (.tmp 13), none⟩]
def Xn65_6 : C := regL [2, 3, 4, 5, 16] none [⟨some 14, .ld 79 1 false (.tmp 2), none⟩, ⟨some 15, .ld 27 7 true (.tmp 3), none⟩, ⟨some 16, .call 77 [.tmp 14, .tmp 15], none⟩]
def Xn65_9 : C := regL [2, 3, 4, 5, 6] none [⟨some 6, .mv (.tmp 17), none⟩]
def Xn65_12 : C := regL [4, 6, 59] (some [0, 0, 3, 7, 15, 0, 0, 64, 224, 480, 992, 2047, 0, 4096, 16383, 32767, 65535, 131071, 262143, 524287, 65535, 2097151, 4194303, 8388607, 65535, 16842751, 67108863, 134217727, 268435455, 536870911, 1073741823, 2147483647, 4294967295, 536870911, 9126805503, 34359738367, 68719476735, 137438953471, 536870911, 275414777855, 1099511627775, 2199023255551]) [⟨some 18, .ld 92 1 false (.tmp 5), none⟩, ⟨some 19, .mv (.tmp 6), none⟩, ⟨some 20, .ia 2 (.tmp 18) (.tmp 19), none⟩, ⟨some 21, .fa 1 (.tmp 20), none⟩, ⟨some 22, .ld 2 1 false (.tmp 21), none⟩, ⟨some 23, .ld 92 1 false (.tmp 5), none⟩, ⟨some 24, .mv (.tmp 6), none⟩, ⟨some 25, .bin 3 .add (.tmp 24) (.const (.int .i64 1)), none⟩, ⟨some 26, .ia 2 (.tmp 23) (.tmp 25), none⟩, ⟨some 27, .fa 1 (.tmp 26), none⟩, ⟨some 28, .ld 2 1 false (.tmp 27), none⟩, ⟨some 29, .mx [.tmp 22, .tmp 28], none⟩, ⟨some 30, .fa 3 (.tmp 3), none⟩, ⟨some 31, .ld 2 1 false (.tmp 30), none⟩, ⟨some 32, .bin 2 .gtr (.tmp 29) (.tmp 31), none⟩, ⟨some 33, .mv (.tmp 32), none⟩, ⟨some 34, .ld 79 1 false (.tmp 2), some (33, true)⟩, ⟨some 35, .nilc (.tmp 34), some (33, true)⟩, ⟨some 36, .fa 6 (.tmp 35), some (33, true)⟩, ⟨some 37, .ld 92 1 false (.tmp 36), some (33, true)⟩, ⟨some 38, .mv (.tmp 6), some (33, true)⟩, ⟨some 39, .ia 2 (.tmp 37) (.tmp 38), some (33, true)⟩, ⟨some 40, .fa 0 (.tmp 39), some (33, true)⟩, ⟨some 41, .ld 2 1 false (.tmp 40), some (33, true)⟩, ⟨some 42, .fa 1 (.tmp 3), some (33, true)⟩, ⟨some 43, .ld 2 1 false (.tmp 42), some (33, true)⟩, ⟨some 44, .bin 2 .leq (.tmp 41) (.tmp 43), some (33, true)⟩, ⟨some 45, .pick 33 (.tmp 44) (.const (.bool false)), none⟩, ⟨some 46, .mv (.tmp 45), none⟩, ⟨some 47, .ld 79 1 false (.tmp 2), some (46, true)⟩, ⟨some 48, .nilc (.tmp 47), some (46, true)⟩, ⟨some 49, .fa 6 (.tmp 48), some (46, true)⟩, ⟨some 50, .ld 92 1 false (.tmp 49), some (46, true)⟩, ⟨some 51, .mv (.tmp 6), some (46, true)⟩, ⟨some 52, .bin 3 .add (.tmp 51) (.const (.int .i64 1)), some (46, true)⟩, ⟨some 53, .ia 2 (.tmp 50) (.tmp 52), some (46, true)⟩, ⟨some 54, .fa 1 (.tmp 53), some (46, true)⟩, ⟨some 55, .ld 2 1 false (.tmp 54), some (46, true)⟩, ⟨some 56, .fa 0 (.tmp 3), some (46, true)⟩, ⟨some 57, .ld 2 1 false (.tmp 56), some (46, true)⟩, ⟨some 58, .bin 2 .geq (.tmp 55) (.tmp 57), some (46, true)⟩, ⟨some 59, .pick 46 (.tmp 58) (.const (.bool false)), none⟩]
def Xn65_15 : C := regL [] none [⟨some 60, .mv (.tmp 6), none⟩, ⟨none, .st 3 1 (.tmp 4) (.tmp 60), none⟩]
def Xn65_14 : C := .seq Xn65_15 .ret
def Xn65_13 : C := .cond (.tmp 59) Xn65_14 .skip
def Xn65_11 : C := .seq Xn65_12 Xn65_13
def Xn65_10 : C := .block 1 Xn65_11
def Xn65_8 : C := .rfn (.tmp 16) [17] Xn65_9 Xn65_10
def Xn65_7 : C := .block 0 Xn65_8
def Xn65_5 : C := .seq Xn65_6 Xn65_7
def Xn65_19 : C := regL [4] none [⟨none, .st 3 1 (.tmp 4) (.const (.int .i64 (-1))), none⟩]
def Xn65_18 : C := .seq Xn65_19 .ret
def Xn65_4 : C := seqL [4] Xn65_5 Xn65_18
def Xn65_2 : C := .seq Xn65_3 Xn65_4
def Xn65_0 : C := .seq Xn65_1 Xn65_2
theorem Xt65 : Text Try.prog 65 Xn65_0 61 2 [.c 4 1 false] := ⟨⟨Try.f65, [2, 3], Try.func65, by kernel_rfl, by kernel_rfl, by kernel_rfl, by kernel_rfl⟩⟩
/-! 66 __gooseneck_claim_course__trace: parameters 3, slots 64 -/
def Xn66_1 : C := regL [0, 1, 2, 6] none [⟨some 6, .alc 34 (.agg #[.slice none 0 0, .slice none 0 0]), none⟩]
def Xn66_3 : C := regL [0, 1, 2, 6, 7] none [⟨some 7, .alc 34 (.agg #[.slice none 0 0, .slice none 0 0]), none⟩]
def Xn66_6 : C := regL [0, 1, 2, 6, 7, 15, 16] none [⟨some 11, .mv (.tmp 0), none⟩, ⟨some 12, .nilc (.tmp 11), none⟩, ⟨some 13, .fa 6 (.tmp 12), none⟩, ⟨some 14, .ld 92 1 false (.tmp 13), none⟩, ⟨some 15, .len (.tmp 14), none⟩, ⟨some 16, .mv (.const (.int .i64 0)), none⟩]
def Xn66_10 : C := regL [0, 1, 2, 6, 7, 15, 16, 17] none [⟨some 17, .bin 3 .lss (.tmp 16) (.tmp 15), none⟩]
def Xn66_12 : C := .cond (.tmp 17) .skip (.exit 0)
def Xn66_18 : C := regL [0, 1, 2, 6, 7, 8, 15, 16] none [⟨some 18, .mv (.tmp 16), none⟩, ⟨some 8, .mv (.tmp 18), none⟩]
def Xn66_20 : C := regL [0, 1, 2, 6, 7, 8, 9, 15, 16] none [⟨some 9, .alc 23 (.agg #[.int .i64 0, .int .i64 0, .int .i64 0, .int .i64 0]), none⟩]
def Xn66_23 : C := regL [0, 1, 2, 6, 7, 8, 9, 15, 16, 19] none [⟨some 19, .mv (.const (.int .i64 0)), none⟩]
def Xn66_27 : C := regL [0, 1, 2, 6, 7, 8, 9, 15, 16, 19, 20] none [⟨some 20, .bin 3 .lss (.tmp 19) (.const (.int .i64 4)), none⟩]
def Xn66_29 : C := .cond (.tmp 20) .skip (.exit 2)
def Xn66_35 : C := regL [0, 1, 2, 6, 7, 8, 9, 10, 15, 16, 19] none [⟨some 21, .mv (.tmp 19), none⟩, ⟨some 10, .mv (.tmp 21), none⟩]
def Xn66_37 : C := regL [0, 1, 2, 6, 7, 8, 9, 10, 15, 16, 19] none [⟨some 22, .mv (.tmp 10), none⟩, ⟨some 23, .mv (.tmp 0), none⟩, ⟨some 24, .mv (.tmp 10), none⟩, ⟨some 25, .nilc (.tmp 23), none⟩, ⟨some 26, .fa 7 (.tmp 25), none⟩, ⟨some 27, .iaa 4 1 (.tmp 26) (.tmp 24), none⟩, ⟨some 28, .ld 92 1 false (.tmp 27), none⟩, ⟨some 29, .mv (.tmp 8), none⟩, ⟨some 30, .ia 2 (.tmp 28) (.tmp 29), none⟩, ⟨some 31, .fa 0 (.tmp 30), none⟩, ⟨some 32, .ld 2 1 false (.tmp 31), none⟩, ⟨some 33, .iaa 4 1 (.tmp 9) (.tmp 22), none⟩, ⟨none, .st 2 1 (.tmp 33) (.tmp 32), none⟩]
def Xn66_39 : C := regL [0, 1, 2, 6, 7, 8, 9, 10, 15, 16, 19, 34] none [⟨some 34, .mv (.tmp 2), none⟩]
def Xn66_41 : C := regL [0, 1, 2, 6, 7, 8, 9, 15, 16, 19] none [⟨some 35, .mv (.tmp 10), none⟩, ⟨some 36, .mv (.tmp 0), none⟩, ⟨some 37, .mv (.tmp 10), none⟩, ⟨some 38, .nilc (.tmp 36), none⟩, ⟨some 39, .fa 7 (.tmp 38), none⟩, ⟨some 40, .iaa 4 1 (.tmp 39) (.tmp 37), none⟩, ⟨some 41, .ld 92 1 false (.tmp 40), none⟩, ⟨some 42, .mv (.tmp 8), none⟩, ⟨some 43, .ia 2 (.tmp 41) (.tmp 42), none⟩, ⟨some 44, .fa 1 (.tmp 43), none⟩, ⟨some 45, .ld 2 1 false (.tmp 44), none⟩, ⟨some 46, .iaa 4 1 (.tmp 9) (.tmp 35), none⟩, ⟨none, .st 2 1 (.tmp 46) (.tmp 45), none⟩]
def Xn66_40 : C := .cond (.tmp 34) Xn66_41 .skip
def Xn66_38 : C := .seq Xn66_39 Xn66_40
def Xn66_36 : C := .seq Xn66_37 Xn66_38
def Xn66_34 : C := .seq Xn66_35 Xn66_36
def Xn66_33 : C := .block 3 Xn66_34
def Xn66_43 : C := regL [0, 1, 2, 6, 7, 8, 9, 15, 16, 19] none [⟨some 47, .bin 3 .add (.tmp 19) (.const (.int .i64 1)), none⟩, ⟨some 19, .mv (.tmp 47), none⟩]
def Xn66_32 : C := seqL [0, 1, 2, 6, 7, 8, 9, 15, 16, 19] Xn66_33 Xn66_43
def Xn66_28 : C := seqL [0, 1, 2, 6, 7, 8, 9, 15, 16, 19] Xn66_29 Xn66_32
def Xn66_26 : C := .seq Xn66_27 Xn66_28
/- carried: [19] -/
def Xn66_25 : C := loopL [0, 1, 2, 6, 7, 8, 9, 15, 16, 19] Xn66_26
def Xn66_24 : C := .block 2 Xn66_25
def Xn66_22 : C := .seq Xn66_23 Xn66_24
def Xn66_44 : C := regL [0, 1, 2, 6, 7, 15, 16] (some [0, 1, 0, 0, 12, 28, 63, 0, 128, 0, 512, 2047, 511, 8191, 16383, 32767]) [⟨some 48, .fa 0 (.tmp 7), none⟩, ⟨some 49, .ld 31 1 false (.tmp 48), none⟩, ⟨some 50, .mv (.tmp 1), none⟩, ⟨some 51, .mv (.tmp 8), none⟩, ⟨some 52, .callv (.tmp 50) [.tmp 51], none⟩, ⟨some 53, .bls 2 1 1 (.int .i64 0) [(0, 1, .tmp 52)], none⟩, ⟨some 54, .app 2 1 8 (.tmp 49) (.tmp 53), none⟩, ⟨some 55, .fa 1 (.tmp 7), none⟩, ⟨some 56, .ld 32 1 false (.tmp 55), none⟩, ⟨some 57, .ld 23 4 true (.tmp 9), none⟩, ⟨some 58, .bls 23 4 1 (.agg #[.int .i64 0, .int .i64 0, .int .i64 0, .int .i64 0]) [(0, 4, .tmp 57)], none⟩, ⟨some 59, .app 23 4 32 (.tmp 56) (.tmp 58), none⟩, ⟨some 60, .fa 0 (.tmp 7), none⟩, ⟨none, .st 31 1 (.tmp 60) (.tmp 54), none⟩, ⟨some 61, .fa 1 (.tmp 7), none⟩, ⟨none, .st 32 1 (.tmp 61) (.tmp 59), none⟩]
def Xn66_21 : C := seqL [0, 1, 2, 6, 7, 8, 9, 15, 16] Xn66_22 Xn66_44
def Xn66_19 : C := .seq Xn66_20 Xn66_21
def Xn66_17 : C := .seq Xn66_18 Xn66_19
def Xn66_16 : C := .block 1 Xn66_17
def Xn66_45 : C := regL [0, 1, 2, 6, 7, 15, 16] none [⟨some 62, .bin 3 .add (.tmp 16) (.const (.int .i64 1)), none⟩, ⟨some 16, .mv (.tmp 62), none⟩]
def Xn66_15 : C := seqL [0, 1, 2, 6, 7, 15, 16] Xn66_16 Xn66_45
def Xn66_11 : C := seqL [0, 1, 2, 6, 7, 15, 16] Xn66_12 Xn66_15
def Xn66_9 : C := .seq Xn66_10 Xn66_11
/- carried: [16] -/
def Xn66_8 : C := loopL [0, 1, 2, 6, 7, 15, 16] Xn66_9
def Xn66_7 : C := .block 0 Xn66_8
def Xn66_5 : C := .seq Xn66_6 Xn66_7
def Xn66_47 : C := regL [6] none [⟨some 63, .ld 34 2 true (.tmp 7), none⟩, ⟨none, .st 34 2 (.tmp 6) (.tmp 63), none⟩]
def Xn66_46 : C := .seq Xn66_47 .ret
def Xn66_4 : C := seqL [6, 7] Xn66_5 Xn66_46
def Xn66_2 : C := .seq Xn66_3 Xn66_4
def Xn66_0 : C := .seq Xn66_1 Xn66_2
theorem Xt66 : Text Try.prog 66 Xn66_0 64 3 [.c 6 2 true] := ⟨⟨Try.f66, [], Try.func66, by kernel_rfl, by kernel_rfl, by kernel_rfl, by kernel_rfl⟩⟩
/-! 67 _gooseneck_claim_leap__at: parameters 2, slots 30 -/
def Xn67_1 : C := regL [1, 2] none [⟨some 2, .box true 109 (.tmp 0), none⟩, ⟨some 4, .mv (.const (.int .i64 0)), none⟩]
def Xn67_4 : C := regL [1, 2, 8] none [⟨some 5, .mv (.tmp 1), none⟩, ⟨some 6, .fa 1 (.tmp 2), none⟩, ⟨some 7, .ld 3 1 false (.tmp 6), none⟩, ⟨some 8, .bin 3 .lss (.tmp 5) (.tmp 7), none⟩]
def Xn67_7 : C := regL [4] none [⟨some 9, .fa 0 (.tmp 2), none⟩, ⟨some 10, .ld 79 1 false (.tmp 9), none⟩, ⟨some 11, .nilc (.tmp 10), none⟩, ⟨some 12, .fa 6 (.tmp 11), none⟩, ⟨some 13, .ld 92 1 false (.tmp 12), none⟩, ⟨some 14, .mv (.tmp 1), none⟩, ⟨some 15, .ia 2 (.tmp 13) (.tmp 14), none⟩, ⟨some 16, .fa 0 (.tmp 15), none⟩, ⟨some 17, .ld 2 1 false (.tmp 16), none⟩, ⟨some 4, .mv (.tmp 17), none⟩]
def Xn67_6 : C := .seq Xn67_7 .ret
def Xn67_5 : C := .cond (.tmp 8) Xn67_6 .skip
def Xn67_3 : C := .seq Xn67_4 Xn67_5
def Xn67_11 : C := regL [4] (some [0, 1, 3, 7, 15, 0, 63, 127, 255, 0, 512, 2047, 4095]) [⟨some 18, .fa 0 (.tmp 2), none⟩, ⟨some 19, .ld 79 1 false (.tmp 18), none⟩, ⟨some 20, .nilc (.tmp 19), none⟩, ⟨some 21, .fa 6 (.tmp 20), none⟩, ⟨some 22, .ld 92 1 false (.tmp 21), none⟩, ⟨some 23, .mv (.tmp 1), none⟩, ⟨some 24, .ia 2 (.tmp 22) (.tmp 23), none⟩, ⟨some 25, .fa 0 (.tmp 24), none⟩, ⟨some 26, .ld 2 1 false (.tmp 25), none⟩, ⟨some 27, .fa 2 (.tmp 2), none⟩, ⟨some 28, .ld 2 1 false (.tmp 27), none⟩, ⟨some 29, .mx [.tmp 26, .tmp 28], none⟩, ⟨some 4, .mv (.tmp 29), none⟩]
def Xn67_10 : C := .seq Xn67_11 .ret
def Xn67_2 : C := seqL [1, 2] Xn67_3 Xn67_10
def Xn67_0 : C := .seq Xn67_1 Xn67_2
theorem Xt67 : Text Try.prog 67 Xn67_0 30 2 [.t 4] := ⟨⟨Try.f67, [2], Try.func67, by kernel_rfl, by kernel_rfl, by kernel_rfl, by kernel_rfl⟩⟩
/-! 68 slices_ContainsFunc___int64_int64_: parameters 2, slots 9 -/
def Xn68_1 : C := regL [0, 1] none [⟨some 4, .mv (.const (.bool false)), none⟩]
def Xn68_3 : C := regL [4] none [⟨some 5, .mv (.tmp 0), none⟩, ⟨some 6, .mv (.tmp 1), none⟩, ⟨some 7, .call 81 [.tmp 5, .tmp 6], none⟩, ⟨some 8, .bin 3 .geq (.tmp 7) (.const (.int .i64 0)), none⟩, ⟨some 4, .mv (.tmp 8), none⟩]
def Xn68_2 : C := .seq Xn68_3 .ret
def Xn68_0 : C := .seq Xn68_1 Xn68_2
theorem Xt68 : Text Try.prog 68 Xn68_0 9 2 [.t 4] := ⟨⟨Try.f68, [], Try.func68, by kernel_rfl, by kernel_rfl, by kernel_rfl, by kernel_rfl⟩⟩
/-! 69 gooseneck_claim_open_1: parameters 1, slots 6 -/
def Xn69_1 : C := regL [0] none [⟨some 2, .mv (.const (.bool false)), none⟩]
def Xn69_3 : C := regL [2] none [⟨some 3, .mv (.tmp 0), none⟩, ⟨some 4, .call 49 [.tmp 3, .const (.int .i64 0), .const (.int .i64 1048576)], none⟩, ⟨some 5, .un .not (.tmp 4), none⟩, ⟨some 2, .mv (.tmp 5), none⟩]
def Xn69_2 : C := .seq Xn69_3 .ret
def Xn69_0 : C := .seq Xn69_1 Xn69_2
theorem Xt69 : Text Try.prog 69 Xn69_0 6 1 [.t 2] := ⟨⟨Try.f69, [], Try.func69, by kernel_rfl, by kernel_rfl, by kernel_rfl, by kernel_rfl⟩⟩
/-! 70 slices_ContainsFunc___gooseneck_api_Band_gooseneck_api_Band_: parameters 2, slots 9 -/
def Xn70_1 : C := regL [0, 1] none [⟨some 4, .mv (.const (.bool false)), none⟩]
def Xn70_3 : C := regL [4] none [⟨some 5, .mv (.tmp 0), none⟩, ⟨some 6, .mv (.tmp 1), none⟩, ⟨some 7, .call 82 [.tmp 5, .tmp 6], none⟩, ⟨some 8, .bin 3 .geq (.tmp 7) (.const (.int .i64 0)), none⟩, ⟨some 4, .mv (.tmp 8), none⟩]
def Xn70_2 : C := .seq Xn70_3 .ret
def Xn70_0 : C := .seq Xn70_1 Xn70_2
theorem Xt70 : Text Try.prog 70 Xn70_0 9 2 [.t 4] := ⟨⟨Try.f70, [], Try.func70, by kernel_rfl, by kernel_rfl, by kernel_rfl, by kernel_rfl⟩⟩
/-! 71 gooseneck_claim_open_2: parameters 1, slots 6 -/
def Xn71_1 : C := regL [1] none [⟨some 1, .box true 40 (.tmp 0), none⟩, ⟨some 2, .mv (.const (.bool false)), none⟩]
def Xn71_3 : C := regL [2] none [⟨some 3, .ld 40 2 true (.tmp 1), none⟩, ⟨some 4, .call 61 [.tmp 3], none⟩, ⟨some 5, .un .not (.tmp 4), none⟩, ⟨some 2, .mv (.tmp 5), none⟩]
def Xn71_2 : C := .seq Xn71_3 .ret
def Xn71_0 : C := .seq Xn71_1 Xn71_2
theorem Xt71 : Text Try.prog 71 Xn71_0 6 1 [.t 2] := ⟨⟨Try.f71, [1], Try.func71, by kernel_rfl, by kernel_rfl, by kernel_rfl, by kernel_rfl⟩⟩
/-! 72 __gooseneck_claim_course__fill: parameters 3, slots 40 -/
def Xn72_1 : C := regL [0, 1, 2] none [⟨some 6, .mv (.const (.slice none 0 0)), none⟩, ⟨some 7, .mv (.const (.bool false)), none⟩]
def Xn72_3 : C := regL [0, 1, 2, 8] none [⟨some 10, .mv (.tmp 1), none⟩, ⟨some 11, .mks 40 2 16 (.agg #[.int .i64 0, .int .i64 0]) (.tmp 10) (.tmp 10), none⟩, ⟨some 8, .mv (.tmp 11), none⟩]
def Xn72_6 : C := regL [0, 2, 8, 12, 13] none [⟨some 12, .mv (.tmp 1), none⟩, ⟨some 13, .mv (.const (.int .i64 0)), none⟩]
def Xn72_10 : C := regL [0, 2, 8, 12, 13, 14] none [⟨some 14, .bin 3 .lss (.tmp 13) (.tmp 12), none⟩]
def Xn72_12 : C := .cond (.tmp 14) .skip (.exit 0)
def Xn72_18 : C := regL [0, 2, 8, 9, 12, 13] none [⟨some 15, .mv (.tmp 13), none⟩, ⟨some 9, .mv (.tmp 15), none⟩]
def Xn72_20 : C := regL [0, 2, 8, 9, 12, 13] none [⟨some 16, .mv (.tmp 8), none⟩, ⟨some 17, .mv (.tmp 9), none⟩, ⟨some 18, .mv (.tmp 2), none⟩, ⟨some 19, .mv (.tmp 0), none⟩, ⟨some 20, .nilc (.tmp 19), none⟩, ⟨some 21, .fa 5 (.tmp 20), none⟩, ⟨some 22, .ld 2 1 false (.tmp 21), none⟩, ⟨some 23, .mv (.tmp 9), none⟩, ⟨some 24, .bin 2 .add (.tmp 22) (.tmp 23), none⟩, ⟨some 25, .callv (.tmp 18) [.tmp 24], none⟩, ⟨some 26, .ia 2 (.tmp 16) (.tmp 17), none⟩, ⟨none, .st 40 2 (.tmp 26) (.tmp 25), none⟩]
def Xn72_22 : C := regL [0, 2, 8, 12, 13, 37] (some [0, 0, 3, 7, 15, 0, 0, 96, 224, 480, 1023]) [⟨some 27, .mv (.tmp 8), none⟩, ⟨some 28, .mv (.tmp 9), none⟩, ⟨some 29, .ia 2 (.tmp 27) (.tmp 28), none⟩, ⟨some 30, .fa 0 (.tmp 29), none⟩, ⟨some 31, .ld 2 1 false (.tmp 30), none⟩, ⟨some 32, .mv (.tmp 8), none⟩, ⟨some 33, .mv (.tmp 9), none⟩, ⟨some 34, .ia 2 (.tmp 32) (.tmp 33), none⟩, ⟨some 35, .fa 1 (.tmp 34), none⟩, ⟨some 36, .ld 2 1 false (.tmp 35), none⟩, ⟨some 37, .bin 2 .gtr (.tmp 31) (.tmp 36), none⟩]
def Xn72_25 : C := regL [6, 7] none [⟨some 6, .mv (.const (.slice none 0 0)), none⟩, ⟨some 7, .mv (.const (.bool false)), none⟩]
def Xn72_24 : C := .seq Xn72_25 .ret
def Xn72_23 : C := .cond (.tmp 37) Xn72_24 .skip
def Xn72_21 : C := .seq Xn72_22 Xn72_23
def Xn72_19 : C := .seq Xn72_20 Xn72_21
def Xn72_17 : C := .seq Xn72_18 Xn72_19
def Xn72_16 : C := .block 1 Xn72_17
def Xn72_28 : C := regL [0, 2, 8, 12, 13] none [⟨some 38, .bin 3 .add (.tmp 13) (.const (.int .i64 1)), none⟩, ⟨some 13, .mv (.tmp 38), none⟩]
def Xn72_15 : C := seqL [0, 2, 8, 12, 13] Xn72_16 Xn72_28
def Xn72_11 : C := seqL [0, 2, 8, 12, 13] Xn72_12 Xn72_15
def Xn72_9 : C := .seq Xn72_10 Xn72_11
/- carried: [13] -/
def Xn72_8 : C := loopL [0, 2, 8, 12, 13] Xn72_9
def Xn72_7 : C := .block 0 Xn72_8
def Xn72_5 : C := .seq Xn72_6 Xn72_7
def Xn72_30 : C := regL [6, 7] none [⟨some 39, .mv (.tmp 8), none⟩, ⟨some 6, .mv (.tmp 39), none⟩, ⟨some 7, .mv (.const (.bool true)), none⟩]
def Xn72_29 : C := .seq Xn72_30 .ret
def Xn72_4 : C := seqL [8] Xn72_5 Xn72_29
def Xn72_2 : C := .seq Xn72_3 Xn72_4
def Xn72_0 : C := .seq Xn72_1 Xn72_2
theorem Xt72 : Text Try.prog 72 Xn72_0 40 3 [.t 6, .t 7] := ⟨⟨Try.f72, [], Try.func72, by kernel_rfl, by kernel_rfl, by kernel_rfl, by kernel_rfl⟩⟩
/-! 73 __gooseneck_claim_course__place: parameters 2, slots 43 -/
def Xn73_1 : C := regL [0, 1, 4] none [⟨some 4, .alc 40 (.agg #[.int .i64 0, .int .i64 0]), none⟩]
def Xn73_3 : C := regL [0, 1, 4, 5] none [⟨some 8, .bld (.agg #[.int .i64 0, .int .i64 0]) [(0, 1, .const (.int .i64 (-1073741824))), (1, 1, .const (.int .i64 1073741824))], none⟩, ⟨some 5, .alc 40 (.agg #[.int .i64 0, .int .i64 0]), none⟩, ⟨none, .st 40 2 (.tmp 5) (.tmp 8), none⟩]
def Xn73_6 : C := regL [1, 4, 5, 13, 14, 15] none [⟨some 9, .mv (.tmp 0), none⟩, ⟨some 10, .nilc (.tmp 9), none⟩, ⟨some 11, .fa 0 (.tmp 10), none⟩, ⟨some 12, .fa 0 (.tmp 11), none⟩, ⟨some 13, .ld 22 1 false (.tmp 12), none⟩, ⟨some 14, .len (.tmp 13), none⟩, ⟨some 15, .mv (.const (.int .i64 0)), none⟩]
def Xn73_10 : C := regL [1, 4, 5, 13, 14, 15, 16] none [⟨some 16, .bin 3 .lss (.tmp 15) (.tmp 14), none⟩]
def Xn73_12 : C := .cond (.tmp 16) .skip (.exit 0)
def Xn73_18 : C := regL [1, 4, 5, 7, 13, 14, 15] none [⟨some 17, .ia 11 (.tmp 13) (.tmp 15), none⟩, ⟨some 18, .ld 43 11 true (.tmp 17), none⟩, ⟨some 7, .alc 43 (.agg #[.int .i64 0, .int .i64 0, .int .i64 0, .int .i64 0, .int .i64 0, .int .i64 0, .int .i64 0, .int .i64 0, .int .i64 0, .int .i64 0, .int .i64 0]), none⟩, ⟨none, .st 43 11 (.tmp 7) (.tmp 18), none⟩]
def Xn73_21 : C := regL [1, 4, 5, 7, 13, 14, 15, 22] none [⟨some 19, .fa 0 (.tmp 7), none⟩, ⟨some 20, .ld 2 1 false (.tmp 19), none⟩, ⟨some 21, .mv (.tmp 1), none⟩, ⟨some 22, .bin 2 .leq (.tmp 20) (.tmp 21), none⟩]
def Xn73_23 : C := regL [1, 4, 5, 7, 13, 14, 15] none [⟨some 23, .ld 40 2 true (.tmp 5), none⟩, ⟨some 24, .fa 1 (.tmp 7), none⟩, ⟨some 25, .fa 0 (.tmp 24), none⟩, ⟨some 26, .ld 2 1 false (.tmp 25), none⟩, ⟨some 27, .bld (.agg #[.int .i64 0, .int .i64 0]) [(0, 1, .tmp 26), (1, 1, .const (.int .i64 1073741824))], none⟩, ⟨some 28, .bls 40 2 2 (.agg #[.int .i64 0, .int .i64 0]) [(0, 2, .tmp 23), (2, 2, .tmp 27)], none⟩, ⟨some 29, .call 83 [.tmp 28], none⟩, ⟨none, .st 40 2 (.tmp 5) (.tmp 29), none⟩]
def Xn73_22 : C := .cond (.tmp 22) Xn73_23 .skip
def Xn73_20 : C := .seq Xn73_21 Xn73_22
def Xn73_26 : C := regL [1, 4, 5, 7, 13, 14, 15, 33] none [⟨some 30, .fa 0 (.tmp 7), none⟩, ⟨some 31, .ld 2 1 false (.tmp 30), none⟩, ⟨some 32, .mv (.tmp 1), none⟩, ⟨some 33, .bin 2 .geq (.tmp 31) (.tmp 32), none⟩]
def Xn73_28 : C := regL [1, 4, 5, 13, 14, 15] none [⟨some 34, .ld 40 2 true (.tmp 5), none⟩, ⟨some 35, .fa 1 (.tmp 7), none⟩, ⟨some 36, .fa 1 (.tmp 35), none⟩, ⟨some 37, .ld 2 1 false (.tmp 36), none⟩, ⟨some 38, .bld (.agg #[.int .i64 0, .int .i64 0]) [(0, 1, .const (.int .i64 (-1073741824))), (1, 1, .tmp 37)], none⟩, ⟨some 39, .bls 40 2 2 (.agg #[.int .i64 0, .int .i64 0]) [(0, 2, .tmp 34), (2, 2, .tmp 38)], none⟩, ⟨some 40, .call 83 [.tmp 39], none⟩, ⟨none, .st 40 2 (.tmp 5) (.tmp 40), none⟩]
def Xn73_27 : C := .cond (.tmp 33) Xn73_28 .skip
def Xn73_25 : C := .seq Xn73_26 Xn73_27
def Xn73_19 : C := seqL [1, 4, 5, 7, 13, 14, 15] Xn73_20 Xn73_25
def Xn73_17 : C := .seq Xn73_18 Xn73_19
def Xn73_16 : C := .block 1 Xn73_17
def Xn73_30 : C := regL [1, 4, 5, 13, 14, 15] none [⟨some 41, .bin 3 .add (.tmp 15) (.const (.int .i64 1)), none⟩, ⟨some 15, .mv (.tmp 41), none⟩]
def Xn73_15 : C := seqL [1, 4, 5, 13, 14, 15] Xn73_16 Xn73_30
def Xn73_11 : C := seqL [1, 4, 5, 13, 14, 15] Xn73_12 Xn73_15
def Xn73_9 : C := .seq Xn73_10 Xn73_11
/- carried: [15] -/
def Xn73_8 : C := loopL [1, 4, 5, 13, 14, 15] Xn73_9
def Xn73_7 : C := .block 0 Xn73_8
def Xn73_5 : C := .seq Xn73_6 Xn73_7
def Xn73_32 : C := regL [4] none [⟨some 42, .ld 40 2 true (.tmp 5), none⟩, ⟨none, .st 40 2 (.tmp 4) (.tmp 42), none⟩]
def Xn73_31 : C := .seq Xn73_32 .ret
def Xn73_4 : C := seqL [4, 5] Xn73_5 Xn73_31
def Xn73_2 : C := .seq Xn73_3 Xn73_4
def Xn73_0 : C := .seq Xn73_1 Xn73_2
theorem Xt73 : Text Try.prog 73 Xn73_0 43 2 [.c 4 2 true] := ⟨⟨Try.f73, [], Try.func73, by kernel_rfl, by kernel_rfl, by kernel_rfl, by kernel_rfl⟩⟩
/-! 74 __gooseneck_claim_course__value: parameters 2, slots 6 -/
def Xn74_1 : C := regL [2, 3] none [⟨some 2, .box true 79 (.tmp 0), none⟩, ⟨some 3, .box true 3 (.tmp 1), none⟩, ⟨some 4, .mv (.const (.nilFunc)), none⟩]
def Xn74_3 : C := regL [4] none [⟨some 5, .mkf 84 [] [.tmp 2, .tmp 3], none⟩, ⟨some 4, .mv (.tmp 5), none⟩]
def Xn74_2 : C := .seq Xn74_3 .ret
def Xn74_0 : C := .seq Xn74_1 Xn74_2
theorem Xt74 : Text Try.prog 74 Xn74_0 6 2 [.t 4] := ⟨⟨Try.f74, [2, 3], Try.func74, by kernel_rfl, by kernel_rfl, by kernel_rfl, by kernel_rfl⟩⟩
/-! 75 slices_IndexFunc___gooseneck_api_Claim_gooseneck_api_Claim_: parameters 2, slots 19 -/
def Xn75_1 : C := regL [0, 1] none [⟨some 4, .mv (.const (.int .i64 0)), none⟩]
def Xn75_4 : C := regL [0, 1, 7, 8] none [⟨some 6, .mv (.tmp 0), none⟩, ⟨some 7, .len (.tmp 6), none⟩, ⟨some 8, .mv (.const (.int .i64 0)), none⟩]
def Xn75_8 : C := regL [0, 1, 7, 8, 9] none [⟨some 9, .bin 3 .lss (.tmp 8) (.tmp 7), none⟩]
def Xn75_10 : C := .cond (.tmp 9) .skip (.exit 0)
def Xn75_16 : C := regL [0, 1, 5, 7, 8] none [⟨some 10, .mv (.tmp 8), none⟩, ⟨some 5, .mv (.tmp 10), none⟩]
def Xn75_18 : C := regL [0, 1, 5, 7, 8, 16] none [⟨some 11, .mv (.tmp 1), none⟩, ⟨some 12, .mv (.tmp 0), none⟩, ⟨some 13, .mv (.tmp 5), none⟩, ⟨some 14, .ia 7 (.tmp 12) (.tmp 13), none⟩, ⟨some 15, .ld 27 7 true (.tmp 14), none⟩, ⟨some 16, .callv (.tmp 11) [.tmp 15], none⟩]
def Xn75_21 : C := regL [4] none [⟨some 17, .mv (.tmp 5), none⟩, ⟨some 4, .mv (.tmp 17), none⟩]
def Xn75_20 : C := .seq Xn75_21 .ret
def Xn75_19 : C := .cond (.tmp 16) Xn75_20 .skip
def Xn75_17 : C := .seq Xn75_18 Xn75_19
def Xn75_15 : C := .seq Xn75_16 Xn75_17
def Xn75_14 : C := .block 1 Xn75_15
def Xn75_24 : C := regL [0, 1, 7, 8] none [⟨some 18, .bin 3 .add (.tmp 8) (.const (.int .i64 1)), none⟩, ⟨some 8, .mv (.tmp 18), none⟩]
def Xn75_13 : C := seqL [0, 1, 7, 8] Xn75_14 Xn75_24
def Xn75_9 : C := seqL [0, 1, 7, 8] Xn75_10 Xn75_13
def Xn75_7 : C := .seq Xn75_8 Xn75_9
/- carried: [8] -/
def Xn75_6 : C := loopL [0, 1, 7, 8] Xn75_7
def Xn75_5 : C := .block 0 Xn75_6
def Xn75_3 : C := .seq Xn75_4 Xn75_5
def Xn75_26 : C := regL [4] none [⟨some 4, .mv (.const (.int .i64 (-1))), none⟩]
def Xn75_25 : C := .seq Xn75_26 .ret
def Xn75_2 : C := seqL [] Xn75_3 Xn75_25
def Xn75_0 : C := .seq Xn75_1 Xn75_2
theorem Xt75 : Text Try.prog 75 Xn75_0 19 2 [.t 4] := ⟨⟨Try.f75, [], Try.func75, by kernel_rfl, by kernel_rfl, by kernel_rfl, by kernel_rfl⟩⟩
/-! 76 gooseneck_gooseneckref11_can: parameters 2, slots 57 -/
def Xn76_1 : C := regL [2, 3] none [⟨some 2, .box true 25 (.tmp 0), none⟩, ⟨some 3, .box true 27 (.tmp 1), none⟩, ⟨some 4, .mv (.const (.int .i64 0)), none⟩]
def Xn76_4 : C := regL [2, 3, 5] none [⟨some 5, .mv (.const (.int .i64 0)), none⟩]
def Xn76_9 : C := regL [2, 3, 5, 10] none [⟨some 7, .mv (.tmp 5), none⟩, ⟨some 8, .ld 25 5 true (.tmp 2), none⟩, ⟨some 9, .call 53 [.tmp 8], none⟩, ⟨some 10, .bin 3 .lss (.tmp 7) (.tmp 9), none⟩]
def Xn76_10 : C := .cond (.tmp 10) .skip (.exit 0)
def Xn76_8 : C := .seq Xn76_9 Xn76_10
def Xn76_16 : C := regL [2, 3, 5, 6] (some [0, 0, 0, 4, 15, 31, 0, 0, 128, 0, 512, 2015, 4063, 8191, 16383]) [⟨some 13, .ld 25 5 true (.tmp 2), none⟩, ⟨some 14, .mv (.tmp 5), none⟩, ⟨some 15, .fa 2 (.tmp 3), none⟩, ⟨some 16, .ld 3 1 false (.tmp 15), none⟩, ⟨some 17, .call 17 [.tmp 13, .tmp 14, .tmp 16], none⟩, ⟨some 18, .fl 1 1 false (.tmp 17), none⟩, ⟨some 19, .ld 25 5 true (.tmp 2), none⟩, ⟨some 20, .mv (.tmp 5), none⟩, ⟨some 21, .bin 3 .add (.tmp 20) (.const (.int .i64 1)), none⟩, ⟨some 22, .fa 2 (.tmp 3), none⟩, ⟨some 23, .ld 3 1 false (.tmp 22), none⟩, ⟨some 24, .call 17 [.tmp 19, .tmp 21, .tmp 23], none⟩, ⟨some 25, .fl 1 1 false (.tmp 24), none⟩, ⟨some 26, .mx [.tmp 18, .tmp 25], none⟩, ⟨some 6, .mv (.tmp 26), none⟩]
def Xn76_18 : C := regL [2, 3, 5, 55] (some [0, 0, 0, 7, 15, 31, 31, 95, 255, 511, 1023, 2047, 2047, 8191, 16383, 2047, 34815, 131071, 262143, 524287, 1048575, 1048575, 3145727, 8388607, 16777215, 1048575, 34603007, 134217727, 268435455]) [⟨some 27, .ld 25 5 true (.tmp 2), none⟩, ⟨some 28, .ld 27 7 true (.tmp 3), none⟩, ⟨some 29, .mv (.tmp 5), none⟩, ⟨some 30, .call 80 [.tmp 27, .tmp 28, .tmp 29], none⟩, ⟨some 31, .mv (.tmp 30), none⟩, ⟨some 32, .mv (.tmp 6), some (31, true)⟩, ⟨some 33, .fa 3 (.tmp 3), some (31, true)⟩, ⟨some 34, .ld 2 1 false (.tmp 33), some (31, true)⟩, ⟨some 35, .bin 2 .gtr (.tmp 32) (.tmp 34), some (31, true)⟩, ⟨some 36, .pick 31 (.tmp 35) (.const (.bool false)), none⟩, ⟨some 37, .mv (.tmp 36), none⟩, ⟨some 38, .ld 25 5 true (.tmp 2), some (37, true)⟩, ⟨some 39, .mv (.tmp 5), some (37, true)⟩, ⟨some 40, .call 16 [.tmp 38, .tmp 39], some (37, true)⟩, ⟨some 41, .fl 0 1 false (.tmp 40), some (37, true)⟩, ⟨some 42, .fa 1 (.tmp 3), some (37, true)⟩, ⟨some 43, .ld 2 1 false (.tmp 42), some (37, true)⟩, ⟨some 44, .bin 2 .leq (.tmp 41) (.tmp 43), some (37, true)⟩, ⟨some 45, .pick 37 (.tmp 44) (.const (.bool false)), none⟩, ⟨some 46, .mv (.tmp 45), none⟩, ⟨some 47, .ld 25 5 true (.tmp 2), some (46, true)⟩, ⟨some 48, .mv (.tmp 5), some (46, true)⟩, ⟨some 49, .bin 3 .add (.tmp 48) (.const (.int .i64 1)), some (46, true)⟩, ⟨some 50, .call 16 [.tmp 47, .tmp 49], some (46, true)⟩, ⟨some 51, .fl 1 1 false (.tmp 50), some (46, true)⟩, ⟨some 52, .fa 0 (.tmp 3), some (46, true)⟩, ⟨some 53, .ld 2 1 false (.tmp 52), some (46, true)⟩, ⟨some 54, .bin 2 .geq (.tmp 51) (.tmp 53), some (46, true)⟩, ⟨some 55, .pick 46 (.tmp 54) (.const (.bool false)), none⟩]
def Xn76_21 : C := regL [4] none [⟨some 56, .mv (.tmp 5), none⟩, ⟨some 4, .mv (.tmp 56), none⟩]
def Xn76_20 : C := .seq Xn76_21 .ret
def Xn76_19 : C := .cond (.tmp 55) Xn76_20 .skip
def Xn76_17 : C := .seq Xn76_18 Xn76_19
def Xn76_15 : C := .seq Xn76_16 Xn76_17
def Xn76_14 : C := .block 1 Xn76_15
def Xn76_24 : C := regL [2, 3, 5] none [⟨some 11, .mv (.tmp 5), none⟩, ⟨some 12, .bin 3 .add (.tmp 11) (.const (.int .i64 1)), none⟩, ⟨some 5, .mv (.tmp 12), none⟩]
def Xn76_13 : C := seqL [2, 3, 5] Xn76_14 Xn76_24
def Xn76_7 : C := seqL [2, 3, 5] Xn76_8 Xn76_13
/- carried: [5] -/
def Xn76_6 : C := loopL [2, 3, 5] Xn76_7
def Xn76_5 : C := .block 0 Xn76_6
def Xn76_3 : C := .seq Xn76_4 Xn76_5
def Xn76_26 : C := regL [4] none [⟨some 4, .mv (.const (.int .i64 (-1))), none⟩]
def Xn76_25 : C := .seq Xn76_26 .ret
def Xn76_2 : C := seqL [] Xn76_3 Xn76_25
def Xn76_0 : C := .seq Xn76_1 Xn76_2
theorem Xt76 : Text Try.prog 76 Xn76_0 57 2 [.t 4] := ⟨⟨Try.f76, [2, 3], Try.func76, by kernel_rfl, by kernel_rfl, by kernel_rfl, by kernel_rfl⟩⟩
/-! 77 __gooseneck_claim_course__within: parameters 2, slots 6 -/
def Xn77_1 : C := regL [2, 3] none [⟨some 2, .box true 79 (.tmp 0), none⟩, ⟨some 3, .box true 27 (.tmp 1), none⟩, ⟨some 4, .mv (.const (.nilFunc)), none⟩]
def Xn77_3 : C := regL [4] none [⟨some 5, .mkf 85 [] [.tmp 2, .tmp 3], none⟩, ⟨some 4, .mv (.tmp 5), none⟩]
def Xn77_2 : C := .seq Xn77_3 .ret
def Xn77_0 : C := .seq Xn77_1 Xn77_2
theorem Xt77 : Text Try.prog 77 Xn77_0 6 2 [.t 4] := ⟨⟨Try.f77, [2, 3], Try.func77, by kernel_rfl, by kernel_rfl, by kernel_rfl, by kernel_rfl⟩⟩
/-! 78 cmp_Less_int_: parameters 2, slots 17 -/
def Xn78_1 : C := regL [0, 1] none [⟨some 4, .mv (.const (.bool false)), none⟩]
def Xn78_3 : C := regL [4] none [⟨some 5, .mv (.tmp 0), none⟩, ⟨some 6, .call 87 [.tmp 5], none⟩, ⟨some 7, .mv (.tmp 6), none⟩, ⟨some 8, .mv (.tmp 1), some (7, true)⟩, ⟨some 9, .call 87 [.tmp 8], some (7, true)⟩, ⟨some 10, .un .not (.tmp 9), some (7, true)⟩, ⟨some 11, .pick 7 (.tmp 10) (.const (.bool false)), none⟩, ⟨some 12, .mv (.tmp 11), none⟩, ⟨some 13, .mv (.tmp 0), some (12, false)⟩, ⟨some 14, .mv (.tmp 1), some (12, false)⟩, ⟨some 15, .bin 3 .lss (.tmp 13) (.tmp 14), some (12, false)⟩, ⟨some 16, .pick 12 (.const (.bool true)) (.tmp 15), none⟩, ⟨some 4, .mv (.tmp 16), none⟩]
def Xn78_2 : C := .seq Xn78_3 .ret
def Xn78_0 : C := .seq Xn78_1 Xn78_2
theorem Xt78 : Text Try.prog 78 Xn78_0 17 2 [.t 4] := ⟨⟨Try.f78, [], Try.func78, by kernel_rfl, by kernel_rfl, by kernel_rfl, by kernel_rfl⟩⟩
/-! 79 slices_isNaN_int_: parameters 1, slots 6 -/
def Xn79_1 : C := regL [0] none [⟨some 2, .mv (.const (.bool false)), none⟩]
def Xn79_3 : C := regL [2] none [⟨some 3, .mv (.tmp 0), none⟩, ⟨some 4, .mv (.tmp 0), none⟩, ⟨some 5, .bin 3 .neq (.tmp 3) (.tmp 4), none⟩, ⟨some 2, .mv (.tmp 5), none⟩]
def Xn79_2 : C := .seq Xn79_3 .ret
def Xn79_0 : C := .seq Xn79_1 Xn79_2
theorem Xt79 : Text Try.prog 79 Xn79_0 6 1 [.t 2] := ⟨⟨Try.f79, [], Try.func79, by kernel_rfl, by kernel_rfl, by kernel_rfl, by kernel_rfl⟩⟩
/-! 80 gooseneck_gooseneckref11_within: parameters 3, slots 22 -/
def Xn80_1 : C := regL [2, 3, 4] none [⟨some 3, .box true 25 (.tmp 0), none⟩, ⟨some 4, .box true 27 (.tmp 1), none⟩, ⟨some 6, .mv (.const (.bool false)), none⟩]
def Xn80_3 : C := regL [6] (some [0, 0, 3, 0, 8, 31, 63, 127, 127, 383, 1023, 127, 2175, 8191, 16383, 32767]) [⟨some 7, .ld 25 5 true (.tmp 3), none⟩, ⟨some 8, .mv (.tmp 2), none⟩, ⟨some 9, .call 45 [.tmp 7, .tmp 8], none⟩, ⟨some 10, .fa 4 (.tmp 4), none⟩, ⟨some 11, .ld 2 1 false (.tmp 10), none⟩, ⟨some 12, .bin 2 .geq (.tmp 9) (.tmp 11), none⟩, ⟨some 13, .mv (.tmp 12), none⟩, ⟨some 14, .ld 25 5 true (.tmp 3), some (13, true)⟩, ⟨some 15, .mv (.tmp 2), some (13, true)⟩, ⟨some 16, .bin 3 .add (.tmp 15) (.const (.int .i64 1)), some (13, true)⟩, ⟨some 17, .call 45 [.tmp 14, .tmp 16], some (13, true)⟩, ⟨some 18, .fa 5 (.tmp 4), some (13, true)⟩, ⟨some 19, .ld 2 1 false (.tmp 18), some (13, true)⟩, ⟨some 20, .bin 2 .leq (.tmp 17) (.tmp 19), some (13, true)⟩, ⟨some 21, .pick 13 (.tmp 20) (.const (.bool false)), none⟩, ⟨some 6, .mv (.tmp 21), none⟩]
def Xn80_2 : C := .seq Xn80_3 .ret
def Xn80_0 : C := .seq Xn80_1 Xn80_2
theorem Xt80 : Text Try.prog 80 Xn80_0 22 3 [.t 6] := ⟨⟨Try.f80, [3, 4], Try.func80, by kernel_rfl, by kernel_rfl, by kernel_rfl, by kernel_rfl⟩⟩
/-! 81 slices_IndexFunc___int64_int64_: parameters 2, slots 19 -/
def Xn81_1 : C := regL [0, 1] none [⟨some 4, .mv (.const (.int .i64 0)), none⟩]
def Xn81_4 : C := regL [0, 1, 7, 8] none [⟨some 6, .mv (.tmp 0), none⟩, ⟨some 7, .len (.tmp 6), none⟩, ⟨some 8, .mv (.const (.int .i64 0)), none⟩]
def Xn81_8 : C := regL [0, 1, 7, 8, 9] none [⟨some 9, .bin 3 .lss (.tmp 8) (.tmp 7), none⟩]
def Xn81_10 : C := .cond (.tmp 9) .skip (.exit 0)
def Xn81_16 : C := regL [0, 1, 5, 7, 8] none [⟨some 10, .mv (.tmp 8), none⟩, ⟨some 5, .mv (.tmp 10), none⟩]
def Xn81_18 : C := regL [0, 1, 5, 7, 8, 16] none [⟨some 11, .mv (.tmp 1), none⟩, ⟨some 12, .mv (.tmp 0), none⟩, ⟨some 13, .mv (.tmp 5), none⟩, ⟨some 14, .ia 1 (.tmp 12) (.tmp 13), none⟩, ⟨some 15, .ld 2 1 false (.tmp 14), none⟩, ⟨some 16, .callv (.tmp 11) [.tmp 15], none⟩]
def Xn81_21 : C := regL [4] none [⟨some 17, .mv (.tmp 5), none⟩, ⟨some 4, .mv (.tmp 17), none⟩]
def Xn81_20 : C := .seq Xn81_21 .ret
def Xn81_19 : C := .cond (.tmp 16) Xn81_20 .skip
def Xn81_17 : C := .seq Xn81_18 Xn81_19
def Xn81_15 : C := .seq Xn81_16 Xn81_17
def Xn81_14 : C := .block 1 Xn81_15
def Xn81_24 : C := regL [0, 1, 7, 8] none [⟨some 18, .bin 3 .add (.tmp 8) (.const (.int .i64 1)), none⟩, ⟨some 8, .mv (.tmp 18), none⟩]
def Xn81_13 : C := seqL [0, 1, 7, 8] Xn81_14 Xn81_24
def Xn81_9 : C := seqL [0, 1, 7, 8] Xn81_10 Xn81_13
def Xn81_7 : C := .seq Xn81_8 Xn81_9
/- carried: [8] -/
def Xn81_6 : C := loopL [0, 1, 7, 8] Xn81_7
def Xn81_5 : C := .block 0 Xn81_6
def Xn81_3 : C := .seq Xn81_4 Xn81_5
def Xn81_26 : C := regL [4] none [⟨some 4, .mv (.const (.int .i64 (-1))), none⟩]
def Xn81_25 : C := .seq Xn81_26 .ret
def Xn81_2 : C := seqL [] Xn81_3 Xn81_25
def Xn81_0 : C := .seq Xn81_1 Xn81_2
theorem Xt81 : Text Try.prog 81 Xn81_0 19 2 [.t 4] := ⟨⟨Try.f81, [], Try.func81, by kernel_rfl, by kernel_rfl, by kernel_rfl, by kernel_rfl⟩⟩
/-! 82 slices_IndexFunc___gooseneck_api_Band_gooseneck_api_Band_: parameters 2, slots 19 -/
def Xn82_1 : C := regL [0, 1] none [⟨some 4, .mv (.const (.int .i64 0)), none⟩]
def Xn82_4 : C := regL [0, 1, 7, 8] none [⟨some 6, .mv (.tmp 0), none⟩, ⟨some 7, .len (.tmp 6), none⟩, ⟨some 8, .mv (.const (.int .i64 0)), none⟩]
def Xn82_8 : C := regL [0, 1, 7, 8, 9] none [⟨some 9, .bin 3 .lss (.tmp 8) (.tmp 7), none⟩]
def Xn82_10 : C := .cond (.tmp 9) .skip (.exit 0)
def Xn82_16 : C := regL [0, 1, 5, 7, 8] none [⟨some 10, .mv (.tmp 8), none⟩, ⟨some 5, .mv (.tmp 10), none⟩]
def Xn82_18 : C := regL [0, 1, 5, 7, 8, 16] none [⟨some 11, .mv (.tmp 1), none⟩, ⟨some 12, .mv (.tmp 0), none⟩, ⟨some 13, .mv (.tmp 5), none⟩, ⟨some 14, .ia 2 (.tmp 12) (.tmp 13), none⟩, ⟨some 15, .ld 40 2 true (.tmp 14), none⟩, ⟨some 16, .callv (.tmp 11) [.tmp 15], none⟩]
def Xn82_21 : C := regL [4] none [⟨some 17, .mv (.tmp 5), none⟩, ⟨some 4, .mv (.tmp 17), none⟩]
def Xn82_20 : C := .seq Xn82_21 .ret
def Xn82_19 : C := .cond (.tmp 16) Xn82_20 .skip
def Xn82_17 : C := .seq Xn82_18 Xn82_19
def Xn82_15 : C := .seq Xn82_16 Xn82_17
def Xn82_14 : C := .block 1 Xn82_15
def Xn82_24 : C := regL [0, 1, 7, 8] none [⟨some 18, .bin 3 .add (.tmp 8) (.const (.int .i64 1)), none⟩, ⟨some 8, .mv (.tmp 18), none⟩]
def Xn82_13 : C := seqL [0, 1, 7, 8] Xn82_14 Xn82_24
def Xn82_9 : C := seqL [0, 1, 7, 8] Xn82_10 Xn82_13
def Xn82_7 : C := .seq Xn82_8 Xn82_9
/- carried: [8] -/
def Xn82_6 : C := loopL [0, 1, 7, 8] Xn82_7
def Xn82_5 : C := .block 0 Xn82_6
def Xn82_3 : C := .seq Xn82_4 Xn82_5
def Xn82_26 : C := regL [4] none [⟨some 4, .mv (.const (.int .i64 (-1))), none⟩]
def Xn82_25 : C := .seq Xn82_26 .ret
def Xn82_2 : C := seqL [] Xn82_3 Xn82_25
def Xn82_0 : C := .seq Xn82_1 Xn82_2
theorem Xt82 : Text Try.prog 82 Xn82_0 19 2 [.t 4] := ⟨⟨Try.f82, [], Try.func82, by kernel_rfl, by kernel_rfl, by kernel_rfl, by kernel_rfl⟩⟩
/-! 83 gooseneck_claim_meet: parameters 1, slots 30 -/
def Xn83_1 : C := regL [0, 2] none [⟨some 2, .alc 40 (.agg #[.int .i64 0, .int .i64 0]), none⟩]
def Xn83_3 : C := regL [0, 2, 3] none [⟨some 6, .mv (.tmp 0), none⟩, ⟨some 7, .ia 2 (.tmp 6) (.const (.int .i64 0)), none⟩, ⟨some 8, .ld 40 2 true (.tmp 7), none⟩, ⟨some 3, .alc 40 (.agg #[.int .i64 0, .int .i64 0]), none⟩, ⟨none, .st 40 2 (.tmp 3) (.tmp 8), none⟩]
def Xn83_6 : C := regL [2, 3, 10, 11, 12] none [⟨some 9, .mv (.tmp 0), none⟩, ⟨some 10, .slc 92 2 (.tmp 9) (some (.const (.int .i64 1))) none, none⟩, ⟨some 11, .len (.tmp 10), none⟩, ⟨some 12, .mv (.const (.int .i64 0)), none⟩]
def Xn83_10 : C := regL [2, 3, 10, 11, 12, 13] none [⟨some 13, .bin 3 .lss (.tmp 12) (.tmp 11), none⟩]
def Xn83_12 : C := .cond (.tmp 13) .skip (.exit 0)
def Xn83_18 : C := regL [2, 3, 5, 10, 11, 12] none [⟨some 14, .ia 2 (.tmp 10) (.tmp 12), none⟩, ⟨some 15, .ld 40 2 true (.tmp 14), none⟩, ⟨some 5, .alc 40 (.agg #[.int .i64 0, .int .i64 0]), none⟩, ⟨none, .st 40 2 (.tmp 5) (.tmp 15), none⟩]
def Xn83_19 : C := regL [2, 3, 10, 11, 12] (some [0, 1, 0, 4, 15, 0, 32, 0, 128, 480, 127, 1151, 4095, 8191]) [⟨some 16, .fa 0 (.tmp 3), none⟩, ⟨some 17, .ld 2 1 false (.tmp 16), none⟩, ⟨some 18, .fa 0 (.tmp 5), none⟩, ⟨some 19, .ld 2 1 false (.tmp 18), none⟩, ⟨some 20, .mx [.tmp 17, .tmp 19], none⟩, ⟨some 21, .fa 1 (.tmp 3), none⟩, ⟨some 22, .ld 2 1 false (.tmp 21), none⟩, ⟨some 23, .fa 1 (.tmp 5), none⟩, ⟨some 24, .ld 2 1 false (.tmp 23), none⟩, ⟨some 25, .mn [.tmp 22, .tmp 24], none⟩, ⟨some 26, .fa 0 (.tmp 3), none⟩, ⟨none, .st 2 1 (.tmp 26) (.tmp 20), none⟩, ⟨some 27, .fa 1 (.tmp 3), none⟩, ⟨none, .st 2 1 (.tmp 27) (.tmp 25), none⟩]
def Xn83_17 : C := .seq Xn83_18 Xn83_19
def Xn83_16 : C := .block 1 Xn83_17
def Xn83_20 : C := regL [2, 3, 10, 11, 12] none [⟨some 28, .bin 3 .add (.tmp 12) (.const (.int .i64 1)), none⟩, ⟨some 12, .mv (.tmp 28), none⟩]
def Xn83_15 : C := seqL [2, 3, 10, 11, 12] Xn83_16 Xn83_20
def Xn83_11 : C := seqL [2, 3, 10, 11, 12] Xn83_12 Xn83_15
def Xn83_9 : C := .seq Xn83_10 Xn83_11
/- carried: [12] -/
def Xn83_8 : C := loopL [2, 3, 10, 11, 12] Xn83_9
def Xn83_7 : C := .block 0 Xn83_8
def Xn83_5 : C := .seq Xn83_6 Xn83_7
def Xn83_22 : C := regL [2] none [⟨some 29, .ld 40 2 true (.tmp 3), none⟩, ⟨none, .st 40 2 (.tmp 2) (.tmp 29), none⟩]
def Xn83_21 : C := .seq Xn83_22 .ret
def Xn83_4 : C := seqL [2, 3] Xn83_5 Xn83_21
def Xn83_2 : C := .seq Xn83_3 Xn83_4
def Xn83_0 : C := .seq Xn83_1 Xn83_2
theorem Xt83 : Text Try.prog 83 Xn83_0 30 1 [.c 2 2 true] := ⟨⟨Try.f83, [], Try.func83, by kernel_rfl, by kernel_rfl, by kernel_rfl, by kernel_rfl⟩⟩
/-! 84 __gooseneck_claim_course__value_1: parameters 3, slots 57 -/
def Xn84_1 : C := regL [0, 1, 2, 4] none [⟨some 4, .alc 40 (.agg #[.int .i64 0, .int .i64 0]), none⟩]
def Xn84_3 : C := regL [0, 1, 2, 4, 5] none [⟨some 5, .mv (.const (.slice none 0 0)), none⟩]
def Xn84_6 : C := regL [0, 1, 2, 4, 5, 13, 14, 15] none [⟨some 9, .ld 79 1 false (.tmp 1), none⟩, ⟨some 10, .nilc (.tmp 9), none⟩, ⟨some 11, .fa 0 (.tmp 10), none⟩, ⟨some 12, .fa 0 (.tmp 11), none⟩, ⟨some 13, .ld 22 1 false (.tmp 12), none⟩, ⟨some 14, .len (.tmp 13), none⟩, ⟨some 15, .mv (.const (.int .i64 0)), none⟩]
def Xn84_10 : C := regL [0, 1, 2, 4, 5, 13, 14, 15, 16] none [⟨some 16, .bin 3 .lss (.tmp 15) (.tmp 14), none⟩]
def Xn84_12 : C := .cond (.tmp 16) .skip (.exit 0)
def Xn84_18 : C := regL [0, 1, 2, 4, 5, 7, 13, 14, 15] none [⟨some 17, .ia 11 (.tmp 13) (.tmp 15), none⟩, ⟨some 18, .ld 43 11 true (.tmp 17), none⟩, ⟨some 7, .alc 43 (.agg #[.int .i64 0, .int .i64 0, .int .i64 0, .int .i64 0, .int .i64 0, .int .i64 0, .int .i64 0, .int .i64 0, .int .i64 0, .int .i64 0, .int .i64 0]), none⟩, ⟨none, .st 43 11 (.tmp 7) (.tmp 18), none⟩]
def Xn84_20 : C := regL [0, 1, 2, 4, 5, 7, 8, 13, 14, 15] (some [0, 0, 1, 5, 13, 31, 63, 0, 128, 0, 896, 0, 0, 4096, 14336, 32640, 65535, 131071]) [⟨some 19, .ld 79 1 false (.tmp 1), none⟩, ⟨some 20, .ld 3 1 false (.tmp 2), none⟩, ⟨some 21, .nilc (.tmp 19), none⟩, ⟨some 22, .fa 0 (.tmp 21), none⟩, ⟨some 23, .fa 1 (.tmp 22), none⟩, ⟨some 24, .iaa 4 1 (.tmp 23) (.tmp 20), none⟩, ⟨some 25, .ld 2 1 false (.tmp 24), none⟩, ⟨some 26, .fa 0 (.tmp 7), none⟩, ⟨some 27, .ld 2 1 false (.tmp 26), none⟩, ⟨some 28, .mv (.tmp 0), none⟩, ⟨some 29, .bin 2 .sub (.tmp 27) (.tmp 28), none⟩, ⟨some 30, .mv (.tmp 0), none⟩, ⟨some 31, .fa 0 (.tmp 7), none⟩, ⟨some 32, .ld 2 1 false (.tmp 31), none⟩, ⟨some 33, .bin 2 .sub (.tmp 30) (.tmp 32), none⟩, ⟨some 34, .mx [.tmp 29, .tmp 33], none⟩, ⟨some 35, .bin 2 .mul (.tmp 25) (.tmp 34), none⟩, ⟨some 8, .mv (.tmp 35), none⟩]
def Xn84_21 : C := regL [0, 1, 2, 4, 5, 13, 14, 15] (some [0, 0, 0, 6, 14, 30, 0, 126, 0, 0, 768, 1792, 3840, 0, 16128, 32766, 65534, 131071, 262143]) [⟨some 36, .mv (.tmp 5), none⟩, ⟨some 37, .ld 3 1 false (.tmp 2), none⟩, ⟨some 38, .fa 3 (.tmp 7), none⟩, ⟨some 39, .iaa 4 2 (.tmp 38) (.tmp 37), none⟩, ⟨some 40, .fa 0 (.tmp 39), none⟩, ⟨some 41, .ld 2 1 false (.tmp 40), none⟩, ⟨some 42, .mv (.tmp 8), none⟩, ⟨some 43, .bin 2 .sub (.tmp 41) (.tmp 42), none⟩, ⟨some 44, .ld 3 1 false (.tmp 2), none⟩, ⟨some 45, .fa 3 (.tmp 7), none⟩, ⟨some 46, .iaa 4 2 (.tmp 45) (.tmp 44), none⟩, ⟨some 47, .fa 1 (.tmp 46), none⟩, ⟨some 48, .ld 2 1 false (.tmp 47), none⟩, ⟨some 49, .mv (.tmp 8), none⟩, ⟨some 50, .bin 2 .add (.tmp 48) (.tmp 49), none⟩, ⟨some 51, .bld (.agg #[.int .i64 0, .int .i64 0]) [(0, 1, .tmp 43), (1, 1, .tmp 50)], none⟩, ⟨some 52, .bls 40 2 1 (.agg #[.int .i64 0, .int .i64 0]) [(0, 2, .tmp 51)], none⟩, ⟨some 53, .app 40 2 16 (.tmp 36) (.tmp 52), none⟩, ⟨some 5, .mv (.tmp 53), none⟩]
def Xn84_19 : C := .seq Xn84_20 Xn84_21
def Xn84_17 : C := .seq Xn84_18 Xn84_19
def Xn84_16 : C := .block 1 Xn84_17
def Xn84_22 : C := regL [0, 1, 2, 4, 5, 13, 14, 15] none [⟨some 54, .bin 3 .add (.tmp 15) (.const (.int .i64 1)), none⟩, ⟨some 15, .mv (.tmp 54), none⟩]
def Xn84_15 : C := seqL [0, 1, 2, 4, 5, 13, 14, 15] Xn84_16 Xn84_22
def Xn84_11 : C := seqL [0, 1, 2, 4, 5, 13, 14, 15] Xn84_12 Xn84_15
def Xn84_9 : C := .seq Xn84_10 Xn84_11
/- carried: [5, 15] -/
def Xn84_8 : C := loopL [0, 1, 2, 4, 5, 13, 14, 15] Xn84_9
def Xn84_7 : C := .block 0 Xn84_8
def Xn84_5 : C := .seq Xn84_6 Xn84_7
def Xn84_24 : C := regL [4] none [⟨some 55, .mv (.tmp 5), none⟩, ⟨some 56, .call 83 [.tmp 55], none⟩, ⟨none, .st 40 2 (.tmp 4) (.tmp 56), none⟩]
def Xn84_23 : C := .seq Xn84_24 .ret
def Xn84_4 : C := seqL [4, 5] Xn84_5 Xn84_23
def Xn84_2 : C := .seq Xn84_3 Xn84_4
def Xn84_0 : C := .seq Xn84_1 Xn84_2
theorem Xt84 : Text Try.prog 84 Xn84_0 57 3 [.c 4 2 true] := ⟨⟨Try.f84, [], Try.func84, by kernel_rfl, by kernel_rfl, by kernel_rfl, by kernel_rfl⟩⟩
/-! 85 __gooseneck_claim_course__within_1: parameters 3, slots 35 -/
def Xn85_1 : C := regL [0, 1, 2, 7, 8] none [⟨some 6, .ld 79 1 false (.tmp 1), none⟩, ⟨some 7, .call 86 [.tmp 6], none⟩, ⟨some 8, .mv (.const (.int .i64 0)), none⟩]
def Xn85_5 : C := regL [0, 1, 2, 7, 8, 9] none [⟨some 9, .bin 3 .lss (.tmp 8) (.tmp 7), none⟩]
def Xn85_7 : C := .cond (.tmp 9) .skip (.exit 0)
def Xn85_13 : C := regL [0, 1, 2, 4, 7, 8] none [⟨some 10, .mv (.tmp 8), none⟩, ⟨some 4, .mv (.tmp 10), none⟩]
def Xn85_15 : C := regL [0, 1, 2, 4, 5, 7, 8] none [⟨some 11, .ld 79 1 false (.tmp 1), none⟩, ⟨some 12, .nilc (.tmp 11), none⟩, ⟨some 13, .fa 5 (.tmp 12), none⟩, ⟨some 14, .ld 2 1 false (.tmp 13), none⟩, ⟨some 15, .mv (.tmp 4), none⟩, ⟨some 16, .bin 2 .add (.tmp 14) (.tmp 15), none⟩, ⟨some 5, .mv (.tmp 16), none⟩]
def Xn85_17 : C := regL [0, 1, 2, 7, 8, 33] none [⟨some 17, .mv (.tmp 5), none⟩, ⟨some 18, .fa 4 (.tmp 2), none⟩, ⟨some 19, .ld 2 1 false (.tmp 18), none⟩, ⟨some 20, .bin 2 .geq (.tmp 17) (.tmp 19), none⟩, ⟨some 21, .mv (.tmp 20), none⟩, ⟨some 22, .mv (.tmp 5), some (21, true)⟩, ⟨some 23, .bin 2 .add (.tmp 22) (.const (.int .i64 1)), some (21, true)⟩, ⟨some 24, .fa 5 (.tmp 2), some (21, true)⟩, ⟨some 25, .ld 2 1 false (.tmp 24), some (21, true)⟩, ⟨some 26, .bin 2 .leq (.tmp 23) (.tmp 25), some (21, true)⟩, ⟨some 27, .pick 21 (.tmp 26) (.const (.bool false)), none⟩, ⟨some 28, .mv (.tmp 27), none⟩, ⟨some 29, .mv (.tmp 0), some (28, true)⟩, ⟨some 30, .mv (.tmp 4), some (28, true)⟩, ⟨some 31, .callv (.tmp 29) [.tmp 30], some (28, true)⟩, ⟨some 32, .un .not (.tmp 31), some (28, true)⟩, ⟨some 33, .pick 28 (.tmp 32) (.const (.bool false)), none⟩]
def Xn85_18 : C := .cond (.tmp 33) .ret .skip
def Xn85_16 : C := .seq Xn85_17 Xn85_18
def Xn85_14 : C := .seq Xn85_15 Xn85_16
def Xn85_12 : C := .seq Xn85_13 Xn85_14
def Xn85_11 : C := .block 1 Xn85_12
def Xn85_21 : C := regL [0, 1, 2, 7, 8] none [⟨some 34, .bin 3 .add (.tmp 8) (.const (.int .i64 1)), none⟩, ⟨some 8, .mv (.tmp 34), none⟩]
def Xn85_10 : C := seqL [0, 1, 2, 7, 8] Xn85_11 Xn85_21
def Xn85_6 : C := seqL [0, 1, 2, 7, 8] Xn85_7 Xn85_10
def Xn85_4 : C := .seq Xn85_5 Xn85_6
/- carried: [8] -/
def Xn85_3 : C := loopL [0, 1, 2, 7, 8] Xn85_4
def Xn85_2 : C := .block 0 Xn85_3
def Xn85_0 : C := .seq Xn85_1 Xn85_2
theorem Xt85 : Text Try.prog 85 Xn85_0 35 3 [] := ⟨⟨Try.f85, [], Try.func85, by kernel_rfl, by kernel_rfl, by kernel_rfl, by kernel_rfl⟩⟩
/-! 86 __gooseneck_claim_course__steps: parameters 1, slots 9 -/
def Xn86_1 : C := regL [0] none [⟨some 2, .mv (.const (.int .i64 0)), none⟩]
def Xn86_3 : C := regL [2] none [⟨some 3, .mv (.tmp 0), none⟩, ⟨some 4, .nilc (.tmp 3), none⟩, ⟨some 5, .fa 6 (.tmp 4), none⟩, ⟨some 6, .ld 92 1 false (.tmp 5), none⟩, ⟨some 7, .len (.tmp 6), none⟩, ⟨some 8, .bin 3 .sub (.tmp 7) (.const (.int .i64 1)), none⟩, ⟨some 2, .mv (.tmp 8), none⟩]
def Xn86_2 : C := .seq Xn86_3 .ret
def Xn86_0 : C := .seq Xn86_1 Xn86_2
theorem Xt86 : Text Try.prog 86 Xn86_0 9 1 [.t 2] := ⟨⟨Try.f86, [], Try.func86, by kernel_rfl, by kernel_rfl, by kernel_rfl, by kernel_rfl⟩⟩
/-! 87 cmp_isNaN_int_: parameters 1, slots 6 -/
def Xn87_1 : C := regL [0] none [⟨some 2, .mv (.const (.bool false)), none⟩]
def Xn87_3 : C := regL [2] none [⟨some 3, .mv (.tmp 0), none⟩, ⟨some 4, .mv (.tmp 0), none⟩, ⟨some 5, .bin 3 .neq (.tmp 3) (.tmp 4), none⟩, ⟨some 2, .mv (.tmp 5), none⟩]
def Xn87_2 : C := .seq Xn87_3 .ret
def Xn87_0 : C := .seq Xn87_1 Xn87_2
theorem Xt87 : Text Try.prog 87 Xn87_0 6 1 [.t 2] := ⟨⟨Try.f87, [], Try.func87, by kernel_rfl, by kernel_rfl, by kernel_rfl, by kernel_rfl⟩⟩
end Go.Proofs.Ytgijpimjfoabjaa
/- The reference's small functions of chapter 11. -/
namespace Go.Proofs.Ytgijpimjfoabjaa
open Go Sy
set_option maxRecDepth 100000
set_option maxHeartbeats 4000000
set_option linter.unusedVariables false
set_option linter.unusedSimpArgs false

theorem mixed : Try.prog.follows .mixedOrders = true := by kernel_rfl

structure Band where
  lo : Int
  hi : Int
structure Reading where
  at_ : Int
  place : Band
  v0 : Band
  v1 : Band
  v2 : Band
  v3 : Band
structure Log where
  rs : List Reading
  d0 : Int
  d1 : Int
  d2 : Int
  d3 : Int
abbrev iv (n : Int) : AV := .v (.int .i64 n)
abbrev bv (b : Bool) : AV := .v (.bool b)
abbrev cBand (b : Band) : List AV := [iv b.lo, iv b.hi]
def cR (r : Reading) : List AV := [iv r.at_, iv r.place.lo, iv r.place.hi, iv r.v0.lo, iv r.v0.hi, iv r.v1.lo, iv r.v1.hi, iv r.v2.lo, iv r.v2.hi, iv r.v3.lo, iv r.v3.hi]
def dB : Band := ⟨0, 0⟩
def dR : Reading := ⟨0, dB, dB, dB, dB, dB⟩
def cLog (l : Log) : List AV := [.sl 11 dR cR l.rs, iv l.d0, iv l.d1, iv l.d2, iv l.d3]
abbrev aLog (l : Log) : AV := .agg (cLog l)

theorem nR0 (r : Reading) : nth (cR r) 0 = iv r.at_ := rfl
theorem nR1 (r : Reading) : nth (cR r) 1 = iv r.place.lo := rfl
theorem nR2 (r : Reading) : nth (cR r) 2 = iv r.place.hi := rfl
def vals (r : Reading) : Nat → Band
  | 0 => r.v0
  | 1 => r.v1
  | 2 => r.v2
  | _ => r.v3
def drift (l : Log) : Nat → Int
  | 0 => l.d0
  | 1 => l.d1
  | 2 => l.d2
  | _ => l.d3
theorem nL0 (l : Log) : nth (cLog l) 0 = .sl 11 dR cR l.rs := rfl
theorem nLd (l : Log) (k : Nat) (h : k < 4) : nth (cLog l) (1 + k * 1) = iv (drift l k) := by
  rcases k with _ | _ | _ | _ | k <;> first | rfl | omega
theorem lL (l : Log) : (cLog l).length = 5 := rfl
theorem tL (l : Log) : List.take 5 (cLog l) = cLog l := rfl
theorem frL (l : Log) : frzAll (cLog l) = true := rfl
theorem nRl (r : Reading) (k : Nat) (h : k < 4) : nth (cR r) (3 + k * 2) = iv (vals r k).lo := by
  rcases k with _ | _ | _ | _ | k <;> first | rfl | omega
theorem nRh (r : Reading) (k : Nat) (h : k < 4) : nth (cR r) (3 + k * 2 + 1) = iv (vals r k).hi := by
  rcases k with _ | _ | _ | _ | k <;> first | rfl | omega
theorem lR (r : Reading) : (cR r).length = 11 := rfl
theorem cR_all (r : Reading) : List.take 11 (cR r) = cR r := rfl
theorem frR (r : Reading) : frzAll (cR r) = true := rfl
theorem iR {m : Nat → Option Blk} {n : Nat} (r : Reading) : List.flatMap (ids m n) (cR r) = [] := flat_frz n _ (frR r)
theorem iL {m : Nat → Option Blk} {n : Nat} (l : Log) : List.flatMap (ids m n) (cLog l) = [] := flat_frz n _ (frL l)
theorem tRp (r : Reading) : List.take 2 (List.drop 1 (cR r)) = cBand r.place := rfl
theorem tRv (r : Reading) (k : Nat) (h : k < 4) : List.take 2 (List.drop (3 + k * 2) (cR r)) = cBand (vals r k) := by
  rcases k with _ | _ | _ | _ | k <;> first | rfl | omega
attribute [push_cast] nR0 nR1 nR2 nRl nRh lR cR_all frR iR iL nL0 nLd lL tL frL tRp tRv gt_iff_lt ge_iff_le Int.toNat_one
/-- in -/
theorem fn50 (x lo hi : Int) : Sy.Fn Try.prog 50 [iv x, iv lo, iv hi] (bv (decide (lo ≤ x) && decide (x ≤ hi))) := by
  refine Fn_of_W mixed Xt50 rfl ?_
  repeat' (first | refine WK_go ?_ | refine W_seqL ?_ | refine W_seq ?_ | (refine W_regL ?_; simp (maxSteps := 400000) (disch := omega) only [push_cast, ↓reduceIte, reduceCtorEq, Nat.reduceAdd, Nat.reduceSub, Nat.reduceEqDiff, Nat.reduceLeDiff, Nat.reduceLT, Nat.reduceBEq, Nat.reduceDiv, Nat.reduceMod, Nat.reducePow, Nat.reduceMul, Int.reduceToNat, Int.reduceLT, Int.reduceLE]) | refine W_block ?_ | (refine W_skip ?_; simp (maxSteps := 400000) (disch := omega) only [push_cast, ↓reduceIte, reduceCtorEq, Nat.reduceAdd, Nat.reduceSub, Nat.reduceEqDiff, Nat.reduceLeDiff, Nat.reduceLT, Nat.reduceBEq, Nat.reduceDiv, Nat.reduceMod, Nat.reducePow, Nat.reduceMul, Int.reduceToNat, Int.reduceLT, Int.reduceLE]) | (refine W_exit ?_; simp (maxSteps := 400000) (disch := omega) only [push_cast, ↓reduceIte, reduceCtorEq, Nat.reduceAdd, Nat.reduceSub, Nat.reduceEqDiff, Nat.reduceLeDiff, Nat.reduceLT, Nat.reduceBEq, Nat.reduceDiv, Nat.reduceMod, Nat.reducePow, Nat.reduceMul, Int.reduceToNat, Int.reduceLT, Int.reduceLE]) | refine And.intro (by omega) ?_ | refine And.intro (by intro hq; (try simp only [Bool.and_eq_true, Bool.or_eq_true, Bool.and_eq_false_iff, Bool.or_eq_false_iff, decide_eq_true_eq, decide_eq_false_iff_not, Bool.not_eq_true', Bool.not_eq_false', beq_iff_eq, beq_eq_false_iff_ne, ne_eq] at hq); omega) ?_ | fail)
  exact W_ret ⟨[_], ⟨rfl, rfl⟩, rfl⟩
def okBand (b : Band) : Bool := decide (b.lo ≤ b.hi) && decide (-1073741824 ≤ b.lo) && decide (b.hi ≤ 1073741824)
/-- band -/
theorem fn52 (b : Band) : Sy.Fn Try.prog 52 [.agg (cBand b)] (bv (okBand b)) := by
  refine Fn_of_W mixed Xt52 rfl ?_
  repeat' (first | refine WK_go ?_ | refine W_seqL ?_ | refine W_seq ?_ | (refine W_regL ?_; simp (maxSteps := 400000) (disch := omega) only [push_cast, ↓reduceIte, reduceCtorEq, Nat.reduceAdd, Nat.reduceSub, Nat.reduceEqDiff, Nat.reduceLeDiff, Nat.reduceLT, Nat.reduceBEq, Nat.reduceDiv, Nat.reduceMod, Nat.reducePow, Nat.reduceMul, Int.reduceToNat, Int.reduceLT, Int.reduceLE]) | refine W_block ?_ | (refine W_skip ?_; simp (maxSteps := 400000) (disch := omega) only [push_cast, ↓reduceIte, reduceCtorEq, Nat.reduceAdd, Nat.reduceSub, Nat.reduceEqDiff, Nat.reduceLeDiff, Nat.reduceLT, Nat.reduceBEq, Nat.reduceDiv, Nat.reduceMod, Nat.reducePow, Nat.reduceMul, Int.reduceToNat, Int.reduceLT, Int.reduceLE]) | (refine W_exit ?_; simp (maxSteps := 400000) (disch := omega) only [push_cast, ↓reduceIte, reduceCtorEq, Nat.reduceAdd, Nat.reduceSub, Nat.reduceEqDiff, Nat.reduceLeDiff, Nat.reduceLT, Nat.reduceBEq, Nat.reduceDiv, Nat.reduceMod, Nat.reducePow, Nat.reduceMul, Int.reduceToNat, Int.reduceLT, Int.reduceLE]) | refine And.intro (by omega) ?_ | refine And.intro (by intro hq; (try simp only [Bool.and_eq_true, Bool.or_eq_true, Bool.and_eq_false_iff, Bool.or_eq_false_iff, decide_eq_true_eq, decide_eq_false_iff_not, Bool.not_eq_true', Bool.not_eq_false', beq_iff_eq, beq_eq_false_iff_ne, ne_eq] at hq); omega) ?_ | fail)
  exact W_ret ⟨[_], ⟨rfl, rfl⟩, rfl⟩
def rd (l : Log) (i : Nat) : Reading := l.rs.getD i dR
def t0 (l : Log) : Int := (rd l 0).at_
def tn (l : Log) : Int := (rd l (l.rs.length - 1)).at_
/-- last -/
theorem fn53 (l : Log) (h2 : 1 ≤ l.rs.length) (h3 : l.rs.length ≤ 1000000) (h4 : -2305843009213693952 ≤ tn l ∧ tn l ≤ 2305843009213693952) (h5 : -2305843009213693952 ≤ t0 l ∧ t0 l ≤ 2305843009213693952) : Sy.Fn Try.prog 53 [aLog l] (iv (tn l - t0 l)) := by
  refine Fn_of_W mixed Xt53 rfl ?_
  have e : ((l.rs.length : Int) - 1).toNat = l.rs.length - 1 := by omega
  simp only [tn, t0, rd] at h4 h5 ⊢
  repeat' (first | refine WK_go ?_ | refine W_seqL ?_ | refine W_seq ?_ | (refine W_regL ?_; simp (maxSteps := 400000) (disch := omega) only [push_cast, ↓reduceIte, reduceCtorEq, Nat.reduceAdd, Nat.reduceSub, Nat.reduceEqDiff, Nat.reduceLeDiff, Nat.reduceLT, Nat.reduceBEq, Nat.reduceDiv, Nat.reduceMod, Nat.reducePow, Nat.reduceMul, Int.reduceToNat, Int.reduceLT, Int.reduceLE, e]) | refine W_block ?_ | (refine W_skip ?_; simp (maxSteps := 400000) (disch := omega) only [push_cast, ↓reduceIte, reduceCtorEq, Nat.reduceAdd, Nat.reduceSub, Nat.reduceEqDiff, Nat.reduceLeDiff, Nat.reduceLT, Nat.reduceBEq, Nat.reduceDiv, Nat.reduceMod, Nat.reducePow, Nat.reduceMul, Int.reduceToNat, Int.reduceLT, Int.reduceLE, e]) | (refine W_exit ?_; simp (maxSteps := 400000) (disch := omega) only [push_cast, ↓reduceIte, reduceCtorEq, Nat.reduceAdd, Nat.reduceSub, Nat.reduceEqDiff, Nat.reduceLeDiff, Nat.reduceLT, Nat.reduceBEq, Nat.reduceDiv, Nat.reduceMod, Nat.reducePow, Nat.reduceMul, Int.reduceToNat, Int.reduceLT, Int.reduceLE, e]) | refine And.intro (by omega) ?_ | refine And.intro (by intro hq; (try simp only [Bool.and_eq_true, Bool.or_eq_true, Bool.and_eq_false_iff, Bool.or_eq_false_iff, decide_eq_true_eq, decide_eq_false_iff_not, Bool.not_eq_true', Bool.not_eq_false', beq_iff_eq, beq_eq_false_iff_ne, ne_eq] at hq); omega) ?_ | fail)
  exact W_ret ⟨[_], ⟨rfl, rfl⟩, rfl⟩
/-- time -/
theorem fn45 (l : Log) (m : Int) (h2 : 1 ≤ l.rs.length) (h3 : l.rs.length ≤ 1000000) (h5 : -2305843009213693952 ≤ t0 l ∧ t0 l ≤ 2305843009213693952) (h6 : -2305843009213693952 ≤ m ∧ m ≤ 2305843009213693951) : Sy.Fn Try.prog 45 [aLog l, iv m] (iv (t0 l + m)) := by
  refine Fn_of_W mixed Xt45 rfl ?_
  simp only [t0, rd] at h5 ⊢
  repeat' (first | refine WK_go ?_ | refine W_seqL ?_ | refine W_seq ?_ | (refine W_regL ?_; simp (maxSteps := 400000) (disch := omega) only [push_cast, ↓reduceIte, reduceCtorEq, Nat.reduceAdd, Nat.reduceSub, Nat.reduceEqDiff, Nat.reduceLeDiff, Nat.reduceLT, Nat.reduceBEq, Nat.reduceDiv, Nat.reduceMod, Nat.reducePow, Nat.reduceMul, Int.reduceToNat, Int.reduceLT, Int.reduceLE]) | refine W_block ?_ | (refine W_skip ?_; simp (maxSteps := 400000) (disch := omega) only [push_cast, ↓reduceIte, reduceCtorEq, Nat.reduceAdd, Nat.reduceSub, Nat.reduceEqDiff, Nat.reduceLeDiff, Nat.reduceLT, Nat.reduceBEq, Nat.reduceDiv, Nat.reduceMod, Nat.reducePow, Nat.reduceMul, Int.reduceToNat, Int.reduceLT, Int.reduceLE]) | (refine W_exit ?_; simp (maxSteps := 400000) (disch := omega) only [push_cast, ↓reduceIte, reduceCtorEq, Nat.reduceAdd, Nat.reduceSub, Nat.reduceEqDiff, Nat.reduceLeDiff, Nat.reduceLT, Nat.reduceBEq, Nat.reduceDiv, Nat.reduceMod, Nat.reducePow, Nat.reduceMul, Int.reduceToNat, Int.reduceLT, Int.reduceLE]) | refine And.intro (by omega) ?_ | refine And.intro (by intro hq; (try simp only [Bool.and_eq_true, Bool.or_eq_true, Bool.and_eq_false_iff, Bool.or_eq_false_iff, decide_eq_true_eq, decide_eq_false_iff_not, Bool.not_eq_true', Bool.not_eq_false', beq_iff_eq, beq_eq_false_iff_ne, ne_eq] at hq); omega) ?_ | fail)
  exact W_ret ⟨[_], ⟨rfl, rfl⟩, rfl⟩

/-! Place -/
def pLo (t : Int) : Int → List Reading → Int
  | a, [] => a
  | a, r :: rs => pLo t (if r.at_ ≤ t then max a r.place.lo else a) rs
def pHi (t : Int) : Int → List Reading → Int
  | a, [] => a
  | a, r :: rs => pHi t (if t ≤ r.at_ then min a r.place.hi else a) rs
theorem pLo_append (t : Int) (r : Reading) : ∀ (l : List Reading) (a : Int), pLo t a (l ++ [r]) = if r.at_ ≤ t then max (pLo t a l) r.place.lo else pLo t a l
  | [], a => rfl
  | x :: l, a => pLo_append t r l _
theorem pHi_append (t : Int) (r : Reading) : ∀ (l : List Reading) (a : Int), pHi t a (l ++ [r]) = if t ≤ r.at_ then min (pHi t a l) r.place.hi else pHi t a l
  | [], a => rfl
  | x :: l, a => pHi_append t r l _
theorem take_rd (l : Log) (i : Nat) (h : i < l.rs.length) : l.rs.take (i + 1) = l.rs.take i ++ [rd l i] := by
  rw [List.take_succ_eq_append_getElem h]
  simp [rd, h]
def place (l : Log) (m : Int) : Band := ⟨pLo (t0 l + m) (-1099511627776) l.rs, pHi (t0 l + m) 1099511627776 l.rs⟩
theorem fn16 (l : Log) (m : Int) (h2 : 1 ≤ l.rs.length) (h3 : l.rs.length ≤ 1000000) (h5 : -2305843009213693952 ≤ t0 l ∧ t0 l ≤ 2305843009213693952) (h6 : -2305843009213693952 ≤ m ∧ m ≤ 2305843009213693951) :
    Sy.Fn Try.prog 16 [aLog l, iv m] (.agg (cBand (place l m))) := by
  refine Fn_of_W mixed Xt16 rfl ?_
  have c45 := fn45 l m h2 h3 h5 h6
  repeat' (first | refine WK_go ?_ | refine W_seqL ?_ | refine W_seq ?_ | (refine W_regL ?_; simp (maxSteps := 400000) (disch := omega) only [push_cast, ↓reduceIte, reduceCtorEq, Nat.reduceAdd, Nat.reduceSub, Nat.reduceEqDiff, Nat.reduceLeDiff, Nat.reduceLT, Nat.reduceBEq, Nat.reduceDiv, Nat.reduceMod, Nat.reducePow, Nat.reduceMul, Int.reduceToNat, Int.reduceLT, Int.reduceLE]) | refine W_block ?_ | (refine W_skip ?_; simp (maxSteps := 400000) (disch := omega) only [push_cast, ↓reduceIte, reduceCtorEq, Nat.reduceAdd, Nat.reduceSub, Nat.reduceEqDiff, Nat.reduceLeDiff, Nat.reduceLT, Nat.reduceBEq, Nat.reduceDiv, Nat.reduceMod, Nat.reducePow, Nat.reduceMul, Int.reduceToNat, Int.reduceLT, Int.reduceLE]) | (refine W_exit ?_; simp (maxSteps := 400000) (disch := omega) only [push_cast, ↓reduceIte, reduceCtorEq, Nat.reduceAdd, Nat.reduceSub, Nat.reduceEqDiff, Nat.reduceLeDiff, Nat.reduceLT, Nat.reduceBEq, Nat.reduceDiv, Nat.reduceMod, Nat.reducePow, Nat.reduceMul, Int.reduceToNat, Int.reduceLT, Int.reduceLE]) | refine And.intro (by omega) ?_ | refine And.intro (by intro hq; (try simp only [Bool.and_eq_true, Bool.or_eq_true, Bool.and_eq_false_iff, Bool.or_eq_false_iff, decide_eq_true_eq, decide_eq_false_iff_not, Bool.not_eq_true', Bool.not_eq_false', beq_iff_eq, beq_eq_false_iff_ne, ne_eq] at hq); omega) ?_ | fail)
  refine W_loopU (fun i : Nat => [(6, iv i)]) (fun i => [(3, .cells [iv (pLo (t0 l + m) (-1099511627776) (l.rs.take i)), iv (pHi (t0 l + m) 1099511627776 (l.rs.take i))])]) (fun i => i ≤ l.rs.length) (fun i => l.rs.length - i) 0 (by omega) (by rfl) (by rfl) (fun i hi => ?_)
  simp (maxSteps := 400000) (disch := omega) only [push_cast, ↓reduceIte, reduceCtorEq, Nat.reduceAdd, Nat.reduceSub, Nat.reduceEqDiff, Nat.reduceLeDiff, Nat.reduceLT, Nat.reduceBEq, Nat.reduceDiv, Nat.reduceMod, Nat.reducePow, Nat.reduceMul, Int.reduceToNat, Int.reduceLT, Int.reduceLE]
  repeat' (first | refine WK_go ?_ | refine W_seqL ?_ | refine W_seq ?_ | (refine W_regL ?_; simp (maxSteps := 400000) (disch := omega) only [push_cast, ↓reduceIte, reduceCtorEq, Nat.reduceAdd, Nat.reduceSub, Nat.reduceEqDiff, Nat.reduceLeDiff, Nat.reduceLT, Nat.reduceBEq, Nat.reduceDiv, Nat.reduceMod, Nat.reducePow, Nat.reduceMul, Int.reduceToNat, Int.reduceLT, Int.reduceLE]) | refine W_block ?_ | (refine W_skip ?_; simp (maxSteps := 400000) (disch := omega) only [push_cast, ↓reduceIte, reduceCtorEq, Nat.reduceAdd, Nat.reduceSub, Nat.reduceEqDiff, Nat.reduceLeDiff, Nat.reduceLT, Nat.reduceBEq, Nat.reduceDiv, Nat.reduceMod, Nat.reducePow, Nat.reduceMul, Int.reduceToNat, Int.reduceLT, Int.reduceLE]) | (refine W_exit ?_; simp (maxSteps := 400000) (disch := omega) only [push_cast, ↓reduceIte, reduceCtorEq, Nat.reduceAdd, Nat.reduceSub, Nat.reduceEqDiff, Nat.reduceLeDiff, Nat.reduceLT, Nat.reduceBEq, Nat.reduceDiv, Nat.reduceMod, Nat.reducePow, Nat.reduceMul, Int.reduceToNat, Int.reduceLT, Int.reduceLE]) | refine And.intro (by omega) ?_ | refine And.intro (by intro hq; (try simp only [Bool.and_eq_true, Bool.or_eq_true, Bool.and_eq_false_iff, Bool.or_eq_false_iff, decide_eq_true_eq, decide_eq_false_iff_not, Bool.not_eq_true', Bool.not_eq_false', beq_iff_eq, beq_eq_false_iff_ne, ne_eq] at hq); omega) ?_ | fail)
  refine W_condD (by rfl) (fun h => ?_) (fun h => ?_)
  · have hlt : i < l.rs.length := by omega
    have hr : l.rs.getD i dR = rd l i := rfl
    repeat' (first | refine WK_go ?_ | refine W_seqL ?_ | refine W_seq ?_ | (refine W_regL ?_; simp (maxSteps := 400000) (disch := omega) only [push_cast, ↓reduceIte, reduceCtorEq, Nat.reduceAdd, Nat.reduceSub, Nat.reduceEqDiff, Nat.reduceLeDiff, Nat.reduceLT, Nat.reduceBEq, Nat.reduceDiv, Nat.reduceMod, Nat.reducePow, Nat.reduceMul, Int.reduceToNat, Int.reduceLT, Int.reduceLE, hr]) | refine W_block ?_ | (refine W_skip ?_; simp (maxSteps := 400000) (disch := omega) only [push_cast, ↓reduceIte, reduceCtorEq, Nat.reduceAdd, Nat.reduceSub, Nat.reduceEqDiff, Nat.reduceLeDiff, Nat.reduceLT, Nat.reduceBEq, Nat.reduceDiv, Nat.reduceMod, Nat.reducePow, Nat.reduceMul, Int.reduceToNat, Int.reduceLT, Int.reduceLE, hr]) | (refine W_exit ?_; simp (maxSteps := 400000) (disch := omega) only [push_cast, ↓reduceIte, reduceCtorEq, Nat.reduceAdd, Nat.reduceSub, Nat.reduceEqDiff, Nat.reduceLeDiff, Nat.reduceLT, Nat.reduceBEq, Nat.reduceDiv, Nat.reduceMod, Nat.reducePow, Nat.reduceMul, Int.reduceToNat, Int.reduceLT, Int.reduceLE, hr]) | refine And.intro (by omega) ?_ | refine And.intro (by intro hq; (try simp only [Bool.and_eq_true, Bool.or_eq_true, Bool.and_eq_false_iff, Bool.or_eq_false_iff, decide_eq_true_eq, decide_eq_false_iff_not, Bool.not_eq_true', Bool.not_eq_false', beq_iff_eq, beq_eq_false_iff_ne, ne_eq] at hq); omega) ?_ | (refine CallC.now (c45) ?_; simp (maxSteps := 400000) (disch := omega) only [push_cast, ↓reduceIte, reduceCtorEq, Nat.reduceAdd, Nat.reduceSub, Nat.reduceEqDiff, Nat.reduceLeDiff, Nat.reduceLT, Nat.reduceBEq, Nat.reduceDiv, Nat.reduceMod, Nat.reducePow, Nat.reduceMul, Int.reduceToNat, Int.reduceLT, Int.reduceLE, hr]) | fail)
    refine W_meet [] [(3, .cells [iv (pLo (t0 l + m) (-1099511627776) (l.rs.take (i + 1))), iv (pHi (t0 l + m) 1099511627776 (l.rs.take i))])] ?_ ?_
    · refine W_condD (by rfl) (fun h => ?_) (fun h => ?_)
      · repeat' (first | refine WK_go ?_ | refine W_seqL ?_ | refine W_seq ?_ | (refine W_regL ?_; simp (maxSteps := 400000) (disch := omega) only [push_cast, ↓reduceIte, reduceCtorEq, Nat.reduceAdd, Nat.reduceSub, Nat.reduceEqDiff, Nat.reduceLeDiff, Nat.reduceLT, Nat.reduceBEq, Nat.reduceDiv, Nat.reduceMod, Nat.reducePow, Nat.reduceMul, Int.reduceToNat, Int.reduceLT, Int.reduceLE]) | refine W_block ?_ | (refine W_skip ?_; simp (maxSteps := 400000) (disch := omega) only [push_cast, ↓reduceIte, reduceCtorEq, Nat.reduceAdd, Nat.reduceSub, Nat.reduceEqDiff, Nat.reduceLeDiff, Nat.reduceLT, Nat.reduceBEq, Nat.reduceDiv, Nat.reduceMod, Nat.reducePow, Nat.reduceMul, Int.reduceToNat, Int.reduceLT, Int.reduceLE]) | (refine W_exit ?_; simp (maxSteps := 400000) (disch := omega) only [push_cast, ↓reduceIte, reduceCtorEq, Nat.reduceAdd, Nat.reduceSub, Nat.reduceEqDiff, Nat.reduceLeDiff, Nat.reduceLT, Nat.reduceBEq, Nat.reduceDiv, Nat.reduceMod, Nat.reducePow, Nat.reduceMul, Int.reduceToNat, Int.reduceLT, Int.reduceLE]) | refine And.intro (by omega) ?_ | refine And.intro (by intro hq; (try simp only [Bool.and_eq_true, Bool.or_eq_true, Bool.and_eq_false_iff, Bool.or_eq_false_iff, decide_eq_true_eq, decide_eq_false_iff_not, Bool.not_eq_true', Bool.not_eq_false', beq_iff_eq, beq_eq_false_iff_ne, ne_eq] at hq); omega) ?_ | fail)
        refine ⟨by rfl, ?_⟩
        simp (maxSteps := 400000) (disch := omega) only [push_cast, ↓reduceIte, reduceCtorEq, Nat.reduceAdd, Nat.reduceSub, Nat.reduceEqDiff, Nat.reduceLeDiff, Nat.reduceLT, Nat.reduceBEq, Nat.reduceDiv, Nat.reduceMod, Nat.reducePow, Nat.reduceMul, Int.reduceToNat, Int.reduceLT, Int.reduceLE, S.mk.injEq, List.cons.injEq, Prod.mk.injEq, AV.v.injEq, Value.int.injEq, Value.bool.injEq, Blk.cells.injEq]
        rw [take_rd l i hlt, pLo_append, if_pos h]
      · repeat' (first | refine WK_go ?_ | refine W_seqL ?_ | refine W_seq ?_ | (refine W_regL ?_; simp (maxSteps := 400000) (disch := omega) only [push_cast, ↓reduceIte, reduceCtorEq, Nat.reduceAdd, Nat.reduceSub, Nat.reduceEqDiff, Nat.reduceLeDiff, Nat.reduceLT, Nat.reduceBEq, Nat.reduceDiv, Nat.reduceMod, Nat.reducePow, Nat.reduceMul, Int.reduceToNat, Int.reduceLT, Int.reduceLE]) | refine W_block ?_ | (refine W_skip ?_; simp (maxSteps := 400000) (disch := omega) only [push_cast, ↓reduceIte, reduceCtorEq, Nat.reduceAdd, Nat.reduceSub, Nat.reduceEqDiff, Nat.reduceLeDiff, Nat.reduceLT, Nat.reduceBEq, Nat.reduceDiv, Nat.reduceMod, Nat.reducePow, Nat.reduceMul, Int.reduceToNat, Int.reduceLT, Int.reduceLE]) | (refine W_exit ?_; simp (maxSteps := 400000) (disch := omega) only [push_cast, ↓reduceIte, reduceCtorEq, Nat.reduceAdd, Nat.reduceSub, Nat.reduceEqDiff, Nat.reduceLeDiff, Nat.reduceLT, Nat.reduceBEq, Nat.reduceDiv, Nat.reduceMod, Nat.reducePow, Nat.reduceMul, Int.reduceToNat, Int.reduceLT, Int.reduceLE]) | refine And.intro (by omega) ?_ | refine And.intro (by intro hq; (try simp only [Bool.and_eq_true, Bool.or_eq_true, Bool.and_eq_false_iff, Bool.or_eq_false_iff, decide_eq_true_eq, decide_eq_false_iff_not, Bool.not_eq_true', Bool.not_eq_false', beq_iff_eq, beq_eq_false_iff_ne, ne_eq] at hq); omega) ?_ | fail)
        refine ⟨by rfl, ?_⟩
        simp (maxSteps := 400000) (disch := omega) only [push_cast, ↓reduceIte, reduceCtorEq, Nat.reduceAdd, Nat.reduceSub, Nat.reduceEqDiff, Nat.reduceLeDiff, Nat.reduceLT, Nat.reduceBEq, Nat.reduceDiv, Nat.reduceMod, Nat.reducePow, Nat.reduceMul, Int.reduceToNat, Int.reduceLT, Int.reduceLE, S.mk.injEq, List.cons.injEq, Prod.mk.injEq, AV.v.injEq, Value.int.injEq, Value.bool.injEq, Blk.cells.injEq]
        rw [take_rd l i hlt, pLo_append, if_neg h]
    · simp (maxSteps := 400000) (disch := omega) only [push_cast, ↓reduceIte, reduceCtorEq, Nat.reduceAdd, Nat.reduceSub, Nat.reduceEqDiff, Nat.reduceLeDiff, Nat.reduceLT, Nat.reduceBEq, Nat.reduceDiv, Nat.reduceMod, Nat.reducePow, Nat.reduceMul, Int.reduceToNat, Int.reduceLT, Int.reduceLE]
      repeat' (first | refine WK_go ?_ | refine W_seqL ?_ | refine W_seq ?_ | (refine W_regL ?_; simp (maxSteps := 400000) (disch := omega) only [push_cast, ↓reduceIte, reduceCtorEq, Nat.reduceAdd, Nat.reduceSub, Nat.reduceEqDiff, Nat.reduceLeDiff, Nat.reduceLT, Nat.reduceBEq, Nat.reduceDiv, Nat.reduceMod, Nat.reducePow, Nat.reduceMul, Int.reduceToNat, Int.reduceLT, Int.reduceLE]) | refine W_block ?_ | (refine W_skip ?_; simp (maxSteps := 400000) (disch := omega) only [push_cast, ↓reduceIte, reduceCtorEq, Nat.reduceAdd, Nat.reduceSub, Nat.reduceEqDiff, Nat.reduceLeDiff, Nat.reduceLT, Nat.reduceBEq, Nat.reduceDiv, Nat.reduceMod, Nat.reducePow, Nat.reduceMul, Int.reduceToNat, Int.reduceLT, Int.reduceLE]) | (refine W_exit ?_; simp (maxSteps := 400000) (disch := omega) only [push_cast, ↓reduceIte, reduceCtorEq, Nat.reduceAdd, Nat.reduceSub, Nat.reduceEqDiff, Nat.reduceLeDiff, Nat.reduceLT, Nat.reduceBEq, Nat.reduceDiv, Nat.reduceMod, Nat.reducePow, Nat.reduceMul, Int.reduceToNat, Int.reduceLT, Int.reduceLE]) | refine And.intro (by omega) ?_ | refine And.intro (by intro hq; (try simp only [Bool.and_eq_true, Bool.or_eq_true, Bool.and_eq_false_iff, Bool.or_eq_false_iff, decide_eq_true_eq, decide_eq_false_iff_not, Bool.not_eq_true', Bool.not_eq_false', beq_iff_eq, beq_eq_false_iff_ne, ne_eq] at hq); omega) ?_ | (refine CallC.now (c45) ?_; simp (maxSteps := 400000) (disch := omega) only [push_cast, ↓reduceIte, reduceCtorEq, Nat.reduceAdd, Nat.reduceSub, Nat.reduceEqDiff, Nat.reduceLeDiff, Nat.reduceLT, Nat.reduceBEq, Nat.reduceDiv, Nat.reduceMod, Nat.reducePow, Nat.reduceMul, Int.reduceToNat, Int.reduceLT, Int.reduceLE]) | fail)
      refine W_condD (by rfl) (fun h => ?_) (fun h => ?_)
      · repeat' (first | refine WK_go ?_ | refine W_seqL ?_ | refine W_seq ?_ | (refine W_regL ?_; simp (maxSteps := 400000) (disch := omega) only [push_cast, ↓reduceIte, reduceCtorEq, Nat.reduceAdd, Nat.reduceSub, Nat.reduceEqDiff, Nat.reduceLeDiff, Nat.reduceLT, Nat.reduceBEq, Nat.reduceDiv, Nat.reduceMod, Nat.reducePow, Nat.reduceMul, Int.reduceToNat, Int.reduceLT, Int.reduceLE]) | refine W_block ?_ | (refine W_skip ?_; simp (maxSteps := 400000) (disch := omega) only [push_cast, ↓reduceIte, reduceCtorEq, Nat.reduceAdd, Nat.reduceSub, Nat.reduceEqDiff, Nat.reduceLeDiff, Nat.reduceLT, Nat.reduceBEq, Nat.reduceDiv, Nat.reduceMod, Nat.reducePow, Nat.reduceMul, Int.reduceToNat, Int.reduceLT, Int.reduceLE]) | (refine W_exit ?_; simp (maxSteps := 400000) (disch := omega) only [push_cast, ↓reduceIte, reduceCtorEq, Nat.reduceAdd, Nat.reduceSub, Nat.reduceEqDiff, Nat.reduceLeDiff, Nat.reduceLT, Nat.reduceBEq, Nat.reduceDiv, Nat.reduceMod, Nat.reducePow, Nat.reduceMul, Int.reduceToNat, Int.reduceLT, Int.reduceLE]) | refine And.intro (by omega) ?_ | refine And.intro (by intro hq; (try simp only [Bool.and_eq_true, Bool.or_eq_true, Bool.and_eq_false_iff, Bool.or_eq_false_iff, decide_eq_true_eq, decide_eq_false_iff_not, Bool.not_eq_true', Bool.not_eq_false', beq_iff_eq, beq_eq_false_iff_ne, ne_eq] at hq); omega) ?_ | fail)
        refine ⟨i + 1, by omega, by omega, by rfl, ?_⟩
        simp (maxSteps := 400000) (disch := omega) only [push_cast, ↓reduceIte, reduceCtorEq, Nat.reduceAdd, Nat.reduceSub, Nat.reduceEqDiff, Nat.reduceLeDiff, Nat.reduceLT, Nat.reduceBEq, Nat.reduceDiv, Nat.reduceMod, Nat.reducePow, Nat.reduceMul, Int.reduceToNat, Int.reduceLT, Int.reduceLE, S.mk.injEq, List.cons.injEq, Prod.mk.injEq, AV.v.injEq, Value.int.injEq, Value.bool.injEq, Blk.cells.injEq]
        rw [take_rd l i hlt, pHi_append, if_pos h]
      · repeat' (first | refine WK_go ?_ | refine W_seqL ?_ | refine W_seq ?_ | (refine W_regL ?_; simp (maxSteps := 400000) (disch := omega) only [push_cast, ↓reduceIte, reduceCtorEq, Nat.reduceAdd, Nat.reduceSub, Nat.reduceEqDiff, Nat.reduceLeDiff, Nat.reduceLT, Nat.reduceBEq, Nat.reduceDiv, Nat.reduceMod, Nat.reducePow, Nat.reduceMul, Int.reduceToNat, Int.reduceLT, Int.reduceLE]) | refine W_block ?_ | (refine W_skip ?_; simp (maxSteps := 400000) (disch := omega) only [push_cast, ↓reduceIte, reduceCtorEq, Nat.reduceAdd, Nat.reduceSub, Nat.reduceEqDiff, Nat.reduceLeDiff, Nat.reduceLT, Nat.reduceBEq, Nat.reduceDiv, Nat.reduceMod, Nat.reducePow, Nat.reduceMul, Int.reduceToNat, Int.reduceLT, Int.reduceLE]) | (refine W_exit ?_; simp (maxSteps := 400000) (disch := omega) only [push_cast, ↓reduceIte, reduceCtorEq, Nat.reduceAdd, Nat.reduceSub, Nat.reduceEqDiff, Nat.reduceLeDiff, Nat.reduceLT, Nat.reduceBEq, Nat.reduceDiv, Nat.reduceMod, Nat.reducePow, Nat.reduceMul, Int.reduceToNat, Int.reduceLT, Int.reduceLE]) | refine And.intro (by omega) ?_ | refine And.intro (by intro hq; (try simp only [Bool.and_eq_true, Bool.or_eq_true, Bool.and_eq_false_iff, Bool.or_eq_false_iff, decide_eq_true_eq, decide_eq_false_iff_not, Bool.not_eq_true', Bool.not_eq_false', beq_iff_eq, beq_eq_false_iff_ne, ne_eq] at hq); omega) ?_ | fail)
        refine ⟨i + 1, by omega, by omega, by rfl, ?_⟩
        simp (maxSteps := 400000) (disch := omega) only [push_cast, ↓reduceIte, reduceCtorEq, Nat.reduceAdd, Nat.reduceSub, Nat.reduceEqDiff, Nat.reduceLeDiff, Nat.reduceLT, Nat.reduceBEq, Nat.reduceDiv, Nat.reduceMod, Nat.reducePow, Nat.reduceMul, Int.reduceToNat, Int.reduceLT, Int.reduceLE, S.mk.injEq, List.cons.injEq, Prod.mk.injEq, AV.v.injEq, Value.int.injEq, Value.bool.injEq, Blk.cells.injEq]
        rw [take_rd l i hlt, pHi_append, if_neg h]
  · repeat' (first | refine WK_go ?_ | refine W_seqL ?_ | refine W_seq ?_ | (refine W_regL ?_; simp (maxSteps := 400000) (disch := omega) only [push_cast, ↓reduceIte, reduceCtorEq, Nat.reduceAdd, Nat.reduceSub, Nat.reduceEqDiff, Nat.reduceLeDiff, Nat.reduceLT, Nat.reduceBEq, Nat.reduceDiv, Nat.reduceMod, Nat.reducePow, Nat.reduceMul, Int.reduceToNat, Int.reduceLT, Int.reduceLE]) | refine W_block ?_ | (refine W_skip ?_; simp (maxSteps := 400000) (disch := omega) only [push_cast, ↓reduceIte, reduceCtorEq, Nat.reduceAdd, Nat.reduceSub, Nat.reduceEqDiff, Nat.reduceLeDiff, Nat.reduceLT, Nat.reduceBEq, Nat.reduceDiv, Nat.reduceMod, Nat.reducePow, Nat.reduceMul, Int.reduceToNat, Int.reduceLT, Int.reduceLE]) | (refine W_exit ?_; simp (maxSteps := 400000) (disch := omega) only [push_cast, ↓reduceIte, reduceCtorEq, Nat.reduceAdd, Nat.reduceSub, Nat.reduceEqDiff, Nat.reduceLeDiff, Nat.reduceLT, Nat.reduceBEq, Nat.reduceDiv, Nat.reduceMod, Nat.reducePow, Nat.reduceMul, Int.reduceToNat, Int.reduceLT, Int.reduceLE]) | refine And.intro (by omega) ?_ | refine And.intro (by intro hq; (try simp only [Bool.and_eq_true, Bool.or_eq_true, Bool.and_eq_false_iff, Bool.or_eq_false_iff, decide_eq_true_eq, decide_eq_false_iff_not, Bool.not_eq_true', Bool.not_eq_false', beq_iff_eq, beq_eq_false_iff_ne, ne_eq] at hq); omega) ?_ | fail)
    have e : i = l.rs.length := by omega
    subst e
    rw [List.take_length]
    exact W_ret ⟨[_], ⟨⟨by simp, rfl⟩, rfl⟩, rfl⟩
/-! Value -/
def away (r : Reading) (t : Int) : Int := max (r.at_ - t) (t - r.at_)
def vLo (l : Log) (k : Nat) (t : Int) : Int → List Reading → Int
  | a, [] => a
  | a, r :: rs => vLo l k t (max a ((vals r k).lo - drift l k * away r t)) rs
def vHi (l : Log) (k : Nat) (t : Int) : Int → List Reading → Int
  | a, [] => a
  | a, r :: rs => vHi l k t (min a ((vals r k).hi + drift l k * away r t)) rs
theorem vLo_append (l : Log) (k : Nat) (t : Int) (r : Reading) : ∀ (m : List Reading) (a : Int), vLo l k t a (m ++ [r]) = max (vLo l k t a m) ((vals r k).lo - drift l k * away r t)
  | [], a => rfl
  | x :: m, a => vLo_append l k t r m _
theorem vHi_append (l : Log) (k : Nat) (t : Int) (r : Reading) : ∀ (m : List Reading) (a : Int), vHi l k t a (m ++ [r]) = min (vHi l k t a m) ((vals r k).hi + drift l k * away r t)
  | [], a => rfl
  | x :: m, a => vHi_append l k t r m _
def value (l : Log) (m : Int) (k : Nat) : Band := ⟨vLo l k (t0 l + m) (-1125899906842624) l.rs, vHi l k (t0 l + m) 1125899906842624 l.rs⟩
/-- what is checked of a log before its spans are -/
structure Good (l : Log) : Prop where
  n2 : 2 ≤ l.rs.length
  n64 : l.rs.length ≤ 64
  at0 : ∀ i, i < l.rs.length → 0 ≤ (rd l i).at_ ∧ (rd l i).at_ ≤ 1099511627776
  inc : ∀ i, i + 1 < l.rs.length → (rd l i).at_ < (rd l (i + 1)).at_
  pl : ∀ i, i < l.rs.length → okBand (rd l i).place = true
  vl : ∀ i k, i < l.rs.length → k < 4 → okBand (vals (rd l i) k) = true
  span : tn l - t0 l ≤ 2000
  dr : ∀ k, k < 4 → 0 ≤ drift l k ∧ drift l k ≤ 1048576
theorem Good.mono {l : Log} (g : Good l) : ∀ (j i : Nat), i ≤ j → j < l.rs.length → (rd l i).at_ ≤ (rd l j).at_
  | 0, i, h, _ => by have : i = 0 := by omega
                     subst this; omega
  | j + 1, i, h, hj => by
    by_cases e : i = j + 1
    · subst e; omega
    · have := g.mono j i (by omega) (by omega)
      have := g.inc j hj
      omega
theorem Good.tI {l : Log} (g : Good l) {i : Nat} (h : i < l.rs.length) : t0 l ≤ (rd l i).at_ ∧ (rd l i).at_ ≤ tn l ∧ tn l ≤ t0 l + 2000 := by
  have h1 := g.mono i 0 (by omega) h
  have h2 := g.mono (l.rs.length - 1) i (by omega) (by omega)
  have h3 := g.span
  unfold tn at *
  unfold t0 at *
  omega
theorem okBand_iff {b : Band} : okBand b = true ↔ b.lo ≤ b.hi ∧ -1073741824 ≤ b.lo ∧ b.hi ≤ 1073741824 := by
  simp [okBand, and_assoc]
theorem mul_bound {d a : Int} (h1 : 0 ≤ d) (h2 : d ≤ 1048576) (h3 : 0 ≤ a) (h4 : a ≤ 4000) : 0 ≤ d * a ∧ d * a ≤ 4194304000 := by
  refine ⟨Int.mul_nonneg h1 h3, ?_⟩
  calc d * a ≤ 1048576 * a := Int.mul_le_mul_of_nonneg_right h2 h3
    _ ≤ 1048576 * 4000 := Int.mul_le_mul_of_nonneg_left h4 (by omega)
    _ = 4194304000 := by omega
theorem fn17 (l : Log) (m : Int) (k : Nat) (g : Good l) (hm : 0 ≤ m ∧ m ≤ 2001) (hk : k < 4) :
    Sy.Fn Try.prog 17 [aLog l, iv m, iv k] (.agg (cBand (value l m k))) := by
  refine Fn_of_W mixed Xt17 rfl ?_
  have h2 := g.n2
  have h3 := g.n64
  have hdr := g.dr k hk
  have ht0 : 0 ≤ t0 l ∧ t0 l ≤ 1099511627776 := g.at0 0 (by omega)
  have c45 := fn45 l m (by omega) (by omega) (by omega) (by omega)
  repeat' (first | refine WK_go ?_ | refine W_seqL ?_ | refine W_seq ?_ | (refine W_regL ?_; simp (maxSteps := 400000) (disch := omega) only [push_cast, ↓reduceIte, reduceCtorEq, Nat.reduceAdd, Nat.reduceSub, Nat.reduceEqDiff, Nat.reduceLeDiff, Nat.reduceLT, Nat.reduceBEq, Nat.reduceDiv, Nat.reduceMod, Nat.reducePow, Nat.reduceMul, Int.reduceToNat, Int.reduceLT, Int.reduceLE]) | refine W_block ?_ | (refine W_skip ?_; simp (maxSteps := 400000) (disch := omega) only [push_cast, ↓reduceIte, reduceCtorEq, Nat.reduceAdd, Nat.reduceSub, Nat.reduceEqDiff, Nat.reduceLeDiff, Nat.reduceLT, Nat.reduceBEq, Nat.reduceDiv, Nat.reduceMod, Nat.reducePow, Nat.reduceMul, Int.reduceToNat, Int.reduceLT, Int.reduceLE]) | (refine W_exit ?_; simp (maxSteps := 400000) (disch := omega) only [push_cast, ↓reduceIte, reduceCtorEq, Nat.reduceAdd, Nat.reduceSub, Nat.reduceEqDiff, Nat.reduceLeDiff, Nat.reduceLT, Nat.reduceBEq, Nat.reduceDiv, Nat.reduceMod, Nat.reducePow, Nat.reduceMul, Int.reduceToNat, Int.reduceLT, Int.reduceLE]) | refine And.intro (by omega) ?_ | refine And.intro (by intro hq; (try simp only [Bool.and_eq_true, Bool.or_eq_true, Bool.and_eq_false_iff, Bool.or_eq_false_iff, decide_eq_true_eq, decide_eq_false_iff_not, Bool.not_eq_true', Bool.not_eq_false', beq_iff_eq, beq_eq_false_iff_ne, ne_eq] at hq); omega) ?_ | fail)
  refine W_loopU (fun i : Nat => [(8, iv i)]) (fun i => [(3, .cells [iv (vLo l k (t0 l + m) (-1125899906842624) (l.rs.take i)), iv (vHi l k (t0 l + m) 1125899906842624 (l.rs.take i))])]) (fun i => i ≤ l.rs.length) (fun i => l.rs.length - i) 0 (by omega) (by rfl) (by rfl) (fun i hi => ?_)
  simp (maxSteps := 400000) (disch := omega) only [push_cast, ↓reduceIte, reduceCtorEq, Nat.reduceAdd, Nat.reduceSub, Nat.reduceEqDiff, Nat.reduceLeDiff, Nat.reduceLT, Nat.reduceBEq, Nat.reduceDiv, Nat.reduceMod, Nat.reducePow, Nat.reduceMul, Int.reduceToNat, Int.reduceLT, Int.reduceLE]
  repeat' (first | refine WK_go ?_ | refine W_seqL ?_ | refine W_seq ?_ | (refine W_regL ?_; simp (maxSteps := 400000) (disch := omega) only [push_cast, ↓reduceIte, reduceCtorEq, Nat.reduceAdd, Nat.reduceSub, Nat.reduceEqDiff, Nat.reduceLeDiff, Nat.reduceLT, Nat.reduceBEq, Nat.reduceDiv, Nat.reduceMod, Nat.reducePow, Nat.reduceMul, Int.reduceToNat, Int.reduceLT, Int.reduceLE]) | refine W_block ?_ | (refine W_skip ?_; simp (maxSteps := 400000) (disch := omega) only [push_cast, ↓reduceIte, reduceCtorEq, Nat.reduceAdd, Nat.reduceSub, Nat.reduceEqDiff, Nat.reduceLeDiff, Nat.reduceLT, Nat.reduceBEq, Nat.reduceDiv, Nat.reduceMod, Nat.reducePow, Nat.reduceMul, Int.reduceToNat, Int.reduceLT, Int.reduceLE]) | (refine W_exit ?_; simp (maxSteps := 400000) (disch := omega) only [push_cast, ↓reduceIte, reduceCtorEq, Nat.reduceAdd, Nat.reduceSub, Nat.reduceEqDiff, Nat.reduceLeDiff, Nat.reduceLT, Nat.reduceBEq, Nat.reduceDiv, Nat.reduceMod, Nat.reducePow, Nat.reduceMul, Int.reduceToNat, Int.reduceLT, Int.reduceLE]) | refine And.intro (by omega) ?_ | refine And.intro (by intro hq; (try simp only [Bool.and_eq_true, Bool.or_eq_true, Bool.and_eq_false_iff, Bool.or_eq_false_iff, decide_eq_true_eq, decide_eq_false_iff_not, Bool.not_eq_true', Bool.not_eq_false', beq_iff_eq, beq_eq_false_iff_ne, ne_eq] at hq); omega) ?_ | fail)
  refine W_condD (by rfl) (fun h => ?_) (fun h => ?_)
  · have hlt : i < l.rs.length := by omega
    have hr : l.rs.getD i dR = rd l i := rfl
    have hti := g.tI hlt
    have hv := okBand_iff.1 (g.vl i k hlt hk)
    have haw : 0 ≤ max ((rd l i).at_ - (t0 l + m)) (t0 l + m - (rd l i).at_) ∧ max ((rd l i).at_ - (t0 l + m)) (t0 l + m - (rd l i).at_) ≤ 4000 := by omega
    have hmul := mul_bound hdr.1 hdr.2 haw.1 haw.2
    repeat' (first | refine WK_go ?_ | refine W_seqL ?_ | refine W_seq ?_ | (refine W_regL ?_; simp (maxSteps := 400000) (disch := omega) only [push_cast, ↓reduceIte, reduceCtorEq, Nat.reduceAdd, Nat.reduceSub, Nat.reduceEqDiff, Nat.reduceLeDiff, Nat.reduceLT, Nat.reduceBEq, Nat.reduceDiv, Nat.reduceMod, Nat.reducePow, Nat.reduceMul, Int.reduceToNat, Int.reduceLT, Int.reduceLE, hr]) | refine W_block ?_ | (refine W_skip ?_; simp (maxSteps := 400000) (disch := omega) only [push_cast, ↓reduceIte, reduceCtorEq, Nat.reduceAdd, Nat.reduceSub, Nat.reduceEqDiff, Nat.reduceLeDiff, Nat.reduceLT, Nat.reduceBEq, Nat.reduceDiv, Nat.reduceMod, Nat.reducePow, Nat.reduceMul, Int.reduceToNat, Int.reduceLT, Int.reduceLE, hr]) | (refine W_exit ?_; simp (maxSteps := 400000) (disch := omega) only [push_cast, ↓reduceIte, reduceCtorEq, Nat.reduceAdd, Nat.reduceSub, Nat.reduceEqDiff, Nat.reduceLeDiff, Nat.reduceLT, Nat.reduceBEq, Nat.reduceDiv, Nat.reduceMod, Nat.reducePow, Nat.reduceMul, Int.reduceToNat, Int.reduceLT, Int.reduceLE, hr]) | refine And.intro (by omega) ?_ | refine And.intro (by intro hq; (try simp only [Bool.and_eq_true, Bool.or_eq_true, Bool.and_eq_false_iff, Bool.or_eq_false_iff, decide_eq_true_eq, decide_eq_false_iff_not, Bool.not_eq_true', Bool.not_eq_false', beq_iff_eq, beq_eq_false_iff_ne, ne_eq] at hq); omega) ?_ | (refine CallC.now (c45) ?_; simp (maxSteps := 400000) (disch := omega) only [push_cast, ↓reduceIte, reduceCtorEq, Nat.reduceAdd, Nat.reduceSub, Nat.reduceEqDiff, Nat.reduceLeDiff, Nat.reduceLT, Nat.reduceBEq, Nat.reduceDiv, Nat.reduceMod, Nat.reducePow, Nat.reduceMul, Int.reduceToNat, Int.reduceLT, Int.reduceLE, hr]) | fail)
    refine ⟨i + 1, by omega, by omega, by rfl, ?_⟩
    simp (maxSteps := 400000) (disch := omega) only [push_cast, ↓reduceIte, reduceCtorEq, Nat.reduceAdd, Nat.reduceSub, Nat.reduceEqDiff, Nat.reduceLeDiff, Nat.reduceLT, Nat.reduceBEq, Nat.reduceDiv, Nat.reduceMod, Nat.reducePow, Nat.reduceMul, Int.reduceToNat, Int.reduceLT, Int.reduceLE, S.mk.injEq, List.cons.injEq, Prod.mk.injEq, AV.v.injEq, Value.int.injEq, Value.bool.injEq, Blk.cells.injEq]
    rw [take_rd l i hlt, vLo_append, vHi_append]
    exact ⟨rfl, rfl⟩
  · repeat' (first | refine WK_go ?_ | refine W_seqL ?_ | refine W_seq ?_ | (refine W_regL ?_; simp (maxSteps := 400000) (disch := omega) only [push_cast, ↓reduceIte, reduceCtorEq, Nat.reduceAdd, Nat.reduceSub, Nat.reduceEqDiff, Nat.reduceLeDiff, Nat.reduceLT, Nat.reduceBEq, Nat.reduceDiv, Nat.reduceMod, Nat.reducePow, Nat.reduceMul, Int.reduceToNat, Int.reduceLT, Int.reduceLE]) | refine W_block ?_ | (refine W_skip ?_; simp (maxSteps := 400000) (disch := omega) only [push_cast, ↓reduceIte, reduceCtorEq, Nat.reduceAdd, Nat.reduceSub, Nat.reduceEqDiff, Nat.reduceLeDiff, Nat.reduceLT, Nat.reduceBEq, Nat.reduceDiv, Nat.reduceMod, Nat.reducePow, Nat.reduceMul, Int.reduceToNat, Int.reduceLT, Int.reduceLE]) | (refine W_exit ?_; simp (maxSteps := 400000) (disch := omega) only [push_cast, ↓reduceIte, reduceCtorEq, Nat.reduceAdd, Nat.reduceSub, Nat.reduceEqDiff, Nat.reduceLeDiff, Nat.reduceLT, Nat.reduceBEq, Nat.reduceDiv, Nat.reduceMod, Nat.reducePow, Nat.reduceMul, Int.reduceToNat, Int.reduceLT, Int.reduceLE]) | refine And.intro (by omega) ?_ | refine And.intro (by intro hq; (try simp only [Bool.and_eq_true, Bool.or_eq_true, Bool.and_eq_false_iff, Bool.or_eq_false_iff, decide_eq_true_eq, decide_eq_false_iff_not, Bool.not_eq_true', Bool.not_eq_false', beq_iff_eq, beq_eq_false_iff_ne, ne_eq] at hq); omega) ?_ | fail)
    have e : i = l.rs.length := by omega
    subst e
    rw [List.take_length]
    exact W_ret ⟨[_], ⟨⟨by simp, rfl⟩, rfl⟩, rfl⟩
end Go.Proofs.Ytgijpimjfoabjaa
/- The reference's check of a log. -/
namespace Go.Proofs.Ytgijpimjfoabjaa
open Go Sy
set_option maxRecDepth 100000
set_option maxHeartbeats 4000000
set_option linter.unusedVariables false
set_option linter.unusedSimpArgs false
def okR (l : Log) (i : Nat) : Bool :=
  (decide (0 ≤ (rd l i).at_) && decide ((rd l i).at_ ≤ 1099511627776)) && !(decide (0 < i) && decide ((rd l i).at_ ≤ (rd l (i - 1)).at_)) && okBand (rd l i).place && (List.range 4).all fun k => okBand (vals (rd l i) k)
def okD4 (l : Log) : Bool := (List.range 4).all fun k => decide (0 ≤ drift l k) && decide (drift l k ≤ 1048576)
def okM (l : Log) (m : Nat) : Bool := decide ((place l m).lo ≤ (place l m).hi) && (List.range 4).all fun k => decide ((value l m k).lo ≤ (value l m k).hi)
def chkLog (l : Log) : Int :=
  if 64 < l.rs.length then 6 else if l.rs.length < 2 then 2
  else if ((List.range l.rs.length).all (okR l)) = false then 2
  else if tn l - t0 l > 2000 then 2
  else if okD4 l = false then 2
  else if ((List.range (tn l - t0 l + 1).toNat).all (okM l)) = false then 16 else 0
theorem all_range {n : Nat} {p : Nat → Bool} : (List.range n).all p = true ↔ ∀ i, i < n → p i = true := by simp
theorem not_all_range {n : Nat} {p : Nat → Bool} {i : Nat} (hi : i < n) (h : p i = false) : (List.range n).all p = false := by
  cases hc : (List.range n).all p with
  | false => rfl
  | true => rw [all_range.1 hc i hi] at h; cases h
theorem chk_bad {l : Log} (h1 : l.rs.length ≤ 64) (h2 : 2 ≤ l.rs.length) {i : Nat} (hi : i < l.rs.length) (h : okR l i = false) : chkLog l = 2 := by
  unfold chkLog
  rw [if_neg (by omega), if_neg (by omega), if_pos (not_all_range hi h)]
theorem up_all {p : Nat → Prop} {i : Nat} (h : ∀ j, j < i → p j) (hi : p i) : ∀ j, j < i + 1 → p j := fun j hj => by
  rcases Nat.lt_succ_iff_lt_or_eq.1 hj with hj | rfl
  · exact h j hj
  · exact hi
theorem fn21 (l : Log) (h3 : l.rs.length ≤ 1000000) : Sy.Fn Try.prog 21 [aLog l] (iv (chkLog l)) := by
  refine Fn_of_W mixed Xt21 rfl ?_
  repeat' (first | refine WK_go ?_ | refine W_seqL ?_ | refine W_seq ?_ | (refine W_regL ?_; simp (maxSteps := 400000) (disch := omega) only [push_cast, ↓reduceIte, reduceCtorEq, Nat.reduceAdd, Nat.reduceSub, Nat.reduceEqDiff, Nat.reduceLeDiff, Nat.reduceLT, Nat.reduceBEq, Nat.reduceDiv, Nat.reduceMod, Nat.reducePow, Nat.reduceMul, Int.reduceToNat, Int.reduceLT, Int.reduceLE]) | refine W_block ?_ | (refine W_skip ?_; simp (maxSteps := 400000) (disch := omega) only [push_cast, ↓reduceIte, reduceCtorEq, Nat.reduceAdd, Nat.reduceSub, Nat.reduceEqDiff, Nat.reduceLeDiff, Nat.reduceLT, Nat.reduceBEq, Nat.reduceDiv, Nat.reduceMod, Nat.reducePow, Nat.reduceMul, Int.reduceToNat, Int.reduceLT, Int.reduceLE]) | (refine W_exit ?_; simp (maxSteps := 400000) (disch := omega) only [push_cast, ↓reduceIte, reduceCtorEq, Nat.reduceAdd, Nat.reduceSub, Nat.reduceEqDiff, Nat.reduceLeDiff, Nat.reduceLT, Nat.reduceBEq, Nat.reduceDiv, Nat.reduceMod, Nat.reducePow, Nat.reduceMul, Int.reduceToNat, Int.reduceLT, Int.reduceLE]) | refine And.intro (by omega) ?_ | refine And.intro (by intro hq; (try simp only [Bool.and_eq_true, Bool.or_eq_true, Bool.and_eq_false_iff, Bool.or_eq_false_iff, decide_eq_true_eq, decide_eq_false_iff_not, Bool.not_eq_true', Bool.not_eq_false', beq_iff_eq, beq_eq_false_iff_ne, ne_eq] at hq); omega) ?_ | fail)
  refine W_condD (by rfl) (fun h => ?_) (fun h => ?_)
  · repeat' (first | refine WK_go ?_ | refine W_seqL ?_ | refine W_seq ?_ | (refine W_regL ?_; simp (maxSteps := 400000) (disch := omega) only [push_cast, ↓reduceIte, reduceCtorEq, Nat.reduceAdd, Nat.reduceSub, Nat.reduceEqDiff, Nat.reduceLeDiff, Nat.reduceLT, Nat.reduceBEq, Nat.reduceDiv, Nat.reduceMod, Nat.reducePow, Nat.reduceMul, Int.reduceToNat, Int.reduceLT, Int.reduceLE]) | refine W_block ?_ | (refine W_skip ?_; simp (maxSteps := 400000) (disch := omega) only [push_cast, ↓reduceIte, reduceCtorEq, Nat.reduceAdd, Nat.reduceSub, Nat.reduceEqDiff, Nat.reduceLeDiff, Nat.reduceLT, Nat.reduceBEq, Nat.reduceDiv, Nat.reduceMod, Nat.reducePow, Nat.reduceMul, Int.reduceToNat, Int.reduceLT, Int.reduceLE]) | (refine W_exit ?_; simp (maxSteps := 400000) (disch := omega) only [push_cast, ↓reduceIte, reduceCtorEq, Nat.reduceAdd, Nat.reduceSub, Nat.reduceEqDiff, Nat.reduceLeDiff, Nat.reduceLT, Nat.reduceBEq, Nat.reduceDiv, Nat.reduceMod, Nat.reducePow, Nat.reduceMul, Int.reduceToNat, Int.reduceLT, Int.reduceLE]) | refine And.intro (by omega) ?_ | refine And.intro (by intro hq; (try simp only [Bool.and_eq_true, Bool.or_eq_true, Bool.and_eq_false_iff, Bool.or_eq_false_iff, decide_eq_true_eq, decide_eq_false_iff_not, Bool.not_eq_true', Bool.not_eq_false', beq_iff_eq, beq_eq_false_iff_ne, ne_eq] at hq); omega) ?_ | fail)
    exact W_ret ⟨[_], ⟨rfl, rfl⟩, by unfold chkLog; rw [if_pos (by omega)]; rfl⟩
  repeat' (first | refine WK_go ?_ | refine W_seqL ?_ | refine W_seq ?_ | (refine W_regL ?_; simp (maxSteps := 400000) (disch := omega) only [push_cast, ↓reduceIte, reduceCtorEq, Nat.reduceAdd, Nat.reduceSub, Nat.reduceEqDiff, Nat.reduceLeDiff, Nat.reduceLT, Nat.reduceBEq, Nat.reduceDiv, Nat.reduceMod, Nat.reducePow, Nat.reduceMul, Int.reduceToNat, Int.reduceLT, Int.reduceLE]) | refine W_block ?_ | (refine W_skip ?_; simp (maxSteps := 400000) (disch := omega) only [push_cast, ↓reduceIte, reduceCtorEq, Nat.reduceAdd, Nat.reduceSub, Nat.reduceEqDiff, Nat.reduceLeDiff, Nat.reduceLT, Nat.reduceBEq, Nat.reduceDiv, Nat.reduceMod, Nat.reducePow, Nat.reduceMul, Int.reduceToNat, Int.reduceLT, Int.reduceLE]) | (refine W_exit ?_; simp (maxSteps := 400000) (disch := omega) only [push_cast, ↓reduceIte, reduceCtorEq, Nat.reduceAdd, Nat.reduceSub, Nat.reduceEqDiff, Nat.reduceLeDiff, Nat.reduceLT, Nat.reduceBEq, Nat.reduceDiv, Nat.reduceMod, Nat.reducePow, Nat.reduceMul, Int.reduceToNat, Int.reduceLT, Int.reduceLE]) | refine And.intro (by omega) ?_ | refine And.intro (by intro hq; (try simp only [Bool.and_eq_true, Bool.or_eq_true, Bool.and_eq_false_iff, Bool.or_eq_false_iff, decide_eq_true_eq, decide_eq_false_iff_not, Bool.not_eq_true', Bool.not_eq_false', beq_iff_eq, beq_eq_false_iff_ne, ne_eq] at hq); omega) ?_ | fail)
  refine W_condD (by rfl) (fun h' => ?_) (fun h' => ?_)
  · repeat' (first | refine WK_go ?_ | refine W_seqL ?_ | refine W_seq ?_ | (refine W_regL ?_; simp (maxSteps := 400000) (disch := omega) only [push_cast, ↓reduceIte, reduceCtorEq, Nat.reduceAdd, Nat.reduceSub, Nat.reduceEqDiff, Nat.reduceLeDiff, Nat.reduceLT, Nat.reduceBEq, Nat.reduceDiv, Nat.reduceMod, Nat.reducePow, Nat.reduceMul, Int.reduceToNat, Int.reduceLT, Int.reduceLE]) | refine W_block ?_ | (refine W_skip ?_; simp (maxSteps := 400000) (disch := omega) only [push_cast, ↓reduceIte, reduceCtorEq, Nat.reduceAdd, Nat.reduceSub, Nat.reduceEqDiff, Nat.reduceLeDiff, Nat.reduceLT, Nat.reduceBEq, Nat.reduceDiv, Nat.reduceMod, Nat.reducePow, Nat.reduceMul, Int.reduceToNat, Int.reduceLT, Int.reduceLE]) | (refine W_exit ?_; simp (maxSteps := 400000) (disch := omega) only [push_cast, ↓reduceIte, reduceCtorEq, Nat.reduceAdd, Nat.reduceSub, Nat.reduceEqDiff, Nat.reduceLeDiff, Nat.reduceLT, Nat.reduceBEq, Nat.reduceDiv, Nat.reduceMod, Nat.reducePow, Nat.reduceMul, Int.reduceToNat, Int.reduceLT, Int.reduceLE]) | refine And.intro (by omega) ?_ | refine And.intro (by intro hq; (try simp only [Bool.and_eq_true, Bool.or_eq_true, Bool.and_eq_false_iff, Bool.or_eq_false_iff, decide_eq_true_eq, decide_eq_false_iff_not, Bool.not_eq_true', Bool.not_eq_false', beq_iff_eq, beq_eq_false_iff_ne, ne_eq] at hq); omega) ?_ | fail)
    exact W_ret ⟨[_], ⟨rfl, rfl⟩, by unfold chkLog; rw [if_neg (by omega), if_pos (by omega)]; rfl⟩
  have hn64 : l.rs.length ≤ 64 := by omega
  have hn2 : 2 ≤ l.rs.length := by omega
  clear h h'
  refine W_skip ?_
  simp (maxSteps := 400000) (disch := omega) only [push_cast, ↓reduceIte, reduceCtorEq, Nat.reduceAdd, Nat.reduceSub, Nat.reduceEqDiff, Nat.reduceLeDiff, Nat.reduceLT, Nat.reduceBEq, Nat.reduceDiv, Nat.reduceMod, Nat.reducePow, Nat.reduceMul, Int.reduceToNat, Int.reduceLT, Int.reduceLE]
  refine WK_go (W_seqL (W_meetF [] [] (∀ j, j < l.rs.length → okR l j = true) ?_ (fun hR => ?_)))
  · repeat' (first | refine WK_go ?_ | refine W_seqL ?_ | refine W_seq ?_ | (refine W_regL ?_; simp (maxSteps := 400000) (disch := omega) only [push_cast, ↓reduceIte, reduceCtorEq, Nat.reduceAdd, Nat.reduceSub, Nat.reduceEqDiff, Nat.reduceLeDiff, Nat.reduceLT, Nat.reduceBEq, Nat.reduceDiv, Nat.reduceMod, Nat.reducePow, Nat.reduceMul, Int.reduceToNat, Int.reduceLT, Int.reduceLE]) | refine W_block ?_ | (refine W_skip ?_; simp (maxSteps := 400000) (disch := omega) only [push_cast, ↓reduceIte, reduceCtorEq, Nat.reduceAdd, Nat.reduceSub, Nat.reduceEqDiff, Nat.reduceLeDiff, Nat.reduceLT, Nat.reduceBEq, Nat.reduceDiv, Nat.reduceMod, Nat.reducePow, Nat.reduceMul, Int.reduceToNat, Int.reduceLT, Int.reduceLE]) | (refine W_exit ?_; simp (maxSteps := 400000) (disch := omega) only [push_cast, ↓reduceIte, reduceCtorEq, Nat.reduceAdd, Nat.reduceSub, Nat.reduceEqDiff, Nat.reduceLeDiff, Nat.reduceLT, Nat.reduceBEq, Nat.reduceDiv, Nat.reduceMod, Nat.reducePow, Nat.reduceMul, Int.reduceToNat, Int.reduceLT, Int.reduceLE]) | refine And.intro (by omega) ?_ | refine And.intro (by intro hq; (try simp only [Bool.and_eq_true, Bool.or_eq_true, Bool.and_eq_false_iff, Bool.or_eq_false_iff, decide_eq_true_eq, decide_eq_false_iff_not, Bool.not_eq_true', Bool.not_eq_false', beq_iff_eq, beq_eq_false_iff_ne, ne_eq] at hq); omega) ?_ | fail)
    refine W_loopU (fun i : Nat => [(4, iv i)]) (fun i => []) (fun i => i ≤ l.rs.length ∧ ∀ j, j < i → okR l j = true) (fun i => l.rs.length - i) 0 ⟨by omega, fun j hj => by omega⟩ (by rfl) (by rfl) (fun i hi => ?_)
    obtain ⟨hi, hok⟩ := hi
    simp (maxSteps := 400000) (disch := omega) only [push_cast, ↓reduceIte, reduceCtorEq, Nat.reduceAdd, Nat.reduceSub, Nat.reduceEqDiff, Nat.reduceLeDiff, Nat.reduceLT, Nat.reduceBEq, Nat.reduceDiv, Nat.reduceMod, Nat.reducePow, Nat.reduceMul, Int.reduceToNat, Int.reduceLT, Int.reduceLE]
    repeat' (first | refine WK_go ?_ | refine W_seqL ?_ | refine W_seq ?_ | (refine W_regL ?_; simp (maxSteps := 400000) (disch := omega) only [push_cast, ↓reduceIte, reduceCtorEq, Nat.reduceAdd, Nat.reduceSub, Nat.reduceEqDiff, Nat.reduceLeDiff, Nat.reduceLT, Nat.reduceBEq, Nat.reduceDiv, Nat.reduceMod, Nat.reducePow, Nat.reduceMul, Int.reduceToNat, Int.reduceLT, Int.reduceLE]) | refine W_block ?_ | (refine W_skip ?_; simp (maxSteps := 400000) (disch := omega) only [push_cast, ↓reduceIte, reduceCtorEq, Nat.reduceAdd, Nat.reduceSub, Nat.reduceEqDiff, Nat.reduceLeDiff, Nat.reduceLT, Nat.reduceBEq, Nat.reduceDiv, Nat.reduceMod, Nat.reducePow, Nat.reduceMul, Int.reduceToNat, Int.reduceLT, Int.reduceLE]) | (refine W_exit ?_; simp (maxSteps := 400000) (disch := omega) only [push_cast, ↓reduceIte, reduceCtorEq, Nat.reduceAdd, Nat.reduceSub, Nat.reduceEqDiff, Nat.reduceLeDiff, Nat.reduceLT, Nat.reduceBEq, Nat.reduceDiv, Nat.reduceMod, Nat.reducePow, Nat.reduceMul, Int.reduceToNat, Int.reduceLT, Int.reduceLE]) | refine And.intro (by omega) ?_ | refine And.intro (by intro hq; (try simp only [Bool.and_eq_true, Bool.or_eq_true, Bool.and_eq_false_iff, Bool.or_eq_false_iff, decide_eq_true_eq, decide_eq_false_iff_not, Bool.not_eq_true', Bool.not_eq_false', beq_iff_eq, beq_eq_false_iff_ne, ne_eq] at hq); omega) ?_ | fail)
    refine W_condD (by rfl) (fun h => ?_) (fun h => ?_)
    · have hlt : i < l.rs.length := by omega
      have hr : l.rs.getD i dR = rd l i := rfl
      have e1 : l.rs.getD ((i : Int) - 1).toNat dR = rd l (i - 1) := by rw [show ((i : Int) - 1).toNat = i - 1 by omega]; rfl
      have e2 : decide (0 < (i : Int)) = decide (0 < i) := by simp
      repeat' (first | refine WK_go ?_ | refine W_seqL ?_ | refine W_seq ?_ | (refine W_regL ?_; simp (maxSteps := 400000) (disch := omega) only [push_cast, ↓reduceIte, reduceCtorEq, Nat.reduceAdd, Nat.reduceSub, Nat.reduceEqDiff, Nat.reduceLeDiff, Nat.reduceLT, Nat.reduceBEq, Nat.reduceDiv, Nat.reduceMod, Nat.reducePow, Nat.reduceMul, Int.reduceToNat, Int.reduceLT, Int.reduceLE, hr, e1, e2]) | refine W_block ?_ | (refine W_skip ?_; simp (maxSteps := 400000) (disch := omega) only [push_cast, ↓reduceIte, reduceCtorEq, Nat.reduceAdd, Nat.reduceSub, Nat.reduceEqDiff, Nat.reduceLeDiff, Nat.reduceLT, Nat.reduceBEq, Nat.reduceDiv, Nat.reduceMod, Nat.reducePow, Nat.reduceMul, Int.reduceToNat, Int.reduceLT, Int.reduceLE, hr, e1, e2]) | (refine W_exit ?_; simp (maxSteps := 400000) (disch := omega) only [push_cast, ↓reduceIte, reduceCtorEq, Nat.reduceAdd, Nat.reduceSub, Nat.reduceEqDiff, Nat.reduceLeDiff, Nat.reduceLT, Nat.reduceBEq, Nat.reduceDiv, Nat.reduceMod, Nat.reducePow, Nat.reduceMul, Int.reduceToNat, Int.reduceLT, Int.reduceLE, hr, e1, e2]) | refine And.intro (by omega) ?_ | refine And.intro (by intro hq; (try simp only [Bool.and_eq_true, Bool.or_eq_true, Bool.and_eq_false_iff, Bool.or_eq_false_iff, decide_eq_true_eq, decide_eq_false_iff_not, Bool.not_eq_true', Bool.not_eq_false', beq_iff_eq, beq_eq_false_iff_ne, ne_eq] at hq); omega) ?_ | (refine CallC.now (fn50 _ _ _) ?_; simp (maxSteps := 400000) (disch := omega) only [push_cast, ↓reduceIte, reduceCtorEq, Nat.reduceAdd, Nat.reduceSub, Nat.reduceEqDiff, Nat.reduceLeDiff, Nat.reduceLT, Nat.reduceBEq, Nat.reduceDiv, Nat.reduceMod, Nat.reducePow, Nat.reduceMul, Int.reduceToNat, Int.reduceLT, Int.reduceLE, hr, e1, e2]) | (refine CallC.go _ (fun _ => ⟨trivial, fn52 _⟩) rfl ?_; simp (maxSteps := 400000) (disch := omega) only [push_cast, ↓reduceIte, reduceCtorEq, Nat.reduceAdd, Nat.reduceSub, Nat.reduceEqDiff, Nat.reduceLeDiff, Nat.reduceLT, Nat.reduceBEq, Nat.reduceDiv, Nat.reduceMod, Nat.reducePow, Nat.reduceMul, Int.reduceToNat, Int.reduceLT, Int.reduceLE, hr, e1, e2]) | fail)
      generalize hx1 : (decide (0 ≤ (rd l i).at_) && decide ((rd l i).at_ ≤ 1099511627776)) = x1
      generalize hx2 : (decide (0 < i) && decide ((rd l i).at_ ≤ (rd l (i - 1)).at_)) = x2
      generalize hx3 : okBand (rd l i).place = x3
      refine W_cond (by rfl) (fun hb => ?_) (fun hb => ?_)
      · repeat' (first | refine WK_go ?_ | refine W_seqL ?_ | refine W_seq ?_ | (refine W_regL ?_; simp (maxSteps := 400000) (disch := omega) only [push_cast, ↓reduceIte, reduceCtorEq, Nat.reduceAdd, Nat.reduceSub, Nat.reduceEqDiff, Nat.reduceLeDiff, Nat.reduceLT, Nat.reduceBEq, Nat.reduceDiv, Nat.reduceMod, Nat.reducePow, Nat.reduceMul, Int.reduceToNat, Int.reduceLT, Int.reduceLE]) | refine W_block ?_ | (refine W_skip ?_; simp (maxSteps := 400000) (disch := omega) only [push_cast, ↓reduceIte, reduceCtorEq, Nat.reduceAdd, Nat.reduceSub, Nat.reduceEqDiff, Nat.reduceLeDiff, Nat.reduceLT, Nat.reduceBEq, Nat.reduceDiv, Nat.reduceMod, Nat.reducePow, Nat.reduceMul, Int.reduceToNat, Int.reduceLT, Int.reduceLE]) | (refine W_exit ?_; simp (maxSteps := 400000) (disch := omega) only [push_cast, ↓reduceIte, reduceCtorEq, Nat.reduceAdd, Nat.reduceSub, Nat.reduceEqDiff, Nat.reduceLeDiff, Nat.reduceLT, Nat.reduceBEq, Nat.reduceDiv, Nat.reduceMod, Nat.reducePow, Nat.reduceMul, Int.reduceToNat, Int.reduceLT, Int.reduceLE]) | refine And.intro (by omega) ?_ | refine And.intro (by intro hq; (try simp only [Bool.and_eq_true, Bool.or_eq_true, Bool.and_eq_false_iff, Bool.or_eq_false_iff, decide_eq_true_eq, decide_eq_false_iff_not, Bool.not_eq_true', Bool.not_eq_false', beq_iff_eq, beq_eq_false_iff_ne, ne_eq] at hq); omega) ?_ | fail)
        have hbad : okR l i = false := by
          unfold okR
          rw [hx1, hx2, hx3]
          revert hb
          cases x1 <;> cases x2 <;> cases x3 <;> simp
        exact W_ret ⟨[_], ⟨rfl, rfl⟩, by rw [chk_bad hn64 hn2 hlt hbad]; rfl⟩
      have hgood : (x1 && !x2 && x3) = true := by
        revert hb
        cases x1 <;> cases x2 <;> cases x3 <;> simp
      clear hb
      repeat' (first | refine WK_go ?_ | refine W_seqL ?_ | refine W_seq ?_ | (refine W_regL ?_; simp (maxSteps := 400000) (disch := omega) only [push_cast, ↓reduceIte, reduceCtorEq, Nat.reduceAdd, Nat.reduceSub, Nat.reduceEqDiff, Nat.reduceLeDiff, Nat.reduceLT, Nat.reduceBEq, Nat.reduceDiv, Nat.reduceMod, Nat.reducePow, Nat.reduceMul, Int.reduceToNat, Int.reduceLT, Int.reduceLE]) | refine W_block ?_ | (refine W_skip ?_; simp (maxSteps := 400000) (disch := omega) only [push_cast, ↓reduceIte, reduceCtorEq, Nat.reduceAdd, Nat.reduceSub, Nat.reduceEqDiff, Nat.reduceLeDiff, Nat.reduceLT, Nat.reduceBEq, Nat.reduceDiv, Nat.reduceMod, Nat.reducePow, Nat.reduceMul, Int.reduceToNat, Int.reduceLT, Int.reduceLE]) | (refine W_exit ?_; simp (maxSteps := 400000) (disch := omega) only [push_cast, ↓reduceIte, reduceCtorEq, Nat.reduceAdd, Nat.reduceSub, Nat.reduceEqDiff, Nat.reduceLeDiff, Nat.reduceLT, Nat.reduceBEq, Nat.reduceDiv, Nat.reduceMod, Nat.reducePow, Nat.reduceMul, Int.reduceToNat, Int.reduceLT, Int.reduceLE]) | refine And.intro (by omega) ?_ | refine And.intro (by intro hq; (try simp only [Bool.and_eq_true, Bool.or_eq_true, Bool.and_eq_false_iff, Bool.or_eq_false_iff, decide_eq_true_eq, decide_eq_false_iff_not, Bool.not_eq_true', Bool.not_eq_false', beq_iff_eq, beq_eq_false_iff_ne, ne_eq] at hq); omega) ?_ | fail)
      refine W_loopU (fun k : Nat => [(6, iv k)]) (fun k => []) (fun k => k ≤ 4 ∧ ∀ j, j < k → okBand (vals (rd l i) j) = true) (fun k => 4 - k) 0 ⟨by omega, fun j hj => by omega⟩ (by rfl) (by rfl) (fun k hk => ?_)
      obtain ⟨hk, hokk⟩ := hk
      simp (maxSteps := 400000) (disch := omega) only [push_cast, ↓reduceIte, reduceCtorEq, Nat.reduceAdd, Nat.reduceSub, Nat.reduceEqDiff, Nat.reduceLeDiff, Nat.reduceLT, Nat.reduceBEq, Nat.reduceDiv, Nat.reduceMod, Nat.reducePow, Nat.reduceMul, Int.reduceToNat, Int.reduceLT, Int.reduceLE]
      repeat' (first | refine WK_go ?_ | refine W_seqL ?_ | refine W_seq ?_ | (refine W_regL ?_; simp (maxSteps := 400000) (disch := omega) only [push_cast, ↓reduceIte, reduceCtorEq, Nat.reduceAdd, Nat.reduceSub, Nat.reduceEqDiff, Nat.reduceLeDiff, Nat.reduceLT, Nat.reduceBEq, Nat.reduceDiv, Nat.reduceMod, Nat.reducePow, Nat.reduceMul, Int.reduceToNat, Int.reduceLT, Int.reduceLE]) | refine W_block ?_ | (refine W_skip ?_; simp (maxSteps := 400000) (disch := omega) only [push_cast, ↓reduceIte, reduceCtorEq, Nat.reduceAdd, Nat.reduceSub, Nat.reduceEqDiff, Nat.reduceLeDiff, Nat.reduceLT, Nat.reduceBEq, Nat.reduceDiv, Nat.reduceMod, Nat.reducePow, Nat.reduceMul, Int.reduceToNat, Int.reduceLT, Int.reduceLE]) | (refine W_exit ?_; simp (maxSteps := 400000) (disch := omega) only [push_cast, ↓reduceIte, reduceCtorEq, Nat.reduceAdd, Nat.reduceSub, Nat.reduceEqDiff, Nat.reduceLeDiff, Nat.reduceLT, Nat.reduceBEq, Nat.reduceDiv, Nat.reduceMod, Nat.reducePow, Nat.reduceMul, Int.reduceToNat, Int.reduceLT, Int.reduceLE]) | refine And.intro (by omega) ?_ | refine And.intro (by intro hq; (try simp only [Bool.and_eq_true, Bool.or_eq_true, Bool.and_eq_false_iff, Bool.or_eq_false_iff, decide_eq_true_eq, decide_eq_false_iff_not, Bool.not_eq_true', Bool.not_eq_false', beq_iff_eq, beq_eq_false_iff_ne, ne_eq] at hq); omega) ?_ | fail)
      refine W_condD (by rfl) (fun h => ?_) (fun h => ?_)
      · have hk4 : k < 4 := by omega
        repeat' (first | refine WK_go ?_ | refine W_seqL ?_ | refine W_seq ?_ | (refine W_regL ?_; simp (maxSteps := 400000) (disch := omega) only [push_cast, ↓reduceIte, reduceCtorEq, Nat.reduceAdd, Nat.reduceSub, Nat.reduceEqDiff, Nat.reduceLeDiff, Nat.reduceLT, Nat.reduceBEq, Nat.reduceDiv, Nat.reduceMod, Nat.reducePow, Nat.reduceMul, Int.reduceToNat, Int.reduceLT, Int.reduceLE]) | refine W_block ?_ | (refine W_skip ?_; simp (maxSteps := 400000) (disch := omega) only [push_cast, ↓reduceIte, reduceCtorEq, Nat.reduceAdd, Nat.reduceSub, Nat.reduceEqDiff, Nat.reduceLeDiff, Nat.reduceLT, Nat.reduceBEq, Nat.reduceDiv, Nat.reduceMod, Nat.reducePow, Nat.reduceMul, Int.reduceToNat, Int.reduceLT, Int.reduceLE]) | (refine W_exit ?_; simp (maxSteps := 400000) (disch := omega) only [push_cast, ↓reduceIte, reduceCtorEq, Nat.reduceAdd, Nat.reduceSub, Nat.reduceEqDiff, Nat.reduceLeDiff, Nat.reduceLT, Nat.reduceBEq, Nat.reduceDiv, Nat.reduceMod, Nat.reducePow, Nat.reduceMul, Int.reduceToNat, Int.reduceLT, Int.reduceLE]) | refine And.intro (by omega) ?_ | refine And.intro (by intro hq; (try simp only [Bool.and_eq_true, Bool.or_eq_true, Bool.and_eq_false_iff, Bool.or_eq_false_iff, decide_eq_true_eq, decide_eq_false_iff_not, Bool.not_eq_true', Bool.not_eq_false', beq_iff_eq, beq_eq_false_iff_ne, ne_eq] at hq); omega) ?_ | (refine CallC.now (fn52 _) ?_; simp (maxSteps := 400000) (disch := omega) only [push_cast, ↓reduceIte, reduceCtorEq, Nat.reduceAdd, Nat.reduceSub, Nat.reduceEqDiff, Nat.reduceLeDiff, Nat.reduceLT, Nat.reduceBEq, Nat.reduceDiv, Nat.reduceMod, Nat.reducePow, Nat.reduceMul, Int.reduceToNat, Int.reduceLT, Int.reduceLE]) | fail)
        refine W_cond (by rfl) (fun hb => ?_) (fun hb => ?_)
        · repeat' (first | refine WK_go ?_ | refine W_seqL ?_ | refine W_seq ?_ | (refine W_regL ?_; simp (maxSteps := 400000) (disch := omega) only [push_cast, ↓reduceIte, reduceCtorEq, Nat.reduceAdd, Nat.reduceSub, Nat.reduceEqDiff, Nat.reduceLeDiff, Nat.reduceLT, Nat.reduceBEq, Nat.reduceDiv, Nat.reduceMod, Nat.reducePow, Nat.reduceMul, Int.reduceToNat, Int.reduceLT, Int.reduceLE]) | refine W_block ?_ | (refine W_skip ?_; simp (maxSteps := 400000) (disch := omega) only [push_cast, ↓reduceIte, reduceCtorEq, Nat.reduceAdd, Nat.reduceSub, Nat.reduceEqDiff, Nat.reduceLeDiff, Nat.reduceLT, Nat.reduceBEq, Nat.reduceDiv, Nat.reduceMod, Nat.reducePow, Nat.reduceMul, Int.reduceToNat, Int.reduceLT, Int.reduceLE]) | (refine W_exit ?_; simp (maxSteps := 400000) (disch := omega) only [push_cast, ↓reduceIte, reduceCtorEq, Nat.reduceAdd, Nat.reduceSub, Nat.reduceEqDiff, Nat.reduceLeDiff, Nat.reduceLT, Nat.reduceBEq, Nat.reduceDiv, Nat.reduceMod, Nat.reducePow, Nat.reduceMul, Int.reduceToNat, Int.reduceLT, Int.reduceLE]) | refine And.intro (by omega) ?_ | refine And.intro (by intro hq; (try simp only [Bool.and_eq_true, Bool.or_eq_true, Bool.and_eq_false_iff, Bool.or_eq_false_iff, decide_eq_true_eq, decide_eq_false_iff_not, Bool.not_eq_true', Bool.not_eq_false', beq_iff_eq, beq_eq_false_iff_ne, ne_eq] at hq); omega) ?_ | fail)
          have hbad : okR l i = false := by
            unfold okR
            rw [not_all_range hk4 (by simpa using hb), Bool.and_false]
          exact W_ret ⟨[_], ⟨rfl, rfl⟩, by rw [chk_bad hn64 hn2 hlt hbad]; rfl⟩
        repeat' (first | refine WK_go ?_ | refine W_seqL ?_ | refine W_seq ?_ | (refine W_regL ?_; simp (maxSteps := 400000) (disch := omega) only [push_cast, ↓reduceIte, reduceCtorEq, Nat.reduceAdd, Nat.reduceSub, Nat.reduceEqDiff, Nat.reduceLeDiff, Nat.reduceLT, Nat.reduceBEq, Nat.reduceDiv, Nat.reduceMod, Nat.reducePow, Nat.reduceMul, Int.reduceToNat, Int.reduceLT, Int.reduceLE]) | refine W_block ?_ | (refine W_skip ?_; simp (maxSteps := 400000) (disch := omega) only [push_cast, ↓reduceIte, reduceCtorEq, Nat.reduceAdd, Nat.reduceSub, Nat.reduceEqDiff, Nat.reduceLeDiff, Nat.reduceLT, Nat.reduceBEq, Nat.reduceDiv, Nat.reduceMod, Nat.reducePow, Nat.reduceMul, Int.reduceToNat, Int.reduceLT, Int.reduceLE]) | (refine W_exit ?_; simp (maxSteps := 400000) (disch := omega) only [push_cast, ↓reduceIte, reduceCtorEq, Nat.reduceAdd, Nat.reduceSub, Nat.reduceEqDiff, Nat.reduceLeDiff, Nat.reduceLT, Nat.reduceBEq, Nat.reduceDiv, Nat.reduceMod, Nat.reducePow, Nat.reduceMul, Int.reduceToNat, Int.reduceLT, Int.reduceLE]) | refine And.intro (by omega) ?_ | refine And.intro (by intro hq; (try simp only [Bool.and_eq_true, Bool.or_eq_true, Bool.and_eq_false_iff, Bool.or_eq_false_iff, decide_eq_true_eq, decide_eq_false_iff_not, Bool.not_eq_true', Bool.not_eq_false', beq_iff_eq, beq_eq_false_iff_ne, ne_eq] at hq); omega) ?_ | fail)
        refine ⟨k + 1, ⟨by omega, up_all hokk (by simpa using hb)⟩, by omega, by rfl, ?_⟩
        simp (maxSteps := 400000) (disch := omega) only [push_cast, ↓reduceIte, reduceCtorEq, Nat.reduceAdd, Nat.reduceSub, Nat.reduceEqDiff, Nat.reduceLeDiff, Nat.reduceLT, Nat.reduceBEq, Nat.reduceDiv, Nat.reduceMod, Nat.reducePow, Nat.reduceMul, Int.reduceToNat, Int.reduceLT, Int.reduceLE, S.mk.injEq, List.cons.injEq, Prod.mk.injEq, AV.v.injEq, Value.int.injEq, Value.bool.injEq, Blk.cells.injEq]
      · repeat' (first | refine WK_go ?_ | refine W_seqL ?_ | refine W_seq ?_ | (refine W_regL ?_; simp (maxSteps := 400000) (disch := omega) only [push_cast, ↓reduceIte, reduceCtorEq, Nat.reduceAdd, Nat.reduceSub, Nat.reduceEqDiff, Nat.reduceLeDiff, Nat.reduceLT, Nat.reduceBEq, Nat.reduceDiv, Nat.reduceMod, Nat.reducePow, Nat.reduceMul, Int.reduceToNat, Int.reduceLT, Int.reduceLE]) | refine W_block ?_ | (refine W_skip ?_; simp (maxSteps := 400000) (disch := omega) only [push_cast, ↓reduceIte, reduceCtorEq, Nat.reduceAdd, Nat.reduceSub, Nat.reduceEqDiff, Nat.reduceLeDiff, Nat.reduceLT, Nat.reduceBEq, Nat.reduceDiv, Nat.reduceMod, Nat.reducePow, Nat.reduceMul, Int.reduceToNat, Int.reduceLT, Int.reduceLE]) | (refine W_exit ?_; simp (maxSteps := 400000) (disch := omega) only [push_cast, ↓reduceIte, reduceCtorEq, Nat.reduceAdd, Nat.reduceSub, Nat.reduceEqDiff, Nat.reduceLeDiff, Nat.reduceLT, Nat.reduceBEq, Nat.reduceDiv, Nat.reduceMod, Nat.reducePow, Nat.reduceMul, Int.reduceToNat, Int.reduceLT, Int.reduceLE]) | refine And.intro (by omega) ?_ | refine And.intro (by intro hq; (try simp only [Bool.and_eq_true, Bool.or_eq_true, Bool.and_eq_false_iff, Bool.or_eq_false_iff, decide_eq_true_eq, decide_eq_false_iff_not, Bool.not_eq_true', Bool.not_eq_false', beq_iff_eq, beq_eq_false_iff_ne, ne_eq] at hq); omega) ?_ | fail)
        refine ⟨i + 1, ⟨by omega, up_all hok ?_⟩, by omega, by rfl, ?_⟩
        · unfold okR
          rw [hx1, hx2, hx3, hgood, all_range.2 (fun j hj => hokk j (by omega))]; rfl
        · simp (maxSteps := 400000) (disch := omega) only [push_cast, ↓reduceIte, reduceCtorEq, Nat.reduceAdd, Nat.reduceSub, Nat.reduceEqDiff, Nat.reduceLeDiff, Nat.reduceLT, Nat.reduceBEq, Nat.reduceDiv, Nat.reduceMod, Nat.reducePow, Nat.reduceMul, Int.reduceToNat, Int.reduceLT, Int.reduceLE, S.mk.injEq, List.cons.injEq, Prod.mk.injEq, AV.v.injEq, Value.int.injEq, Value.bool.injEq, Blk.cells.injEq]
    · repeat' (first | refine WK_go ?_ | refine W_seqL ?_ | refine W_seq ?_ | (refine W_regL ?_; simp (maxSteps := 400000) (disch := omega) only [push_cast, ↓reduceIte, reduceCtorEq, Nat.reduceAdd, Nat.reduceSub, Nat.reduceEqDiff, Nat.reduceLeDiff, Nat.reduceLT, Nat.reduceBEq, Nat.reduceDiv, Nat.reduceMod, Nat.reducePow, Nat.reduceMul, Int.reduceToNat, Int.reduceLT, Int.reduceLE]) | refine W_block ?_ | (refine W_skip ?_; simp (maxSteps := 400000) (disch := omega) only [push_cast, ↓reduceIte, reduceCtorEq, Nat.reduceAdd, Nat.reduceSub, Nat.reduceEqDiff, Nat.reduceLeDiff, Nat.reduceLT, Nat.reduceBEq, Nat.reduceDiv, Nat.reduceMod, Nat.reducePow, Nat.reduceMul, Int.reduceToNat, Int.reduceLT, Int.reduceLE]) | (refine W_exit ?_; simp (maxSteps := 400000) (disch := omega) only [push_cast, ↓reduceIte, reduceCtorEq, Nat.reduceAdd, Nat.reduceSub, Nat.reduceEqDiff, Nat.reduceLeDiff, Nat.reduceLT, Nat.reduceBEq, Nat.reduceDiv, Nat.reduceMod, Nat.reducePow, Nat.reduceMul, Int.reduceToNat, Int.reduceLT, Int.reduceLE]) | refine And.intro (by omega) ?_ | refine And.intro (by intro hq; (try simp only [Bool.and_eq_true, Bool.or_eq_true, Bool.and_eq_false_iff, Bool.or_eq_false_iff, decide_eq_true_eq, decide_eq_false_iff_not, Bool.not_eq_true', Bool.not_eq_false', beq_iff_eq, beq_eq_false_iff_ne, ne_eq] at hq); omega) ?_ | fail)
      refine ⟨fun j hj => hok j (by omega), ?_⟩
      (first | rfl | exact ⟨by rfl, by rfl⟩ | (refine ⟨by rfl, ?_⟩; simp (maxSteps := 400000) (disch := omega) only [push_cast, ↓reduceIte, reduceCtorEq, Nat.reduceAdd, Nat.reduceSub, Nat.reduceEqDiff, Nat.reduceLeDiff, Nat.reduceLT, Nat.reduceBEq, Nat.reduceDiv, Nat.reduceMod, Nat.reducePow, Nat.reduceMul, Int.reduceToNat, Int.reduceLT, Int.reduceLE, S.mk.injEq, List.cons.injEq, Prod.mk.injEq, AV.v.injEq, Value.int.injEq, Value.bool.injEq, Blk.cells.injEq]))
  have e1 : ((l.rs.length : Int) - 1).toNat = l.rs.length - 1 := by omega
  have hat : ∀ j, j < l.rs.length → 0 ≤ (rd l j).at_ ∧ (rd l j).at_ ≤ 1099511627776 := fun j hj => by
    have := hR j hj
    simp only [okR, Bool.and_eq_true, decide_eq_true_eq] at this
    exact this.1.1.1
  have htn : l.rs.getD (l.rs.length - 1) dR = rd l (l.rs.length - 1) := rfl
  have ht0 : l.rs.getD 0 dR = rd l 0 := rfl
  have b1 := hat (l.rs.length - 1) (by omega)
  have b2 := hat 0 (by omega)
  simp (maxSteps := 400000) (disch := omega) only [push_cast, ↓reduceIte, reduceCtorEq, Nat.reduceAdd, Nat.reduceSub, Nat.reduceEqDiff, Nat.reduceLeDiff, Nat.reduceLT, Nat.reduceBEq, Nat.reduceDiv, Nat.reduceMod, Nat.reducePow, Nat.reduceMul, Int.reduceToNat, Int.reduceLT, Int.reduceLE]
  repeat' (first | refine WK_go ?_ | refine W_seqL ?_ | refine W_seq ?_ | (refine W_regL ?_; simp (maxSteps := 400000) (disch := omega) only [push_cast, ↓reduceIte, reduceCtorEq, Nat.reduceAdd, Nat.reduceSub, Nat.reduceEqDiff, Nat.reduceLeDiff, Nat.reduceLT, Nat.reduceBEq, Nat.reduceDiv, Nat.reduceMod, Nat.reducePow, Nat.reduceMul, Int.reduceToNat, Int.reduceLT, Int.reduceLE, e1, htn, ht0]) | refine W_block ?_ | (refine W_skip ?_; simp (maxSteps := 400000) (disch := omega) only [push_cast, ↓reduceIte, reduceCtorEq, Nat.reduceAdd, Nat.reduceSub, Nat.reduceEqDiff, Nat.reduceLeDiff, Nat.reduceLT, Nat.reduceBEq, Nat.reduceDiv, Nat.reduceMod, Nat.reducePow, Nat.reduceMul, Int.reduceToNat, Int.reduceLT, Int.reduceLE, e1, htn, ht0]) | (refine W_exit ?_; simp (maxSteps := 400000) (disch := omega) only [push_cast, ↓reduceIte, reduceCtorEq, Nat.reduceAdd, Nat.reduceSub, Nat.reduceEqDiff, Nat.reduceLeDiff, Nat.reduceLT, Nat.reduceBEq, Nat.reduceDiv, Nat.reduceMod, Nat.reducePow, Nat.reduceMul, Int.reduceToNat, Int.reduceLT, Int.reduceLE, e1, htn, ht0]) | refine And.intro (by omega) ?_ | refine And.intro (by intro hq; (try simp only [Bool.and_eq_true, Bool.or_eq_true, Bool.and_eq_false_iff, Bool.or_eq_false_iff, decide_eq_true_eq, decide_eq_false_iff_not, Bool.not_eq_true', Bool.not_eq_false', beq_iff_eq, beq_eq_false_iff_ne, ne_eq] at hq); omega) ?_ | fail)
  refine W_condD (by rfl) (fun h => ?_) (fun h => ?_)
  · repeat' (first | refine WK_go ?_ | refine W_seqL ?_ | refine W_seq ?_ | (refine W_regL ?_; simp (maxSteps := 400000) (disch := omega) only [push_cast, ↓reduceIte, reduceCtorEq, Nat.reduceAdd, Nat.reduceSub, Nat.reduceEqDiff, Nat.reduceLeDiff, Nat.reduceLT, Nat.reduceBEq, Nat.reduceDiv, Nat.reduceMod, Nat.reducePow, Nat.reduceMul, Int.reduceToNat, Int.reduceLT, Int.reduceLE]) | refine W_block ?_ | (refine W_skip ?_; simp (maxSteps := 400000) (disch := omega) only [push_cast, ↓reduceIte, reduceCtorEq, Nat.reduceAdd, Nat.reduceSub, Nat.reduceEqDiff, Nat.reduceLeDiff, Nat.reduceLT, Nat.reduceBEq, Nat.reduceDiv, Nat.reduceMod, Nat.reducePow, Nat.reduceMul, Int.reduceToNat, Int.reduceLT, Int.reduceLE]) | (refine W_exit ?_; simp (maxSteps := 400000) (disch := omega) only [push_cast, ↓reduceIte, reduceCtorEq, Nat.reduceAdd, Nat.reduceSub, Nat.reduceEqDiff, Nat.reduceLeDiff, Nat.reduceLT, Nat.reduceBEq, Nat.reduceDiv, Nat.reduceMod, Nat.reducePow, Nat.reduceMul, Int.reduceToNat, Int.reduceLT, Int.reduceLE]) | refine And.intro (by omega) ?_ | refine And.intro (by intro hq; (try simp only [Bool.and_eq_true, Bool.or_eq_true, Bool.and_eq_false_iff, Bool.or_eq_false_iff, decide_eq_true_eq, decide_eq_false_iff_not, Bool.not_eq_true', Bool.not_eq_false', beq_iff_eq, beq_eq_false_iff_ne, ne_eq] at hq); omega) ?_ | fail)
    exact W_ret ⟨[_], ⟨rfl, rfl⟩, by unfold chkLog; rw [if_neg (by omega), if_neg (by omega), if_neg (by rw [all_range.2 hR]; simp), if_pos (show tn l - t0 l > 2000 from h)]; rfl⟩
  have hspan : ¬ (tn l - t0 l > 2000) := h
  refine W_skip ?_
  simp (maxSteps := 400000) (disch := omega) only [push_cast, ↓reduceIte, reduceCtorEq, Nat.reduceAdd, Nat.reduceSub, Nat.reduceEqDiff, Nat.reduceLeDiff, Nat.reduceLT, Nat.reduceBEq, Nat.reduceDiv, Nat.reduceMod, Nat.reducePow, Nat.reduceMul, Int.reduceToNat, Int.reduceLT, Int.reduceLE]
  refine WK_go (W_seqL (W_meetF [] [] (okD4 l = true) ?_ (fun hD => ?_)))
  · repeat' (first | refine WK_go ?_ | refine W_seqL ?_ | refine W_seq ?_ | (refine W_regL ?_; simp (maxSteps := 400000) (disch := omega) only [push_cast, ↓reduceIte, reduceCtorEq, Nat.reduceAdd, Nat.reduceSub, Nat.reduceEqDiff, Nat.reduceLeDiff, Nat.reduceLT, Nat.reduceBEq, Nat.reduceDiv, Nat.reduceMod, Nat.reducePow, Nat.reduceMul, Int.reduceToNat, Int.reduceLT, Int.reduceLE]) | refine W_block ?_ | (refine W_skip ?_; simp (maxSteps := 400000) (disch := omega) only [push_cast, ↓reduceIte, reduceCtorEq, Nat.reduceAdd, Nat.reduceSub, Nat.reduceEqDiff, Nat.reduceLeDiff, Nat.reduceLT, Nat.reduceBEq, Nat.reduceDiv, Nat.reduceMod, Nat.reducePow, Nat.reduceMul, Int.reduceToNat, Int.reduceLT, Int.reduceLE]) | (refine W_exit ?_; simp (maxSteps := 400000) (disch := omega) only [push_cast, ↓reduceIte, reduceCtorEq, Nat.reduceAdd, Nat.reduceSub, Nat.reduceEqDiff, Nat.reduceLeDiff, Nat.reduceLT, Nat.reduceBEq, Nat.reduceDiv, Nat.reduceMod, Nat.reducePow, Nat.reduceMul, Int.reduceToNat, Int.reduceLT, Int.reduceLE]) | refine And.intro (by omega) ?_ | refine And.intro (by intro hq; (try simp only [Bool.and_eq_true, Bool.or_eq_true, Bool.and_eq_false_iff, Bool.or_eq_false_iff, decide_eq_true_eq, decide_eq_false_iff_not, Bool.not_eq_true', Bool.not_eq_false', beq_iff_eq, beq_eq_false_iff_ne, ne_eq] at hq); omega) ?_ | fail)
    refine W_loopU (fun k : Nat => [(7, iv k)]) (fun k => []) (fun k => k ≤ 4 ∧ ∀ j, j < k → (decide (0 ≤ drift l j) && decide (drift l j ≤ 1048576)) = true) (fun k => 4 - k) 0 ⟨by omega, fun j hj => by omega⟩ (by rfl) (by rfl) (fun k hk => ?_)
    obtain ⟨hk, hokk⟩ := hk
    simp (maxSteps := 400000) (disch := omega) only [push_cast, ↓reduceIte, reduceCtorEq, Nat.reduceAdd, Nat.reduceSub, Nat.reduceEqDiff, Nat.reduceLeDiff, Nat.reduceLT, Nat.reduceBEq, Nat.reduceDiv, Nat.reduceMod, Nat.reducePow, Nat.reduceMul, Int.reduceToNat, Int.reduceLT, Int.reduceLE]
    repeat' (first | refine WK_go ?_ | refine W_seqL ?_ | refine W_seq ?_ | (refine W_regL ?_; simp (maxSteps := 400000) (disch := omega) only [push_cast, ↓reduceIte, reduceCtorEq, Nat.reduceAdd, Nat.reduceSub, Nat.reduceEqDiff, Nat.reduceLeDiff, Nat.reduceLT, Nat.reduceBEq, Nat.reduceDiv, Nat.reduceMod, Nat.reducePow, Nat.reduceMul, Int.reduceToNat, Int.reduceLT, Int.reduceLE]) | refine W_block ?_ | (refine W_skip ?_; simp (maxSteps := 400000) (disch := omega) only [push_cast, ↓reduceIte, reduceCtorEq, Nat.reduceAdd, Nat.reduceSub, Nat.reduceEqDiff, Nat.reduceLeDiff, Nat.reduceLT, Nat.reduceBEq, Nat.reduceDiv, Nat.reduceMod, Nat.reducePow, Nat.reduceMul, Int.reduceToNat, Int.reduceLT, Int.reduceLE]) | (refine W_exit ?_; simp (maxSteps := 400000) (disch := omega) only [push_cast, ↓reduceIte, reduceCtorEq, Nat.reduceAdd, Nat.reduceSub, Nat.reduceEqDiff, Nat.reduceLeDiff, Nat.reduceLT, Nat.reduceBEq, Nat.reduceDiv, Nat.reduceMod, Nat.reducePow, Nat.reduceMul, Int.reduceToNat, Int.reduceLT, Int.reduceLE]) | refine And.intro (by omega) ?_ | refine And.intro (by intro hq; (try simp only [Bool.and_eq_true, Bool.or_eq_true, Bool.and_eq_false_iff, Bool.or_eq_false_iff, decide_eq_true_eq, decide_eq_false_iff_not, Bool.not_eq_true', Bool.not_eq_false', beq_iff_eq, beq_eq_false_iff_ne, ne_eq] at hq); omega) ?_ | fail)
    refine W_condD (by rfl) (fun h => ?_) (fun h => ?_)
    · have hk4 : k < 4 := by omega
      repeat' (first | refine WK_go ?_ | refine W_seqL ?_ | refine W_seq ?_ | (refine W_regL ?_; simp (maxSteps := 400000) (disch := omega) only [push_cast, ↓reduceIte, reduceCtorEq, Nat.reduceAdd, Nat.reduceSub, Nat.reduceEqDiff, Nat.reduceLeDiff, Nat.reduceLT, Nat.reduceBEq, Nat.reduceDiv, Nat.reduceMod, Nat.reducePow, Nat.reduceMul, Int.reduceToNat, Int.reduceLT, Int.reduceLE]) | refine W_block ?_ | (refine W_skip ?_; simp (maxSteps := 400000) (disch := omega) only [push_cast, ↓reduceIte, reduceCtorEq, Nat.reduceAdd, Nat.reduceSub, Nat.reduceEqDiff, Nat.reduceLeDiff, Nat.reduceLT, Nat.reduceBEq, Nat.reduceDiv, Nat.reduceMod, Nat.reducePow, Nat.reduceMul, Int.reduceToNat, Int.reduceLT, Int.reduceLE]) | (refine W_exit ?_; simp (maxSteps := 400000) (disch := omega) only [push_cast, ↓reduceIte, reduceCtorEq, Nat.reduceAdd, Nat.reduceSub, Nat.reduceEqDiff, Nat.reduceLeDiff, Nat.reduceLT, Nat.reduceBEq, Nat.reduceDiv, Nat.reduceMod, Nat.reducePow, Nat.reduceMul, Int.reduceToNat, Int.reduceLT, Int.reduceLE]) | refine And.intro (by omega) ?_ | refine And.intro (by intro hq; (try simp only [Bool.and_eq_true, Bool.or_eq_true, Bool.and_eq_false_iff, Bool.or_eq_false_iff, decide_eq_true_eq, decide_eq_false_iff_not, Bool.not_eq_true', Bool.not_eq_false', beq_iff_eq, beq_eq_false_iff_ne, ne_eq] at hq); omega) ?_ | (refine CallC.now (fn50 _ _ _) ?_; simp (maxSteps := 400000) (disch := omega) only [push_cast, ↓reduceIte, reduceCtorEq, Nat.reduceAdd, Nat.reduceSub, Nat.reduceEqDiff, Nat.reduceLeDiff, Nat.reduceLT, Nat.reduceBEq, Nat.reduceDiv, Nat.reduceMod, Nat.reducePow, Nat.reduceMul, Int.reduceToNat, Int.reduceLT, Int.reduceLE]) | fail)
      refine W_cond (by rfl) (fun hb => ?_) (fun hb => ?_)
      · repeat' (first | refine WK_go ?_ | refine W_seqL ?_ | refine W_seq ?_ | (refine W_regL ?_; simp (maxSteps := 400000) (disch := omega) only [push_cast, ↓reduceIte, reduceCtorEq, Nat.reduceAdd, Nat.reduceSub, Nat.reduceEqDiff, Nat.reduceLeDiff, Nat.reduceLT, Nat.reduceBEq, Nat.reduceDiv, Nat.reduceMod, Nat.reducePow, Nat.reduceMul, Int.reduceToNat, Int.reduceLT, Int.reduceLE]) | refine W_block ?_ | (refine W_skip ?_; simp (maxSteps := 400000) (disch := omega) only [push_cast, ↓reduceIte, reduceCtorEq, Nat.reduceAdd, Nat.reduceSub, Nat.reduceEqDiff, Nat.reduceLeDiff, Nat.reduceLT, Nat.reduceBEq, Nat.reduceDiv, Nat.reduceMod, Nat.reducePow, Nat.reduceMul, Int.reduceToNat, Int.reduceLT, Int.reduceLE]) | (refine W_exit ?_; simp (maxSteps := 400000) (disch := omega) only [push_cast, ↓reduceIte, reduceCtorEq, Nat.reduceAdd, Nat.reduceSub, Nat.reduceEqDiff, Nat.reduceLeDiff, Nat.reduceLT, Nat.reduceBEq, Nat.reduceDiv, Nat.reduceMod, Nat.reducePow, Nat.reduceMul, Int.reduceToNat, Int.reduceLT, Int.reduceLE]) | refine And.intro (by omega) ?_ | refine And.intro (by intro hq; (try simp only [Bool.and_eq_true, Bool.or_eq_true, Bool.and_eq_false_iff, Bool.or_eq_false_iff, decide_eq_true_eq, decide_eq_false_iff_not, Bool.not_eq_true', Bool.not_eq_false', beq_iff_eq, beq_eq_false_iff_ne, ne_eq] at hq); omega) ?_ | fail)
        exact W_ret ⟨[_], ⟨rfl, rfl⟩, by
          unfold chkLog
          rw [if_neg (by omega), if_neg (by omega), if_neg (by rw [all_range.2 hR]; simp), if_neg hspan, if_pos (by unfold okD4; exact not_all_range hk4 (by rw [← Bool.not_eq_true']; exact hb))]; rfl⟩
      repeat' (first | refine WK_go ?_ | refine W_seqL ?_ | refine W_seq ?_ | (refine W_regL ?_; simp (maxSteps := 400000) (disch := omega) only [push_cast, ↓reduceIte, reduceCtorEq, Nat.reduceAdd, Nat.reduceSub, Nat.reduceEqDiff, Nat.reduceLeDiff, Nat.reduceLT, Nat.reduceBEq, Nat.reduceDiv, Nat.reduceMod, Nat.reducePow, Nat.reduceMul, Int.reduceToNat, Int.reduceLT, Int.reduceLE]) | refine W_block ?_ | (refine W_skip ?_; simp (maxSteps := 400000) (disch := omega) only [push_cast, ↓reduceIte, reduceCtorEq, Nat.reduceAdd, Nat.reduceSub, Nat.reduceEqDiff, Nat.reduceLeDiff, Nat.reduceLT, Nat.reduceBEq, Nat.reduceDiv, Nat.reduceMod, Nat.reducePow, Nat.reduceMul, Int.reduceToNat, Int.reduceLT, Int.reduceLE]) | (refine W_exit ?_; simp (maxSteps := 400000) (disch := omega) only [push_cast, ↓reduceIte, reduceCtorEq, Nat.reduceAdd, Nat.reduceSub, Nat.reduceEqDiff, Nat.reduceLeDiff, Nat.reduceLT, Nat.reduceBEq, Nat.reduceDiv, Nat.reduceMod, Nat.reducePow, Nat.reduceMul, Int.reduceToNat, Int.reduceLT, Int.reduceLE]) | refine And.intro (by omega) ?_ | refine And.intro (by intro hq; (try simp only [Bool.and_eq_true, Bool.or_eq_true, Bool.and_eq_false_iff, Bool.or_eq_false_iff, decide_eq_true_eq, decide_eq_false_iff_not, Bool.not_eq_true', Bool.not_eq_false', beq_iff_eq, beq_eq_false_iff_ne, ne_eq] at hq); omega) ?_ | fail)
      refine ⟨k + 1, ⟨by omega, up_all hokk (by simpa using hb)⟩, by omega, by rfl, ?_⟩
      simp (maxSteps := 400000) (disch := omega) only [push_cast, ↓reduceIte, reduceCtorEq, Nat.reduceAdd, Nat.reduceSub, Nat.reduceEqDiff, Nat.reduceLeDiff, Nat.reduceLT, Nat.reduceBEq, Nat.reduceDiv, Nat.reduceMod, Nat.reducePow, Nat.reduceMul, Int.reduceToNat, Int.reduceLT, Int.reduceLE, S.mk.injEq, List.cons.injEq, Prod.mk.injEq, AV.v.injEq, Value.int.injEq, Value.bool.injEq, Blk.cells.injEq]
    · repeat' (first | refine WK_go ?_ | refine W_seqL ?_ | refine W_seq ?_ | (refine W_regL ?_; simp (maxSteps := 400000) (disch := omega) only [push_cast, ↓reduceIte, reduceCtorEq, Nat.reduceAdd, Nat.reduceSub, Nat.reduceEqDiff, Nat.reduceLeDiff, Nat.reduceLT, Nat.reduceBEq, Nat.reduceDiv, Nat.reduceMod, Nat.reducePow, Nat.reduceMul, Int.reduceToNat, Int.reduceLT, Int.reduceLE]) | refine W_block ?_ | (refine W_skip ?_; simp (maxSteps := 400000) (disch := omega) only [push_cast, ↓reduceIte, reduceCtorEq, Nat.reduceAdd, Nat.reduceSub, Nat.reduceEqDiff, Nat.reduceLeDiff, Nat.reduceLT, Nat.reduceBEq, Nat.reduceDiv, Nat.reduceMod, Nat.reducePow, Nat.reduceMul, Int.reduceToNat, Int.reduceLT, Int.reduceLE]) | (refine W_exit ?_; simp (maxSteps := 400000) (disch := omega) only [push_cast, ↓reduceIte, reduceCtorEq, Nat.reduceAdd, Nat.reduceSub, Nat.reduceEqDiff, Nat.reduceLeDiff, Nat.reduceLT, Nat.reduceBEq, Nat.reduceDiv, Nat.reduceMod, Nat.reducePow, Nat.reduceMul, Int.reduceToNat, Int.reduceLT, Int.reduceLE]) | refine And.intro (by omega) ?_ | refine And.intro (by intro hq; (try simp only [Bool.and_eq_true, Bool.or_eq_true, Bool.and_eq_false_iff, Bool.or_eq_false_iff, decide_eq_true_eq, decide_eq_false_iff_not, Bool.not_eq_true', Bool.not_eq_false', beq_iff_eq, beq_eq_false_iff_ne, ne_eq] at hq); omega) ?_ | fail)
      refine ⟨all_range.2 (fun j hj => hokk j (by omega)), ?_⟩
      (first | rfl | exact ⟨by rfl, by rfl⟩ | (refine ⟨by rfl, ?_⟩; simp (maxSteps := 400000) (disch := omega) only [push_cast, ↓reduceIte, reduceCtorEq, Nat.reduceAdd, Nat.reduceSub, Nat.reduceEqDiff, Nat.reduceLeDiff, Nat.reduceLT, Nat.reduceBEq, Nat.reduceDiv, Nat.reduceMod, Nat.reducePow, Nat.reduceMul, Int.reduceToNat, Int.reduceLT, Int.reduceLE, S.mk.injEq, List.cons.injEq, Prod.mk.injEq, AV.v.injEq, Value.int.injEq, Value.bool.injEq, Blk.cells.injEq]))
  have hg : Good l := {
    n2 := hn2
    n64 := hn64
    at0 := hat
    inc := fun i hi => by
      have := hR (i + 1) hi
      simp only [okR, Bool.and_eq_true, Bool.not_eq_true', Bool.and_eq_false_iff, decide_eq_false_iff_not, Nat.add_sub_cancel] at this
      have := this.1.1.2
      omega
    pl := fun i hi => by
      have := hR i hi
      simp only [okR, Bool.and_eq_true] at this
      exact this.1.2
    vl := fun i k hi hk => by
      have := hR i hi
      simp only [okR, Bool.and_eq_true] at this
      exact all_range.1 this.2 k hk
    span := by omega
    dr := fun k hk => by
      have := all_range.1 hD k hk
      simpa using this }
  have htt : 0 ≤ tn l - t0 l := by
    have := (hg.tI (i := 0) (by omega))
    omega
  obtain ⟨L, hL⟩ : ∃ L : Nat, tn l - t0 l = L := ⟨(tn l - t0 l).toNat, by omega⟩
  have hLn : (tn l - t0 l + 1).toNat = L + 1 := by omega
  have c53 := fn53 l (by omega) (by omega) (by unfold tn; omega) (by unfold t0; omega)
  rw [hL] at c53
  have hbadM : ∀ m, m < L + 1 → okM l m = false → chkLog l = 16 := fun m hm hf => by
    unfold chkLog
    rw [if_neg (by omega), if_neg (by omega), if_neg (by rw [all_range.2 hR]; simp), if_neg hspan, if_neg (by rw [hD]; simp), hLn, if_pos (not_all_range hm hf)]
  simp (maxSteps := 400000) (disch := omega) only [push_cast, ↓reduceIte, reduceCtorEq, Nat.reduceAdd, Nat.reduceSub, Nat.reduceEqDiff, Nat.reduceLeDiff, Nat.reduceLT, Nat.reduceBEq, Nat.reduceDiv, Nat.reduceMod, Nat.reducePow, Nat.reduceMul, Int.reduceToNat, Int.reduceLT, Int.reduceLE]
  refine W_seqL (W_meetF [] [] (∀ j, j < L + 1 → okM l j = true) ?_ (fun hM => ?_))
  · repeat' (first | refine WK_go ?_ | refine W_seqL ?_ | refine W_seq ?_ | (refine W_regL ?_; simp (maxSteps := 400000) (disch := omega) only [push_cast, ↓reduceIte, reduceCtorEq, Nat.reduceAdd, Nat.reduceSub, Nat.reduceEqDiff, Nat.reduceLeDiff, Nat.reduceLT, Nat.reduceBEq, Nat.reduceDiv, Nat.reduceMod, Nat.reducePow, Nat.reduceMul, Int.reduceToNat, Int.reduceLT, Int.reduceLE]) | refine W_block ?_ | (refine W_skip ?_; simp (maxSteps := 400000) (disch := omega) only [push_cast, ↓reduceIte, reduceCtorEq, Nat.reduceAdd, Nat.reduceSub, Nat.reduceEqDiff, Nat.reduceLeDiff, Nat.reduceLT, Nat.reduceBEq, Nat.reduceDiv, Nat.reduceMod, Nat.reducePow, Nat.reduceMul, Int.reduceToNat, Int.reduceLT, Int.reduceLE]) | (refine W_exit ?_; simp (maxSteps := 400000) (disch := omega) only [push_cast, ↓reduceIte, reduceCtorEq, Nat.reduceAdd, Nat.reduceSub, Nat.reduceEqDiff, Nat.reduceLeDiff, Nat.reduceLT, Nat.reduceBEq, Nat.reduceDiv, Nat.reduceMod, Nat.reducePow, Nat.reduceMul, Int.reduceToNat, Int.reduceLT, Int.reduceLE]) | refine And.intro (by omega) ?_ | refine And.intro (by intro hq; (try simp only [Bool.and_eq_true, Bool.or_eq_true, Bool.and_eq_false_iff, Bool.or_eq_false_iff, decide_eq_true_eq, decide_eq_false_iff_not, Bool.not_eq_true', Bool.not_eq_false', beq_iff_eq, beq_eq_false_iff_ne, ne_eq] at hq); omega) ?_ | fail)
    refine W_loopU (fun m : Nat => [(8, iv m)]) (fun m => []) (fun m => m ≤ L + 1 ∧ ∀ j, j < m → okM l j = true) (fun m => L + 1 - m) 0 ⟨by omega, fun j hj => by omega⟩ (by rfl) (by rfl) (fun m hm => ?_)
    obtain ⟨hm, hokm⟩ := hm
    simp (maxSteps := 400000) (disch := omega) only [push_cast, ↓reduceIte, reduceCtorEq, Nat.reduceAdd, Nat.reduceSub, Nat.reduceEqDiff, Nat.reduceLeDiff, Nat.reduceLT, Nat.reduceBEq, Nat.reduceDiv, Nat.reduceMod, Nat.reducePow, Nat.reduceMul, Int.reduceToNat, Int.reduceLT, Int.reduceLE]
    repeat' (first | refine WK_go ?_ | refine W_seqL ?_ | refine W_seq ?_ | (refine W_regL ?_; simp (maxSteps := 400000) (disch := omega) only [push_cast, ↓reduceIte, reduceCtorEq, Nat.reduceAdd, Nat.reduceSub, Nat.reduceEqDiff, Nat.reduceLeDiff, Nat.reduceLT, Nat.reduceBEq, Nat.reduceDiv, Nat.reduceMod, Nat.reducePow, Nat.reduceMul, Int.reduceToNat, Int.reduceLT, Int.reduceLE]) | refine W_block ?_ | (refine W_skip ?_; simp (maxSteps := 400000) (disch := omega) only [push_cast, ↓reduceIte, reduceCtorEq, Nat.reduceAdd, Nat.reduceSub, Nat.reduceEqDiff, Nat.reduceLeDiff, Nat.reduceLT, Nat.reduceBEq, Nat.reduceDiv, Nat.reduceMod, Nat.reducePow, Nat.reduceMul, Int.reduceToNat, Int.reduceLT, Int.reduceLE]) | (refine W_exit ?_; simp (maxSteps := 400000) (disch := omega) only [push_cast, ↓reduceIte, reduceCtorEq, Nat.reduceAdd, Nat.reduceSub, Nat.reduceEqDiff, Nat.reduceLeDiff, Nat.reduceLT, Nat.reduceBEq, Nat.reduceDiv, Nat.reduceMod, Nat.reducePow, Nat.reduceMul, Int.reduceToNat, Int.reduceLT, Int.reduceLE]) | refine And.intro (by omega) ?_ | refine And.intro (by intro hq; (try simp only [Bool.and_eq_true, Bool.or_eq_true, Bool.and_eq_false_iff, Bool.or_eq_false_iff, decide_eq_true_eq, decide_eq_false_iff_not, Bool.not_eq_true', Bool.not_eq_false', beq_iff_eq, beq_eq_false_iff_ne, ne_eq] at hq); omega) ?_ | (refine CallC.now (c53) ?_; simp (maxSteps := 400000) (disch := omega) only [push_cast, ↓reduceIte, reduceCtorEq, Nat.reduceAdd, Nat.reduceSub, Nat.reduceEqDiff, Nat.reduceLeDiff, Nat.reduceLT, Nat.reduceBEq, Nat.reduceDiv, Nat.reduceMod, Nat.reducePow, Nat.reduceMul, Int.reduceToNat, Int.reduceLT, Int.reduceLE]) | fail)
    refine W_condD (by rfl) (fun h => ?_) (fun h => ?_)
    · have hmL : m < L + 1 := by omega
      repeat' (first | refine WK_go ?_ | refine W_seqL ?_ | refine W_seq ?_ | (refine W_regL ?_; simp (maxSteps := 400000) (disch := omega) only [push_cast, ↓reduceIte, reduceCtorEq, Nat.reduceAdd, Nat.reduceSub, Nat.reduceEqDiff, Nat.reduceLeDiff, Nat.reduceLT, Nat.reduceBEq, Nat.reduceDiv, Nat.reduceMod, Nat.reducePow, Nat.reduceMul, Int.reduceToNat, Int.reduceLT, Int.reduceLE]) | refine W_block ?_ | (refine W_skip ?_; simp (maxSteps := 400000) (disch := omega) only [push_cast, ↓reduceIte, reduceCtorEq, Nat.reduceAdd, Nat.reduceSub, Nat.reduceEqDiff, Nat.reduceLeDiff, Nat.reduceLT, Nat.reduceBEq, Nat.reduceDiv, Nat.reduceMod, Nat.reducePow, Nat.reduceMul, Int.reduceToNat, Int.reduceLT, Int.reduceLE]) | (refine W_exit ?_; simp (maxSteps := 400000) (disch := omega) only [push_cast, ↓reduceIte, reduceCtorEq, Nat.reduceAdd, Nat.reduceSub, Nat.reduceEqDiff, Nat.reduceLeDiff, Nat.reduceLT, Nat.reduceBEq, Nat.reduceDiv, Nat.reduceMod, Nat.reducePow, Nat.reduceMul, Int.reduceToNat, Int.reduceLT, Int.reduceLE]) | refine And.intro (by omega) ?_ | refine And.intro (by intro hq; (try simp only [Bool.and_eq_true, Bool.or_eq_true, Bool.and_eq_false_iff, Bool.or_eq_false_iff, decide_eq_true_eq, decide_eq_false_iff_not, Bool.not_eq_true', Bool.not_eq_false', beq_iff_eq, beq_eq_false_iff_ne, ne_eq] at hq); omega) ?_ | (refine CallC.now (fn16 l m (by omega) (by omega) (by unfold t0; omega) (by omega)) ?_; simp (maxSteps := 400000) (disch := omega) only [push_cast, ↓reduceIte, reduceCtorEq, Nat.reduceAdd, Nat.reduceSub, Nat.reduceEqDiff, Nat.reduceLeDiff, Nat.reduceLT, Nat.reduceBEq, Nat.reduceDiv, Nat.reduceMod, Nat.reducePow, Nat.reduceMul, Int.reduceToNat, Int.reduceLT, Int.reduceLE]) | fail)
      refine W_condD (by rfl) (fun hb => ?_) (fun hb => ?_)
      · repeat' (first | refine WK_go ?_ | refine W_seqL ?_ | refine W_seq ?_ | (refine W_regL ?_; simp (maxSteps := 400000) (disch := omega) only [push_cast, ↓reduceIte, reduceCtorEq, Nat.reduceAdd, Nat.reduceSub, Nat.reduceEqDiff, Nat.reduceLeDiff, Nat.reduceLT, Nat.reduceBEq, Nat.reduceDiv, Nat.reduceMod, Nat.reducePow, Nat.reduceMul, Int.reduceToNat, Int.reduceLT, Int.reduceLE]) | refine W_block ?_ | (refine W_skip ?_; simp (maxSteps := 400000) (disch := omega) only [push_cast, ↓reduceIte, reduceCtorEq, Nat.reduceAdd, Nat.reduceSub, Nat.reduceEqDiff, Nat.reduceLeDiff, Nat.reduceLT, Nat.reduceBEq, Nat.reduceDiv, Nat.reduceMod, Nat.reducePow, Nat.reduceMul, Int.reduceToNat, Int.reduceLT, Int.reduceLE]) | (refine W_exit ?_; simp (maxSteps := 400000) (disch := omega) only [push_cast, ↓reduceIte, reduceCtorEq, Nat.reduceAdd, Nat.reduceSub, Nat.reduceEqDiff, Nat.reduceLeDiff, Nat.reduceLT, Nat.reduceBEq, Nat.reduceDiv, Nat.reduceMod, Nat.reducePow, Nat.reduceMul, Int.reduceToNat, Int.reduceLT, Int.reduceLE]) | refine And.intro (by omega) ?_ | refine And.intro (by intro hq; (try simp only [Bool.and_eq_true, Bool.or_eq_true, Bool.and_eq_false_iff, Bool.or_eq_false_iff, decide_eq_true_eq, decide_eq_false_iff_not, Bool.not_eq_true', Bool.not_eq_false', beq_iff_eq, beq_eq_false_iff_ne, ne_eq] at hq); omega) ?_ | fail)
        exact W_ret ⟨[_], ⟨rfl, rfl⟩, by
          rw [hbadM m hmL (by unfold okM; rw [decide_eq_false (by omega), Bool.false_and])]; rfl⟩
      repeat' (first | refine WK_go ?_ | refine W_seqL ?_ | refine W_seq ?_ | (refine W_regL ?_; simp (maxSteps := 400000) (disch := omega) only [push_cast, ↓reduceIte, reduceCtorEq, Nat.reduceAdd, Nat.reduceSub, Nat.reduceEqDiff, Nat.reduceLeDiff, Nat.reduceLT, Nat.reduceBEq, Nat.reduceDiv, Nat.reduceMod, Nat.reducePow, Nat.reduceMul, Int.reduceToNat, Int.reduceLT, Int.reduceLE]) | refine W_block ?_ | (refine W_skip ?_; simp (maxSteps := 400000) (disch := omega) only [push_cast, ↓reduceIte, reduceCtorEq, Nat.reduceAdd, Nat.reduceSub, Nat.reduceEqDiff, Nat.reduceLeDiff, Nat.reduceLT, Nat.reduceBEq, Nat.reduceDiv, Nat.reduceMod, Nat.reducePow, Nat.reduceMul, Int.reduceToNat, Int.reduceLT, Int.reduceLE]) | (refine W_exit ?_; simp (maxSteps := 400000) (disch := omega) only [push_cast, ↓reduceIte, reduceCtorEq, Nat.reduceAdd, Nat.reduceSub, Nat.reduceEqDiff, Nat.reduceLeDiff, Nat.reduceLT, Nat.reduceBEq, Nat.reduceDiv, Nat.reduceMod, Nat.reducePow, Nat.reduceMul, Int.reduceToNat, Int.reduceLT, Int.reduceLE]) | refine And.intro (by omega) ?_ | refine And.intro (by intro hq; (try simp only [Bool.and_eq_true, Bool.or_eq_true, Bool.and_eq_false_iff, Bool.or_eq_false_iff, decide_eq_true_eq, decide_eq_false_iff_not, Bool.not_eq_true', Bool.not_eq_false', beq_iff_eq, beq_eq_false_iff_ne, ne_eq] at hq); omega) ?_ | fail)
      refine W_loopU (fun k : Nat => [(10, iv k)]) (fun k => []) (fun k => k ≤ 4 ∧ ∀ j, j < k → decide ((value l m j).lo ≤ (value l m j).hi) = true) (fun k => 4 - k) 0 ⟨by omega, fun j hj => by omega⟩ (by rfl) (by rfl) (fun k hk => ?_)
      obtain ⟨hk, hokk⟩ := hk
      simp (maxSteps := 400000) (disch := omega) only [push_cast, ↓reduceIte, reduceCtorEq, Nat.reduceAdd, Nat.reduceSub, Nat.reduceEqDiff, Nat.reduceLeDiff, Nat.reduceLT, Nat.reduceBEq, Nat.reduceDiv, Nat.reduceMod, Nat.reducePow, Nat.reduceMul, Int.reduceToNat, Int.reduceLT, Int.reduceLE]
      repeat' (first | refine WK_go ?_ | refine W_seqL ?_ | refine W_seq ?_ | (refine W_regL ?_; simp (maxSteps := 400000) (disch := omega) only [push_cast, ↓reduceIte, reduceCtorEq, Nat.reduceAdd, Nat.reduceSub, Nat.reduceEqDiff, Nat.reduceLeDiff, Nat.reduceLT, Nat.reduceBEq, Nat.reduceDiv, Nat.reduceMod, Nat.reducePow, Nat.reduceMul, Int.reduceToNat, Int.reduceLT, Int.reduceLE]) | refine W_block ?_ | (refine W_skip ?_; simp (maxSteps := 400000) (disch := omega) only [push_cast, ↓reduceIte, reduceCtorEq, Nat.reduceAdd, Nat.reduceSub, Nat.reduceEqDiff, Nat.reduceLeDiff, Nat.reduceLT, Nat.reduceBEq, Nat.reduceDiv, Nat.reduceMod, Nat.reducePow, Nat.reduceMul, Int.reduceToNat, Int.reduceLT, Int.reduceLE]) | (refine W_exit ?_; simp (maxSteps := 400000) (disch := omega) only [push_cast, ↓reduceIte, reduceCtorEq, Nat.reduceAdd, Nat.reduceSub, Nat.reduceEqDiff, Nat.reduceLeDiff, Nat.reduceLT, Nat.reduceBEq, Nat.reduceDiv, Nat.reduceMod, Nat.reducePow, Nat.reduceMul, Int.reduceToNat, Int.reduceLT, Int.reduceLE]) | refine And.intro (by omega) ?_ | refine And.intro (by intro hq; (try simp only [Bool.and_eq_true, Bool.or_eq_true, Bool.and_eq_false_iff, Bool.or_eq_false_iff, decide_eq_true_eq, decide_eq_false_iff_not, Bool.not_eq_true', Bool.not_eq_false', beq_iff_eq, beq_eq_false_iff_ne, ne_eq] at hq); omega) ?_ | fail)
      refine W_condD (by rfl) (fun h => ?_) (fun h => ?_)
      · have hk4 : k < 4 := by omega
        repeat' (first | refine WK_go ?_ | refine W_seqL ?_ | refine W_seq ?_ | (refine W_regL ?_; simp (maxSteps := 400000) (disch := omega) only [push_cast, ↓reduceIte, reduceCtorEq, Nat.reduceAdd, Nat.reduceSub, Nat.reduceEqDiff, Nat.reduceLeDiff, Nat.reduceLT, Nat.reduceBEq, Nat.reduceDiv, Nat.reduceMod, Nat.reducePow, Nat.reduceMul, Int.reduceToNat, Int.reduceLT, Int.reduceLE]) | refine W_block ?_ | (refine W_skip ?_; simp (maxSteps := 400000) (disch := omega) only [push_cast, ↓reduceIte, reduceCtorEq, Nat.reduceAdd, Nat.reduceSub, Nat.reduceEqDiff, Nat.reduceLeDiff, Nat.reduceLT, Nat.reduceBEq, Nat.reduceDiv, Nat.reduceMod, Nat.reducePow, Nat.reduceMul, Int.reduceToNat, Int.reduceLT, Int.reduceLE]) | (refine W_exit ?_; simp (maxSteps := 400000) (disch := omega) only [push_cast, ↓reduceIte, reduceCtorEq, Nat.reduceAdd, Nat.reduceSub, Nat.reduceEqDiff, Nat.reduceLeDiff, Nat.reduceLT, Nat.reduceBEq, Nat.reduceDiv, Nat.reduceMod, Nat.reducePow, Nat.reduceMul, Int.reduceToNat, Int.reduceLT, Int.reduceLE]) | refine And.intro (by omega) ?_ | refine And.intro (by intro hq; (try simp only [Bool.and_eq_true, Bool.or_eq_true, Bool.and_eq_false_iff, Bool.or_eq_false_iff, decide_eq_true_eq, decide_eq_false_iff_not, Bool.not_eq_true', Bool.not_eq_false', beq_iff_eq, beq_eq_false_iff_ne, ne_eq] at hq); omega) ?_ | (refine CallC.now (fn17 l m k hg (by omega) hk4) ?_; simp (maxSteps := 400000) (disch := omega) only [push_cast, ↓reduceIte, reduceCtorEq, Nat.reduceAdd, Nat.reduceSub, Nat.reduceEqDiff, Nat.reduceLeDiff, Nat.reduceLT, Nat.reduceBEq, Nat.reduceDiv, Nat.reduceMod, Nat.reducePow, Nat.reduceMul, Int.reduceToNat, Int.reduceLT, Int.reduceLE]) | fail)
        refine W_condD (by rfl) (fun hv => ?_) (fun hv => ?_)
        · repeat' (first | refine WK_go ?_ | refine W_seqL ?_ | refine W_seq ?_ | (refine W_regL ?_; simp (maxSteps := 400000) (disch := omega) only [push_cast, ↓reduceIte, reduceCtorEq, Nat.reduceAdd, Nat.reduceSub, Nat.reduceEqDiff, Nat.reduceLeDiff, Nat.reduceLT, Nat.reduceBEq, Nat.reduceDiv, Nat.reduceMod, Nat.reducePow, Nat.reduceMul, Int.reduceToNat, Int.reduceLT, Int.reduceLE]) | refine W_block ?_ | (refine W_skip ?_; simp (maxSteps := 400000) (disch := omega) only [push_cast, ↓reduceIte, reduceCtorEq, Nat.reduceAdd, Nat.reduceSub, Nat.reduceEqDiff, Nat.reduceLeDiff, Nat.reduceLT, Nat.reduceBEq, Nat.reduceDiv, Nat.reduceMod, Nat.reducePow, Nat.reduceMul, Int.reduceToNat, Int.reduceLT, Int.reduceLE]) | (refine W_exit ?_; simp (maxSteps := 400000) (disch := omega) only [push_cast, ↓reduceIte, reduceCtorEq, Nat.reduceAdd, Nat.reduceSub, Nat.reduceEqDiff, Nat.reduceLeDiff, Nat.reduceLT, Nat.reduceBEq, Nat.reduceDiv, Nat.reduceMod, Nat.reducePow, Nat.reduceMul, Int.reduceToNat, Int.reduceLT, Int.reduceLE]) | refine And.intro (by omega) ?_ | refine And.intro (by intro hq; (try simp only [Bool.and_eq_true, Bool.or_eq_true, Bool.and_eq_false_iff, Bool.or_eq_false_iff, decide_eq_true_eq, decide_eq_false_iff_not, Bool.not_eq_true', Bool.not_eq_false', beq_iff_eq, beq_eq_false_iff_ne, ne_eq] at hq); omega) ?_ | fail)
          exact W_ret ⟨[_], ⟨rfl, rfl⟩, by
            rw [hbadM m hmL (by unfold okM; rw [not_all_range hk4 (decide_eq_false (by omega)), Bool.and_false])]; rfl⟩
        repeat' (first | refine WK_go ?_ | refine W_seqL ?_ | refine W_seq ?_ | (refine W_regL ?_; simp (maxSteps := 400000) (disch := omega) only [push_cast, ↓reduceIte, reduceCtorEq, Nat.reduceAdd, Nat.reduceSub, Nat.reduceEqDiff, Nat.reduceLeDiff, Nat.reduceLT, Nat.reduceBEq, Nat.reduceDiv, Nat.reduceMod, Nat.reducePow, Nat.reduceMul, Int.reduceToNat, Int.reduceLT, Int.reduceLE]) | refine W_block ?_ | (refine W_skip ?_; simp (maxSteps := 400000) (disch := omega) only [push_cast, ↓reduceIte, reduceCtorEq, Nat.reduceAdd, Nat.reduceSub, Nat.reduceEqDiff, Nat.reduceLeDiff, Nat.reduceLT, Nat.reduceBEq, Nat.reduceDiv, Nat.reduceMod, Nat.reducePow, Nat.reduceMul, Int.reduceToNat, Int.reduceLT, Int.reduceLE]) | (refine W_exit ?_; simp (maxSteps := 400000) (disch := omega) only [push_cast, ↓reduceIte, reduceCtorEq, Nat.reduceAdd, Nat.reduceSub, Nat.reduceEqDiff, Nat.reduceLeDiff, Nat.reduceLT, Nat.reduceBEq, Nat.reduceDiv, Nat.reduceMod, Nat.reducePow, Nat.reduceMul, Int.reduceToNat, Int.reduceLT, Int.reduceLE]) | refine And.intro (by omega) ?_ | refine And.intro (by intro hq; (try simp only [Bool.and_eq_true, Bool.or_eq_true, Bool.and_eq_false_iff, Bool.or_eq_false_iff, decide_eq_true_eq, decide_eq_false_iff_not, Bool.not_eq_true', Bool.not_eq_false', beq_iff_eq, beq_eq_false_iff_ne, ne_eq] at hq); omega) ?_ | fail)
        refine ⟨k + 1, ⟨by omega, up_all hokk (decide_eq_true (by omega))⟩, by omega, by rfl, ?_⟩
        simp (maxSteps := 400000) (disch := omega) only [push_cast, ↓reduceIte, reduceCtorEq, Nat.reduceAdd, Nat.reduceSub, Nat.reduceEqDiff, Nat.reduceLeDiff, Nat.reduceLT, Nat.reduceBEq, Nat.reduceDiv, Nat.reduceMod, Nat.reducePow, Nat.reduceMul, Int.reduceToNat, Int.reduceLT, Int.reduceLE, S.mk.injEq, List.cons.injEq, Prod.mk.injEq, AV.v.injEq, Value.int.injEq, Value.bool.injEq, Blk.cells.injEq]
      · repeat' (first | refine WK_go ?_ | refine W_seqL ?_ | refine W_seq ?_ | (refine W_regL ?_; simp (maxSteps := 400000) (disch := omega) only [push_cast, ↓reduceIte, reduceCtorEq, Nat.reduceAdd, Nat.reduceSub, Nat.reduceEqDiff, Nat.reduceLeDiff, Nat.reduceLT, Nat.reduceBEq, Nat.reduceDiv, Nat.reduceMod, Nat.reducePow, Nat.reduceMul, Int.reduceToNat, Int.reduceLT, Int.reduceLE]) | refine W_block ?_ | (refine W_skip ?_; simp (maxSteps := 400000) (disch := omega) only [push_cast, ↓reduceIte, reduceCtorEq, Nat.reduceAdd, Nat.reduceSub, Nat.reduceEqDiff, Nat.reduceLeDiff, Nat.reduceLT, Nat.reduceBEq, Nat.reduceDiv, Nat.reduceMod, Nat.reducePow, Nat.reduceMul, Int.reduceToNat, Int.reduceLT, Int.reduceLE]) | (refine W_exit ?_; simp (maxSteps := 400000) (disch := omega) only [push_cast, ↓reduceIte, reduceCtorEq, Nat.reduceAdd, Nat.reduceSub, Nat.reduceEqDiff, Nat.reduceLeDiff, Nat.reduceLT, Nat.reduceBEq, Nat.reduceDiv, Nat.reduceMod, Nat.reducePow, Nat.reduceMul, Int.reduceToNat, Int.reduceLT, Int.reduceLE]) | refine And.intro (by omega) ?_ | refine And.intro (by intro hq; (try simp only [Bool.and_eq_true, Bool.or_eq_true, Bool.and_eq_false_iff, Bool.or_eq_false_iff, decide_eq_true_eq, decide_eq_false_iff_not, Bool.not_eq_true', Bool.not_eq_false', beq_iff_eq, beq_eq_false_iff_ne, ne_eq] at hq); omega) ?_ | fail)
        refine ⟨m + 1, ⟨by omega, up_all hokm ?_⟩, by omega, by rfl, ?_⟩
        · unfold okM
          rw [decide_eq_true (by omega), all_range.2 (fun j hj => hokk j (by omega))]; rfl
        · simp (maxSteps := 400000) (disch := omega) only [push_cast, ↓reduceIte, reduceCtorEq, Nat.reduceAdd, Nat.reduceSub, Nat.reduceEqDiff, Nat.reduceLeDiff, Nat.reduceLT, Nat.reduceBEq, Nat.reduceDiv, Nat.reduceMod, Nat.reducePow, Nat.reduceMul, Int.reduceToNat, Int.reduceLT, Int.reduceLE, S.mk.injEq, List.cons.injEq, Prod.mk.injEq, AV.v.injEq, Value.int.injEq, Value.bool.injEq, Blk.cells.injEq]
    · repeat' (first | refine WK_go ?_ | refine W_seqL ?_ | refine W_seq ?_ | (refine W_regL ?_; simp (maxSteps := 400000) (disch := omega) only [push_cast, ↓reduceIte, reduceCtorEq, Nat.reduceAdd, Nat.reduceSub, Nat.reduceEqDiff, Nat.reduceLeDiff, Nat.reduceLT, Nat.reduceBEq, Nat.reduceDiv, Nat.reduceMod, Nat.reducePow, Nat.reduceMul, Int.reduceToNat, Int.reduceLT, Int.reduceLE]) | refine W_block ?_ | (refine W_skip ?_; simp (maxSteps := 400000) (disch := omega) only [push_cast, ↓reduceIte, reduceCtorEq, Nat.reduceAdd, Nat.reduceSub, Nat.reduceEqDiff, Nat.reduceLeDiff, Nat.reduceLT, Nat.reduceBEq, Nat.reduceDiv, Nat.reduceMod, Nat.reducePow, Nat.reduceMul, Int.reduceToNat, Int.reduceLT, Int.reduceLE]) | (refine W_exit ?_; simp (maxSteps := 400000) (disch := omega) only [push_cast, ↓reduceIte, reduceCtorEq, Nat.reduceAdd, Nat.reduceSub, Nat.reduceEqDiff, Nat.reduceLeDiff, Nat.reduceLT, Nat.reduceBEq, Nat.reduceDiv, Nat.reduceMod, Nat.reducePow, Nat.reduceMul, Int.reduceToNat, Int.reduceLT, Int.reduceLE]) | refine And.intro (by omega) ?_ | refine And.intro (by intro hq; (try simp only [Bool.and_eq_true, Bool.or_eq_true, Bool.and_eq_false_iff, Bool.or_eq_false_iff, decide_eq_true_eq, decide_eq_false_iff_not, Bool.not_eq_true', Bool.not_eq_false', beq_iff_eq, beq_eq_false_iff_ne, ne_eq] at hq); omega) ?_ | fail)
      refine ⟨fun j hj => hokm j (by omega), ?_⟩
      (first | rfl | exact ⟨by rfl, by rfl⟩ | (refine ⟨by rfl, ?_⟩; simp (maxSteps := 400000) (disch := omega) only [push_cast, ↓reduceIte, reduceCtorEq, Nat.reduceAdd, Nat.reduceSub, Nat.reduceEqDiff, Nat.reduceLeDiff, Nat.reduceLT, Nat.reduceBEq, Nat.reduceDiv, Nat.reduceMod, Nat.reducePow, Nat.reduceMul, Int.reduceToNat, Int.reduceLT, Int.reduceLE, S.mk.injEq, List.cons.injEq, Prod.mk.injEq, AV.v.injEq, Value.int.injEq, Value.bool.injEq, Blk.cells.injEq]))
  simp (maxSteps := 400000) (disch := omega) only [push_cast, ↓reduceIte, reduceCtorEq, Nat.reduceAdd, Nat.reduceSub, Nat.reduceEqDiff, Nat.reduceLeDiff, Nat.reduceLT, Nat.reduceBEq, Nat.reduceDiv, Nat.reduceMod, Nat.reducePow, Nat.reduceMul, Int.reduceToNat, Int.reduceLT, Int.reduceLE]
  repeat' (first | refine WK_go ?_ | refine W_seqL ?_ | refine W_seq ?_ | (refine W_regL ?_; simp (maxSteps := 400000) (disch := omega) only [push_cast, ↓reduceIte, reduceCtorEq, Nat.reduceAdd, Nat.reduceSub, Nat.reduceEqDiff, Nat.reduceLeDiff, Nat.reduceLT, Nat.reduceBEq, Nat.reduceDiv, Nat.reduceMod, Nat.reducePow, Nat.reduceMul, Int.reduceToNat, Int.reduceLT, Int.reduceLE]) | refine W_block ?_ | (refine W_skip ?_; simp (maxSteps := 400000) (disch := omega) only [push_cast, ↓reduceIte, reduceCtorEq, Nat.reduceAdd, Nat.reduceSub, Nat.reduceEqDiff, Nat.reduceLeDiff, Nat.reduceLT, Nat.reduceBEq, Nat.reduceDiv, Nat.reduceMod, Nat.reducePow, Nat.reduceMul, Int.reduceToNat, Int.reduceLT, Int.reduceLE]) | (refine W_exit ?_; simp (maxSteps := 400000) (disch := omega) only [push_cast, ↓reduceIte, reduceCtorEq, Nat.reduceAdd, Nat.reduceSub, Nat.reduceEqDiff, Nat.reduceLeDiff, Nat.reduceLT, Nat.reduceBEq, Nat.reduceDiv, Nat.reduceMod, Nat.reducePow, Nat.reduceMul, Int.reduceToNat, Int.reduceLT, Int.reduceLE]) | refine And.intro (by omega) ?_ | refine And.intro (by intro hq; (try simp only [Bool.and_eq_true, Bool.or_eq_true, Bool.and_eq_false_iff, Bool.or_eq_false_iff, decide_eq_true_eq, decide_eq_false_iff_not, Bool.not_eq_true', Bool.not_eq_false', beq_iff_eq, beq_eq_false_iff_ne, ne_eq] at hq); omega) ?_ | fail)
  exact W_ret ⟨[_], ⟨rfl, rfl⟩, by
    unfold chkLog
    rw [if_neg (by omega), if_neg (by omega), if_neg (by rw [all_range.2 hR]; simp), if_neg hspan, if_neg (by rw [hD]; simp), hLn, if_neg (by rw [all_range.2 hM]; simp)]
    rfl⟩
end Go.Proofs.Ytgijpimjfoabjaa
/- The program's small functions of chapter 11. -/
namespace Go.Proofs.Ytgijpimjfoabjaa
open Go Sy
set_option maxRecDepth 100000
set_option maxHeartbeats 4000000
set_option linter.unusedVariables false
set_option linter.unusedSimpArgs false
/-- within -/
theorem fn49 (x lo hi : Int) : Sy.Fn Try.prog 49 [iv x, iv lo, iv hi] (bv (decide (lo ≤ x) && decide (x ≤ hi))) := by
  refine Fn_of_W mixed Xt49 rfl ?_
  refine W_seq (W_regL ?_)
  simp (maxSteps := 400000) (disch := omega) only [push_cast, ↓reduceIte, reduceCtorEq, Nat.reduceAdd, Nat.reduceSub, Nat.reduceEqDiff, Nat.reduceLeDiff, Nat.reduceLT, Nat.reduceBEq, Nat.reduceDiv, Nat.reduceMod, Nat.reducePow, Nat.reduceMul, Int.reduceToNat, Int.reduceLT, Int.reduceLE]
  refine W_seq (W_regL ?_)
  simp (maxSteps := 400000) (disch := omega) only [push_cast, ↓reduceIte, reduceCtorEq, Nat.reduceAdd, Nat.reduceSub, Nat.reduceEqDiff, Nat.reduceLeDiff, Nat.reduceLT, Nat.reduceBEq, Nat.reduceDiv, Nat.reduceMod, Nat.reducePow, Nat.reduceMul, Int.reduceToNat, Int.reduceLT, Int.reduceLE]
  exact W_ret ⟨[_], ⟨rfl, rfl⟩, rfl⟩
theorem okBand_two (b : Band) : (decide (-1073741824 ≤ b.lo) && decide (b.lo ≤ b.hi) && decide (b.hi ≤ 1073741824)) = okBand b := by
  unfold okBand
  rw [Bool.and_comm (decide (-1073741824 ≤ b.lo))]
/-- checkBand -/
theorem fn61 (b : Band) : Sy.Fn Try.prog 61 [.agg (cBand b)] (bv (okBand b)) := by
  refine Fn_of_W mixed Xt61 rfl ?_
  refine W_seq (W_regL ?_)
  simp (maxSteps := 400000) (disch := omega) only [push_cast, ↓reduceIte, reduceCtorEq, Nat.reduceAdd, Nat.reduceSub, Nat.reduceEqDiff, Nat.reduceLeDiff, Nat.reduceLT, Nat.reduceBEq, Nat.reduceDiv, Nat.reduceMod, Nat.reducePow, Nat.reduceMul, Int.reduceToNat, Int.reduceLT, Int.reduceLE]
  refine W_seq (W_regL ?_)
  simp (maxSteps := 400000) (disch := omega) only [push_cast, ↓reduceIte, reduceCtorEq, Nat.reduceAdd, Nat.reduceSub, Nat.reduceEqDiff, Nat.reduceLeDiff, Nat.reduceLT, Nat.reduceBEq, Nat.reduceDiv, Nat.reduceMod, Nat.reducePow, Nat.reduceMul, Int.reduceToNat, Int.reduceLT, Int.reduceLE]
  refine CallC.now (fn49 _ _ _) ?_
  simp (maxSteps := 400000) (disch := omega) only [push_cast, ↓reduceIte, reduceCtorEq, Nat.reduceAdd, Nat.reduceSub, Nat.reduceEqDiff, Nat.reduceLeDiff, Nat.reduceLT, Nat.reduceBEq, Nat.reduceDiv, Nat.reduceMod, Nat.reducePow, Nat.reduceMul, Int.reduceToNat, Int.reduceLT, Int.reduceLE]
  exact W_ret ⟨[_], ⟨rfl, rfl⟩, by rw [← okBand_two]; rfl⟩
theorem fn69 (x : Int) : Sy.Fn Try.prog 69 [iv x] (bv (!(decide (0 ≤ x) && decide (x ≤ 1048576)))) := by
  refine Fn_of_W mixed Xt69 rfl ?_
  refine W_seq (W_regL ?_)
  simp (maxSteps := 400000) (disch := omega) only [push_cast, ↓reduceIte, reduceCtorEq, Nat.reduceAdd, Nat.reduceSub, Nat.reduceEqDiff, Nat.reduceLeDiff, Nat.reduceLT, Nat.reduceBEq, Nat.reduceDiv, Nat.reduceMod, Nat.reducePow, Nat.reduceMul, Int.reduceToNat, Int.reduceLT, Int.reduceLE]
  refine W_seq (W_regL ?_)
  simp (maxSteps := 400000) (disch := omega) only [push_cast, ↓reduceIte, reduceCtorEq, Nat.reduceAdd, Nat.reduceSub, Nat.reduceEqDiff, Nat.reduceLeDiff, Nat.reduceLT, Nat.reduceBEq, Nat.reduceDiv, Nat.reduceMod, Nat.reducePow, Nat.reduceMul, Int.reduceToNat, Int.reduceLT, Int.reduceLE]
  refine CallC.now (fn49 _ _ _) ?_
  simp (maxSteps := 400000) (disch := omega) only [push_cast, ↓reduceIte, reduceCtorEq, Nat.reduceAdd, Nat.reduceSub, Nat.reduceEqDiff, Nat.reduceLeDiff, Nat.reduceLT, Nat.reduceBEq, Nat.reduceDiv, Nat.reduceMod, Nat.reducePow, Nat.reduceMul, Int.reduceToNat, Int.reduceLT, Int.reduceLE]
  exact W_ret ⟨[_], ⟨rfl, rfl⟩, rfl⟩
theorem fn71 (b : Band) : Sy.Fn Try.prog 71 [.agg (cBand b)] (bv (!okBand b)) := by
  refine Fn_of_W mixed Xt71 rfl ?_
  refine W_seq (W_regL ?_)
  simp (maxSteps := 400000) (disch := omega) only [push_cast, ↓reduceIte, reduceCtorEq, Nat.reduceAdd, Nat.reduceSub, Nat.reduceEqDiff, Nat.reduceLeDiff, Nat.reduceLT, Nat.reduceBEq, Nat.reduceDiv, Nat.reduceMod, Nat.reducePow, Nat.reduceMul, Int.reduceToNat, Int.reduceLT, Int.reduceLE]
  refine W_seq (W_regL ?_)
  simp (maxSteps := 400000) (disch := omega) only [push_cast, ↓reduceIte, reduceCtorEq, Nat.reduceAdd, Nat.reduceSub, Nat.reduceEqDiff, Nat.reduceLeDiff, Nat.reduceLT, Nat.reduceBEq, Nat.reduceDiv, Nat.reduceMod, Nat.reducePow, Nat.reduceMul, Int.reduceToNat, Int.reduceLT, Int.reduceLE]
  refine CallC.now (fn61 _) ?_
  simp (maxSteps := 400000) (disch := omega) only [push_cast, ↓reduceIte, reduceCtorEq, Nat.reduceAdd, Nat.reduceSub, Nat.reduceEqDiff, Nat.reduceLeDiff, Nat.reduceLT, Nat.reduceBEq, Nat.reduceDiv, Nat.reduceMod, Nat.reducePow, Nat.reduceMul, Int.reduceToNat, Int.reduceLT, Int.reduceLE]
  exact W_ret ⟨[_], ⟨rfl, rfl⟩, rfl⟩
/-! meet -/
def meet1 (a b : Band) : Band := ⟨max a.lo b.lo, min a.hi b.hi⟩
def meetL : Band → List Band → Band
  | a, [] => a
  | a, b :: r => meetL (meet1 a b) r
theorem meetL_append (b : Band) : ∀ (l : List Band) (a : Band), meetL a (l ++ [b]) = meet1 (meetL a l) b
  | [], a => rfl
  | x :: l, a => meetL_append b l _
theorem take_getD {α : Type} (l : List α) (d : α) (i : Nat) (h : i < l.length) : l.take (i + 1) = l.take i ++ [l.getD i d] := by
  rw [List.take_succ_eq_append_getElem h]
  simp [h]
theorem fn83 (l : List Band) (h1 : 1 ≤ l.length) (h2 : l.length ≤ 1000000) : Sy.Fn Try.prog 83 [.sl 2 dB cBand l] (.agg (cBand (meetL (l.getD 0 dB) (l.drop 1)))) := by
  refine Fn_of_W mixed Xt83 rfl ?_
  refine W_seq (W_regL ?_)
  simp (maxSteps := 400000) (disch := omega) only [push_cast, ↓reduceIte, reduceCtorEq, Nat.reduceAdd, Nat.reduceSub, Nat.reduceEqDiff, Nat.reduceLeDiff, Nat.reduceLT, Nat.reduceBEq, Nat.reduceDiv, Nat.reduceMod, Nat.reducePow, Nat.reduceMul, Int.reduceToNat, Int.reduceLT, Int.reduceLE]
  refine W_seq (W_regL ?_)
  simp (maxSteps := 400000) (disch := omega) only [push_cast, ↓reduceIte, reduceCtorEq, Nat.reduceAdd, Nat.reduceSub, Nat.reduceEqDiff, Nat.reduceLeDiff, Nat.reduceLT, Nat.reduceBEq, Nat.reduceDiv, Nat.reduceMod, Nat.reducePow, Nat.reduceMul, Int.reduceToNat, Int.reduceLT, Int.reduceLE]
  refine ⟨by omega, ?_⟩
  refine W_seq (W_seq ?_)
  refine W_regL ?_
  simp (maxSteps := 400000) (disch := omega) only [push_cast, ↓reduceIte, reduceCtorEq, Nat.reduceAdd, Nat.reduceSub, Nat.reduceEqDiff, Nat.reduceLeDiff, Nat.reduceLT, Nat.reduceBEq, Nat.reduceDiv, Nat.reduceMod, Nat.reducePow, Nat.reduceMul, Int.reduceToNat, Int.reduceLT, Int.reduceLE]
  refine ⟨by omega, ?_⟩
  have hd : (l.drop 1).length = l.length - 1 := by simp
  generalize l.drop 1 = m at hd ⊢
  generalize l.getD 0 dB = b0
  refine W_block ?_
  refine W_loop (fun i : Nat => ⟨[(2, .own 0 0), (3, .own 4 0), (10, .sl 2 dB cBand m), (11, iv m.length), (12, iv i)], [(0, .cells [iv 0, iv 0]), (4, .cells (cBand (meetL b0 (m.take i))))], 11⟩) (fun i => i ≤ m.length) (fun i => m.length - i) 0 (by omega) (le_to [2, 3, 10, 11, 12] [0, 4] 11 rfl rfl) (fun i hi => ?_)
  refine W_seq ?_
  refine W_regL ?_
  simp (maxSteps := 400000) (disch := omega) only [push_cast, ↓reduceIte, reduceCtorEq, Nat.reduceAdd, Nat.reduceSub, Nat.reduceEqDiff, Nat.reduceLeDiff, Nat.reduceLT, Nat.reduceBEq, Nat.reduceDiv, Nat.reduceMod, Nat.reducePow, Nat.reduceMul, Int.reduceToNat, Int.reduceLT, Int.reduceLE]
  refine W_seq (W_cond (by rfl) (fun h => ?_) (fun h => ?_))
  · have h := of_decide_eq_true h
    have hlt : i < m.length := by omega
    refine W_skip ?_
    simp (maxSteps := 400000) (disch := omega) only [push_cast, ↓reduceIte, reduceCtorEq, Nat.reduceAdd, Nat.reduceSub, Nat.reduceEqDiff, Nat.reduceLeDiff, Nat.reduceLT, Nat.reduceBEq, Nat.reduceDiv, Nat.reduceMod, Nat.reducePow, Nat.reduceMul, Int.reduceToNat, Int.reduceLT, Int.reduceLE]
    refine W_seq (W_block (W_seq ?_))
    refine W_regL ?_
    simp (maxSteps := 400000) (disch := omega) only [push_cast, ↓reduceIte, reduceCtorEq, Nat.reduceAdd, Nat.reduceSub, Nat.reduceEqDiff, Nat.reduceLeDiff, Nat.reduceLT, Nat.reduceBEq, Nat.reduceDiv, Nat.reduceMod, Nat.reducePow, Nat.reduceMul, Int.reduceToNat, Int.reduceLT, Int.reduceLE]
    refine ⟨by omega, ?_⟩
    refine W_regL ?_
    simp (maxSteps := 400000) (disch := omega) only [push_cast, ↓reduceIte, reduceCtorEq, Nat.reduceAdd, Nat.reduceSub, Nat.reduceEqDiff, Nat.reduceLeDiff, Nat.reduceLT, Nat.reduceBEq, Nat.reduceDiv, Nat.reduceMod, Nat.reducePow, Nat.reduceMul, Int.reduceToNat, Int.reduceLT, Int.reduceLE]
    refine W_regL ?_
    simp (maxSteps := 400000) (disch := omega) only [push_cast, ↓reduceIte, reduceCtorEq, Nat.reduceAdd, Nat.reduceSub, Nat.reduceEqDiff, Nat.reduceLeDiff, Nat.reduceLT, Nat.reduceBEq, Nat.reduceDiv, Nat.reduceMod, Nat.reducePow, Nat.reduceMul, Int.reduceToNat, Int.reduceLT, Int.reduceLE]
    refine ⟨i + 1, by omega, by omega, le_to [2, 3, 10, 11, 12] [0, 4] 11 rfl ?_⟩
    simp (maxSteps := 400000) (disch := omega) only [push_cast, ↓reduceIte, reduceCtorEq, Nat.reduceAdd, Nat.reduceSub, Nat.reduceEqDiff, Nat.reduceLeDiff, Nat.reduceLT, Nat.reduceBEq, Nat.reduceDiv, Nat.reduceMod, Nat.reducePow, Nat.reduceMul, Int.reduceToNat, Int.reduceLT, Int.reduceLE, S.mk.injEq, List.cons.injEq, Prod.mk.injEq, AV.v.injEq, Value.int.injEq, Value.bool.injEq, Blk.cells.injEq]
    rw [take_getD m dB i hlt, meetL_append]
    all_goals first | rfl | omega | exact ⟨rfl, rfl⟩ | exact ⟨rfl, by omega⟩ | exact ⟨by omega, rfl⟩ | exact ⟨by omega, rfl, rfl⟩
  · have h := of_decide_eq_false h
    refine W_exit ?_
    simp (maxSteps := 400000) (disch := omega) only [push_cast, ↓reduceIte, reduceCtorEq, Nat.reduceAdd, Nat.reduceSub, Nat.reduceEqDiff, Nat.reduceLeDiff, Nat.reduceLT, Nat.reduceBEq, Nat.reduceDiv, Nat.reduceMod, Nat.reducePow, Nat.reduceMul, Int.reduceToNat, Int.reduceLT, Int.reduceLE]
    have e : i = m.length := by omega
    subst e
    rw [List.take_length]
    refine W_seq (W_regL ?_)
    simp (maxSteps := 400000) (disch := omega) only [push_cast, ↓reduceIte, reduceCtorEq, Nat.reduceAdd, Nat.reduceSub, Nat.reduceEqDiff, Nat.reduceLeDiff, Nat.reduceLT, Nat.reduceBEq, Nat.reduceDiv, Nat.reduceMod, Nat.reducePow, Nat.reduceMul, Int.reduceToNat, Int.reduceLT, Int.reduceLE]
    exact W_ret ⟨[_], ⟨⟨by simp, rfl⟩, rfl⟩, rfl⟩
end Go.Proofs.Ytgijpimjfoabjaa
/- The library's searches in a list, and the spans of the program. -/
namespace Go.Proofs.Ytgijpimjfoabjaa
open Go Sy
set_option maxRecDepth 100000
set_option maxHeartbeats 4000000
set_option linter.unusedVariables false
set_option linter.unusedSimpArgs false
def idxF {α : Type} (p : α → Bool) : List α → Int → Int
  | [], _ => -1
  | x :: r, i => if p x then i else idxF p r (i + 1)
theorem idxF_at {α : Type} (p : α → Bool) (d : α) : ∀ (l : List α) (i : Nat) (k : Int), i < l.length → (∀ j, j < i → p (l.getD j d) = false) → p (l.getD i d) = true → idxF p l k = k + i
  | [], i, k, h, _, _ => by simp at h
  | x :: r, 0, k, _, _, h => by simp at h; simp [idxF, h]
  | x :: r, i + 1, k, h, hj, hp => by
    have h0 : p x = false := by simpa using hj 0 (by omega)
    have := idxF_at p d r i (k + 1) (by simpa using h) (fun j hlt => by simpa using hj (j + 1) (by omega)) (by simpa using hp)
    simp only [idxF, h0, Bool.false_eq_true, if_false, this]
    omega
theorem idxF_none {α : Type} (p : α → Bool) (d : α) : ∀ (l : List α) (k : Int), (∀ j, j < l.length → p (l.getD j d) = false) → idxF p l k = -1
  | [], k, _ => rfl
  | x :: r, k, h => by
    have h0 : p x = false := by simpa using h 0 (by simp)
    have := idxF_none p d r (k + 1) (fun j hlt => by simpa using h (j + 1) (by simpa using hlt))
    simp only [idxF, h0, Bool.false_eq_true, if_false, this]
theorem idxF_any {α : Type} (p : α → Bool) : ∀ (l : List α) (k : Int), 0 ≤ k → decide (0 ≤ idxF p l k) = l.any p
  | [], k, _ => by simp [idxF]
  | x :: r, k, h => by
    simp only [idxF, List.any_cons]
    by_cases hp : p x = true
    · simp [hp, h]
    · simp only [hp]
      simpa using idxF_any p r (k + 1) (by omega)
def cI (n : Int) : List AV := [iv n]
theorem nI (n : Int) : nth (cI n) 0 = iv n := rfl
theorem lI (n : Int) : (cI n).length = 1 := rfl
attribute [push_cast] nI lI
theorem fn81 (l : List Int) (hl : l.length ≤ 1000000) (g : Nat) (fi ca : List AV) (p : Int → Bool) (hg : ∀ x ∈ l, Sy.Fn Try.prog g (fi ++ [iv x] ++ ca) (bv (p x))) : Sy.Fn Try.prog 81 [.sl 1 0 cI l, .clo g fi ca] (iv (idxF p l 0)) := by
  refine Fn_of_W mixed Xt81 rfl ?_
  refine W_seq (W_regL ?_)
  simp (maxSteps := 400000) (disch := omega) only [push_cast, ↓reduceIte, reduceCtorEq, Nat.reduceAdd, Nat.reduceSub, Nat.reduceEqDiff, Nat.reduceLeDiff, Nat.reduceLT, Nat.reduceBEq, Nat.reduceDiv, Nat.reduceMod, Nat.reducePow, Nat.reduceMul, Int.reduceToNat, Int.reduceLT, Int.reduceLE]
  refine W_seq (W_seq ?_)
  refine W_regL ?_
  simp (maxSteps := 400000) (disch := omega) only [push_cast, ↓reduceIte, reduceCtorEq, Nat.reduceAdd, Nat.reduceSub, Nat.reduceEqDiff, Nat.reduceLeDiff, Nat.reduceLT, Nat.reduceBEq, Nat.reduceDiv, Nat.reduceMod, Nat.reducePow, Nat.reduceMul, Int.reduceToNat, Int.reduceLT, Int.reduceLE]
  refine W_block ?_
  refine W_loop (fun i : Nat => ⟨[(0, .sl 1 0 cI l), (1, .clo g fi ca), (7, iv l.length), (8, iv i)], [], 4⟩) (fun i => i ≤ l.length ∧ ∀ j, j < i → p (l.getD j 0) = false) (fun i => l.length - i) 0 ⟨by omega, fun j hj => by omega⟩ (le_to [0, 1, 7, 8] [] 4 rfl rfl) (fun i hi => ?_)
  obtain ⟨hi, hp⟩ := hi
  refine W_seq ?_
  refine W_regL ?_
  simp (maxSteps := 400000) (disch := omega) only [push_cast, ↓reduceIte, reduceCtorEq, Nat.reduceAdd, Nat.reduceSub, Nat.reduceEqDiff, Nat.reduceLeDiff, Nat.reduceLT, Nat.reduceBEq, Nat.reduceDiv, Nat.reduceMod, Nat.reducePow, Nat.reduceMul, Int.reduceToNat, Int.reduceLT, Int.reduceLE]
  refine W_seq (W_cond (by rfl) (fun h => ?_) (fun h => ?_))
  · have h := of_decide_eq_true h
    have hlt : i < l.length := by omega
    refine W_skip ?_
    simp (maxSteps := 400000) (disch := omega) only [push_cast, ↓reduceIte, reduceCtorEq, Nat.reduceAdd, Nat.reduceSub, Nat.reduceEqDiff, Nat.reduceLeDiff, Nat.reduceLT, Nat.reduceBEq, Nat.reduceDiv, Nat.reduceMod, Nat.reducePow, Nat.reduceMul, Int.reduceToNat, Int.reduceLT, Int.reduceLE]
    refine W_seq (W_block (W_seq ?_))
    refine W_regL ?_
    simp (maxSteps := 400000) (disch := omega) only [push_cast, ↓reduceIte, reduceCtorEq, Nat.reduceAdd, Nat.reduceSub, Nat.reduceEqDiff, Nat.reduceLeDiff, Nat.reduceLT, Nat.reduceBEq, Nat.reduceDiv, Nat.reduceMod, Nat.reducePow, Nat.reduceMul, Int.reduceToNat, Int.reduceLT, Int.reduceLE]
    refine W_seq ?_
    refine W_regL ?_
    simp (maxSteps := 400000) (disch := omega) only [push_cast, ↓reduceIte, reduceCtorEq, Nat.reduceAdd, Nat.reduceSub, Nat.reduceEqDiff, Nat.reduceLeDiff, Nat.reduceLT, Nat.reduceBEq, Nat.reduceDiv, Nat.reduceMod, Nat.reducePow, Nat.reduceMul, Int.reduceToNat, Int.reduceLT, Int.reduceLE, nI, lI]
    refine ⟨by omega, ?_⟩
    refine CallC.now (hg (l.getD i 0) (by simp [hlt])) ?_
    simp (maxSteps := 400000) (disch := omega) only [push_cast, ↓reduceIte, reduceCtorEq, Nat.reduceAdd, Nat.reduceSub, Nat.reduceEqDiff, Nat.reduceLeDiff, Nat.reduceLT, Nat.reduceBEq, Nat.reduceDiv, Nat.reduceMod, Nat.reducePow, Nat.reduceMul, Int.reduceToNat, Int.reduceLT, Int.reduceLE]
    refine W_cond (by rfl) (fun hb => ?_) (fun hb => ?_)
    · refine W_seq (W_regL ?_)
      simp (maxSteps := 400000) (disch := omega) only [push_cast, ↓reduceIte, reduceCtorEq, Nat.reduceAdd, Nat.reduceSub, Nat.reduceEqDiff, Nat.reduceLeDiff, Nat.reduceLT, Nat.reduceBEq, Nat.reduceDiv, Nat.reduceMod, Nat.reducePow, Nat.reduceMul, Int.reduceToNat, Int.reduceLT, Int.reduceLE]
      exact W_ret ⟨[_], ⟨rfl, rfl⟩, by rw [idxF_at p 0 l i 0 hlt hp hb, Int.zero_add]; rfl⟩
    refine W_skip ?_
    simp (maxSteps := 400000) (disch := omega) only [push_cast, ↓reduceIte, reduceCtorEq, Nat.reduceAdd, Nat.reduceSub, Nat.reduceEqDiff, Nat.reduceLeDiff, Nat.reduceLT, Nat.reduceBEq, Nat.reduceDiv, Nat.reduceMod, Nat.reducePow, Nat.reduceMul, Int.reduceToNat, Int.reduceLT, Int.reduceLE]
    refine W_regL ?_
    simp (maxSteps := 400000) (disch := omega) only [push_cast, ↓reduceIte, reduceCtorEq, Nat.reduceAdd, Nat.reduceSub, Nat.reduceEqDiff, Nat.reduceLeDiff, Nat.reduceLT, Nat.reduceBEq, Nat.reduceDiv, Nat.reduceMod, Nat.reducePow, Nat.reduceMul, Int.reduceToNat, Int.reduceLT, Int.reduceLE]
    refine ⟨i + 1, ⟨by omega, fun j hj => ?_⟩, by omega, le_to [0, 1, 7, 8] [] 4 rfl ?_⟩
    · rcases Nat.lt_succ_iff_lt_or_eq.1 hj with hj | rfl
      · exact hp j hj
      · exact hb
    · simp (maxSteps := 400000) (disch := omega) only [push_cast, ↓reduceIte, reduceCtorEq, Nat.reduceAdd, Nat.reduceSub, Nat.reduceEqDiff, Nat.reduceLeDiff, Nat.reduceLT, Nat.reduceBEq, Nat.reduceDiv, Nat.reduceMod, Nat.reducePow, Nat.reduceMul, Int.reduceToNat, Int.reduceLT, Int.reduceLE, S.mk.injEq, List.cons.injEq, Prod.mk.injEq, AV.v.injEq, Value.int.injEq, Value.bool.injEq, Blk.cells.injEq]
      all_goals omega
  · have h := of_decide_eq_false h
    refine W_exit ?_
    simp (maxSteps := 400000) (disch := omega) only [push_cast, ↓reduceIte, reduceCtorEq, Nat.reduceAdd, Nat.reduceSub, Nat.reduceEqDiff, Nat.reduceLeDiff, Nat.reduceLT, Nat.reduceBEq, Nat.reduceDiv, Nat.reduceMod, Nat.reducePow, Nat.reduceMul, Int.reduceToNat, Int.reduceLT, Int.reduceLE]
    refine W_seq (W_regL ?_)
    simp (maxSteps := 400000) (disch := omega) only [push_cast, ↓reduceIte, reduceCtorEq, Nat.reduceAdd, Nat.reduceSub, Nat.reduceEqDiff, Nat.reduceLeDiff, Nat.reduceLT, Nat.reduceBEq, Nat.reduceDiv, Nat.reduceMod, Nat.reducePow, Nat.reduceMul, Int.reduceToNat, Int.reduceLT, Int.reduceLE]
    exact W_ret ⟨[_], ⟨rfl, rfl⟩, by rw [idxF_none p 0 l 0 (fun j hj => hp j (by omega))]; rfl⟩
theorem fn68 (l : List Int) (hl : l.length ≤ 1000000) (g : Nat) (fi ca : List AV) (p : Int → Bool) (hg : ∀ x ∈ l, Sy.Fn Try.prog g (fi ++ [iv x] ++ ca) (bv (p x))) : Sy.Fn Try.prog 68 [.sl 1 0 cI l, .clo g fi ca] (bv (l.any p)) := by
  refine Fn_of_W mixed Xt68 rfl ?_
  refine W_seq (W_regL ?_)
  simp (maxSteps := 400000) (disch := omega) only [push_cast, ↓reduceIte, reduceCtorEq, Nat.reduceAdd, Nat.reduceSub, Nat.reduceEqDiff, Nat.reduceLeDiff, Nat.reduceLT, Nat.reduceBEq, Nat.reduceDiv, Nat.reduceMod, Nat.reducePow, Nat.reduceMul, Int.reduceToNat, Int.reduceLT, Int.reduceLE]
  refine W_seq (W_regL ?_)
  simp (maxSteps := 400000) (disch := omega) only [push_cast, ↓reduceIte, reduceCtorEq, Nat.reduceAdd, Nat.reduceSub, Nat.reduceEqDiff, Nat.reduceLeDiff, Nat.reduceLT, Nat.reduceBEq, Nat.reduceDiv, Nat.reduceMod, Nat.reducePow, Nat.reduceMul, Int.reduceToNat, Int.reduceLT, Int.reduceLE]
  refine CallC.now (fn81 l hl g fi ca p hg) ?_
  simp (maxSteps := 400000) (disch := omega) only [push_cast, ↓reduceIte, reduceCtorEq, Nat.reduceAdd, Nat.reduceSub, Nat.reduceEqDiff, Nat.reduceLeDiff, Nat.reduceLT, Nat.reduceBEq, Nat.reduceDiv, Nat.reduceMod, Nat.reducePow, Nat.reduceMul, Int.reduceToNat, Int.reduceLT, Int.reduceLE]
  exact W_ret ⟨[_], ⟨rfl, rfl⟩, by rw [← idxF_any p l 0 (by omega)]; rfl⟩
theorem fn82 (l : List Band) (hl : l.length ≤ 1000000) (g : Nat) (fi ca : List AV) (p : Band → Bool) (hg : ∀ x ∈ l, Sy.Fn Try.prog g (fi ++ [.agg (cBand x)] ++ ca) (bv (p x))) : Sy.Fn Try.prog 82 [.sl 2 dB cBand l, .clo g fi ca] (iv (idxF p l 0)) := by
  refine Fn_of_W mixed Xt82 rfl ?_
  refine W_seq (W_regL ?_)
  simp (maxSteps := 400000) (disch := omega) only [push_cast, ↓reduceIte, reduceCtorEq, Nat.reduceAdd, Nat.reduceSub, Nat.reduceEqDiff, Nat.reduceLeDiff, Nat.reduceLT, Nat.reduceBEq, Nat.reduceDiv, Nat.reduceMod, Nat.reducePow, Nat.reduceMul, Int.reduceToNat, Int.reduceLT, Int.reduceLE]
  refine W_seq (W_seq ?_)
  refine W_regL ?_
  simp (maxSteps := 400000) (disch := omega) only [push_cast, ↓reduceIte, reduceCtorEq, Nat.reduceAdd, Nat.reduceSub, Nat.reduceEqDiff, Nat.reduceLeDiff, Nat.reduceLT, Nat.reduceBEq, Nat.reduceDiv, Nat.reduceMod, Nat.reducePow, Nat.reduceMul, Int.reduceToNat, Int.reduceLT, Int.reduceLE]
  refine W_block ?_
  refine W_loop (fun i : Nat => ⟨[(0, .sl 2 dB cBand l), (1, .clo g fi ca), (7, iv l.length), (8, iv i)], [], 4⟩) (fun i => i ≤ l.length ∧ ∀ j, j < i → p (l.getD j dB) = false) (fun i => l.length - i) 0 ⟨by omega, fun j hj => by omega⟩ (le_to [0, 1, 7, 8] [] 4 rfl rfl) (fun i hi => ?_)
  obtain ⟨hi, hp⟩ := hi
  refine W_seq ?_
  refine W_regL ?_
  simp (maxSteps := 400000) (disch := omega) only [push_cast, ↓reduceIte, reduceCtorEq, Nat.reduceAdd, Nat.reduceSub, Nat.reduceEqDiff, Nat.reduceLeDiff, Nat.reduceLT, Nat.reduceBEq, Nat.reduceDiv, Nat.reduceMod, Nat.reducePow, Nat.reduceMul, Int.reduceToNat, Int.reduceLT, Int.reduceLE]
  refine W_seq (W_cond (by rfl) (fun h => ?_) (fun h => ?_))
  · have h := of_decide_eq_true h
    have hlt : i < l.length := by omega
    refine W_skip ?_
    simp (maxSteps := 400000) (disch := omega) only [push_cast, ↓reduceIte, reduceCtorEq, Nat.reduceAdd, Nat.reduceSub, Nat.reduceEqDiff, Nat.reduceLeDiff, Nat.reduceLT, Nat.reduceBEq, Nat.reduceDiv, Nat.reduceMod, Nat.reducePow, Nat.reduceMul, Int.reduceToNat, Int.reduceLT, Int.reduceLE]
    refine W_seq (W_block (W_seq ?_))
    refine W_regL ?_
    simp (maxSteps := 400000) (disch := omega) only [push_cast, ↓reduceIte, reduceCtorEq, Nat.reduceAdd, Nat.reduceSub, Nat.reduceEqDiff, Nat.reduceLeDiff, Nat.reduceLT, Nat.reduceBEq, Nat.reduceDiv, Nat.reduceMod, Nat.reducePow, Nat.reduceMul, Int.reduceToNat, Int.reduceLT, Int.reduceLE]
    refine W_seq ?_
    refine W_regL ?_
    simp (maxSteps := 400000) (disch := omega) only [push_cast, ↓reduceIte, reduceCtorEq, Nat.reduceAdd, Nat.reduceSub, Nat.reduceEqDiff, Nat.reduceLeDiff, Nat.reduceLT, Nat.reduceBEq, Nat.reduceDiv, Nat.reduceMod, Nat.reducePow, Nat.reduceMul, Int.reduceToNat, Int.reduceLT, Int.reduceLE, nI, lI]
    refine ⟨by omega, ?_⟩
    refine CallC.now (hg (l.getD i dB) (by simp [hlt])) ?_
    simp (maxSteps := 400000) (disch := omega) only [push_cast, ↓reduceIte, reduceCtorEq, Nat.reduceAdd, Nat.reduceSub, Nat.reduceEqDiff, Nat.reduceLeDiff, Nat.reduceLT, Nat.reduceBEq, Nat.reduceDiv, Nat.reduceMod, Nat.reducePow, Nat.reduceMul, Int.reduceToNat, Int.reduceLT, Int.reduceLE]
    refine W_cond (by rfl) (fun hb => ?_) (fun hb => ?_)
    · refine W_seq (W_regL ?_)
      simp (maxSteps := 400000) (disch := omega) only [push_cast, ↓reduceIte, reduceCtorEq, Nat.reduceAdd, Nat.reduceSub, Nat.reduceEqDiff, Nat.reduceLeDiff, Nat.reduceLT, Nat.reduceBEq, Nat.reduceDiv, Nat.reduceMod, Nat.reducePow, Nat.reduceMul, Int.reduceToNat, Int.reduceLT, Int.reduceLE]
      exact W_ret ⟨[_], ⟨rfl, rfl⟩, by rw [idxF_at p dB l i 0 hlt hp hb, Int.zero_add]; rfl⟩
    refine W_skip ?_
    simp (maxSteps := 400000) (disch := omega) only [push_cast, ↓reduceIte, reduceCtorEq, Nat.reduceAdd, Nat.reduceSub, Nat.reduceEqDiff, Nat.reduceLeDiff, Nat.reduceLT, Nat.reduceBEq, Nat.reduceDiv, Nat.reduceMod, Nat.reducePow, Nat.reduceMul, Int.reduceToNat, Int.reduceLT, Int.reduceLE]
    refine W_regL ?_
    simp (maxSteps := 400000) (disch := omega) only [push_cast, ↓reduceIte, reduceCtorEq, Nat.reduceAdd, Nat.reduceSub, Nat.reduceEqDiff, Nat.reduceLeDiff, Nat.reduceLT, Nat.reduceBEq, Nat.reduceDiv, Nat.reduceMod, Nat.reducePow, Nat.reduceMul, Int.reduceToNat, Int.reduceLT, Int.reduceLE]
    refine ⟨i + 1, ⟨by omega, fun j hj => ?_⟩, by omega, le_to [0, 1, 7, 8] [] 4 rfl ?_⟩
    · rcases Nat.lt_succ_iff_lt_or_eq.1 hj with hj | rfl
      · exact hp j hj
      · exact hb
    · simp (maxSteps := 400000) (disch := omega) only [push_cast, ↓reduceIte, reduceCtorEq, Nat.reduceAdd, Nat.reduceSub, Nat.reduceEqDiff, Nat.reduceLeDiff, Nat.reduceLT, Nat.reduceBEq, Nat.reduceDiv, Nat.reduceMod, Nat.reducePow, Nat.reduceMul, Int.reduceToNat, Int.reduceLT, Int.reduceLE, S.mk.injEq, List.cons.injEq, Prod.mk.injEq, AV.v.injEq, Value.int.injEq, Value.bool.injEq, Blk.cells.injEq]
      all_goals omega
  · have h := of_decide_eq_false h
    refine W_exit ?_
    simp (maxSteps := 400000) (disch := omega) only [push_cast, ↓reduceIte, reduceCtorEq, Nat.reduceAdd, Nat.reduceSub, Nat.reduceEqDiff, Nat.reduceLeDiff, Nat.reduceLT, Nat.reduceBEq, Nat.reduceDiv, Nat.reduceMod, Nat.reducePow, Nat.reduceMul, Int.reduceToNat, Int.reduceLT, Int.reduceLE]
    refine W_seq (W_regL ?_)
    simp (maxSteps := 400000) (disch := omega) only [push_cast, ↓reduceIte, reduceCtorEq, Nat.reduceAdd, Nat.reduceSub, Nat.reduceEqDiff, Nat.reduceLeDiff, Nat.reduceLT, Nat.reduceBEq, Nat.reduceDiv, Nat.reduceMod, Nat.reducePow, Nat.reduceMul, Int.reduceToNat, Int.reduceLT, Int.reduceLE]
    exact W_ret ⟨[_], ⟨rfl, rfl⟩, by rw [idxF_none p dB l 0 (fun j hj => hp j (by omega))]; rfl⟩
theorem fn70 (l : List Band) (hl : l.length ≤ 1000000) (g : Nat) (fi ca : List AV) (p : Band → Bool) (hg : ∀ x ∈ l, Sy.Fn Try.prog g (fi ++ [AV.agg (cBand x)] ++ ca) (bv (p x))) : Sy.Fn Try.prog 70 [.sl 2 dB cBand l, .clo g fi ca] (bv (l.any p)) := by
  refine Fn_of_W mixed Xt70 rfl ?_
  refine W_seq (W_regL ?_)
  simp (maxSteps := 400000) (disch := omega) only [push_cast, ↓reduceIte, reduceCtorEq, Nat.reduceAdd, Nat.reduceSub, Nat.reduceEqDiff, Nat.reduceLeDiff, Nat.reduceLT, Nat.reduceBEq, Nat.reduceDiv, Nat.reduceMod, Nat.reducePow, Nat.reduceMul, Int.reduceToNat, Int.reduceLT, Int.reduceLE]
  refine W_seq (W_regL ?_)
  simp (maxSteps := 400000) (disch := omega) only [push_cast, ↓reduceIte, reduceCtorEq, Nat.reduceAdd, Nat.reduceSub, Nat.reduceEqDiff, Nat.reduceLeDiff, Nat.reduceLT, Nat.reduceBEq, Nat.reduceDiv, Nat.reduceMod, Nat.reducePow, Nat.reduceMul, Int.reduceToNat, Int.reduceLT, Int.reduceLE]
  refine CallC.now (fn82 l hl g fi ca p hg) ?_
  simp (maxSteps := 400000) (disch := omega) only [push_cast, ↓reduceIte, reduceCtorEq, Nat.reduceAdd, Nat.reduceSub, Nat.reduceEqDiff, Nat.reduceLeDiff, Nat.reduceLT, Nat.reduceBEq, Nat.reduceDiv, Nat.reduceMod, Nat.reducePow, Nat.reduceMul, Int.reduceToNat, Int.reduceLT, Int.reduceLE]
  exact W_ret ⟨[_], ⟨rfl, rfl⟩, by rw [← idxF_any p l 0 (by omega)]; rfl⟩

/-! the course -/
def cCrs (l : Log) (st : Int) (X : List AV) : List AV := cLog l ++ (iv st :: X)
theorem nC0 (l : Log) (st : Int) (X : List AV) : nth (cCrs l st X) 0 = .sl 11 dR cR l.rs := rfl
theorem nC5 (l : Log) (st : Int) (X : List AV) : nth (cCrs l st X) 5 = iv st := rfl
theorem nCd (l : Log) (st : Int) (X : List AV) (k : Nat) (h : k < 4) : nth (cCrs l st X) (1 + k * 1) = iv (drift l k) := by
  rcases k with _ | _ | _ | _ | k <;> first | rfl | omega
theorem lC (l : Log) (st : Int) (X : List AV) : (cCrs l st X).length = X.length + 6 := by simp [cCrs, lL]; omega
theorem frC (l : Log) (st : Int) (X : List AV) : frzAll (cCrs l st X) = frzAll X := rfl
attribute [push_cast] nC0 nC5 nCd lC
theorem pLo_ge (t : Int) : ∀ (l : List Reading) (a : Int), a ≤ pLo t a l
  | [], a => Int.le_refl a
  | r :: l, a => by
    simp only [pLo]
    split
    · have := pLo_ge t l (max a r.place.lo); omega
    · exact pLo_ge t l a
theorem pHi_le (t : Int) : ∀ (l : List Reading) (a : Int), pHi t a l ≤ a
  | [], a => Int.le_refl a
  | r :: l, a => by
    simp only [pHi]
    split
    · have := pHi_le t l (min a r.place.hi); omega
    · exact pHi_le t l a
def cplace (l : Log) (t : Int) : Band := ⟨pLo t (-1073741824) l.rs, pHi t 1073741824 l.rs⟩
theorem fn83two (b1 b2 : Band) : Sy.Fn Try.prog 83 [.sl 2 dB cBand [b1, b2]] (.agg (cBand (meet1 b1 b2))) := fn83 [b1, b2] (by simp) (by simp)
theorem fn73 (l : Log) (st t : Int) (X : List AV) (h3 : l.rs.length ≤ 1000000) : Sy.Fn Try.prog 73 [.fp (cCrs l st X) 0, iv t] (.agg (cBand (cplace l t))) := by
  refine Fn_of_W mixed Xt73 rfl ?_
  refine W_seq (W_regL ?_)
  simp (maxSteps := 400000) (disch := omega) only [push_cast, ↓reduceIte, reduceCtorEq, Nat.reduceAdd, Nat.reduceSub, Nat.reduceEqDiff, Nat.reduceLeDiff, Nat.reduceLT, Nat.reduceBEq, Nat.reduceDiv, Nat.reduceMod, Nat.reducePow, Nat.reduceMul, Int.reduceToNat, Int.reduceLT, Int.reduceLE]
  refine W_seq (W_regL ?_)
  simp (maxSteps := 400000) (disch := omega) only [push_cast, ↓reduceIte, reduceCtorEq, Nat.reduceAdd, Nat.reduceSub, Nat.reduceEqDiff, Nat.reduceLeDiff, Nat.reduceLT, Nat.reduceBEq, Nat.reduceDiv, Nat.reduceMod, Nat.reducePow, Nat.reduceMul, Int.reduceToNat, Int.reduceLT, Int.reduceLE]
  refine W_seq (W_seq ?_)
  refine W_regL ?_
  simp (maxSteps := 400000) (disch := omega) only [push_cast, ↓reduceIte, reduceCtorEq, Nat.reduceAdd, Nat.reduceSub, Nat.reduceEqDiff, Nat.reduceLeDiff, Nat.reduceLT, Nat.reduceBEq, Nat.reduceDiv, Nat.reduceMod, Nat.reducePow, Nat.reduceMul, Int.reduceToNat, Int.reduceLT, Int.reduceLE, nC0, lC]
  refine W_block ?_
  refine W_loop (fun i : Nat => ⟨[(1, iv t), (4, .own 0 0), (5, .own 2 0), (13, .sl 11 dR cR l.rs), (14, iv l.rs.length), (15, iv i)], [(0, .cells [iv 0, iv 0]), (2, .cells [iv (pLo t (-1073741824) (l.rs.take i)), iv (pHi t 1073741824 (l.rs.take i))])], 11⟩) (fun i => i ≤ l.rs.length) (fun i => l.rs.length - i) 0 (by omega) (le_to [1, 4, 5, 13, 14, 15] [0, 2] 11 rfl rfl) (fun i hi => ?_)
  refine W_seq ?_
  refine W_regL ?_
  simp (maxSteps := 400000) (disch := omega) only [push_cast, ↓reduceIte, reduceCtorEq, Nat.reduceAdd, Nat.reduceSub, Nat.reduceEqDiff, Nat.reduceLeDiff, Nat.reduceLT, Nat.reduceBEq, Nat.reduceDiv, Nat.reduceMod, Nat.reducePow, Nat.reduceMul, Int.reduceToNat, Int.reduceLT, Int.reduceLE]
  refine W_seq (W_cond (by rfl) (fun h => ?_) (fun h => ?_))
  · have h := of_decide_eq_true h
    have hlt : i < l.rs.length := by omega
    refine W_skip ?_
    simp (maxSteps := 400000) (disch := omega) only [push_cast, ↓reduceIte, reduceCtorEq, Nat.reduceAdd, Nat.reduceSub, Nat.reduceEqDiff, Nat.reduceLeDiff, Nat.reduceLT, Nat.reduceBEq, Nat.reduceDiv, Nat.reduceMod, Nat.reducePow, Nat.reduceMul, Int.reduceToNat, Int.reduceLT, Int.reduceLE]
    refine W_seq (W_block (W_seq ?_))
    refine W_regL ?_
    simp (maxSteps := 400000) (disch := omega) only [push_cast, ↓reduceIte, reduceCtorEq, Nat.reduceAdd, Nat.reduceSub, Nat.reduceEqDiff, Nat.reduceLeDiff, Nat.reduceLT, Nat.reduceBEq, Nat.reduceDiv, Nat.reduceMod, Nat.reducePow, Nat.reduceMul, Int.reduceToNat, Int.reduceLT, Int.reduceLE]
    refine ⟨by omega, ?_⟩
    have hr : l.rs.getD i dR = rd l i := rfl
    rw [hr]
    have hge := pLo_ge t (l.rs.take i) (-1073741824)
    have hle := pHi_le t (l.rs.take i) 1073741824
    refine W_seq_to ⟨[(1, iv t), (4, .own 0 0), (5, .own 2 0), (7, .own 14 0), (13, .sl 11 dR cR l.rs), (14, iv l.rs.length), (15, iv i)], [(0, .cells [iv 0, iv 0]), (2, .cells [iv (pLo t (-1073741824) (l.rs.take (i + 1))), iv (pHi t 1073741824 (l.rs.take i))]), (14, .cells (cR (rd l i)))], 20⟩ (W_seq ?_) ?_
    · refine W_regL ?_
      simp (maxSteps := 400000) (disch := omega) only [push_cast, ↓reduceIte, reduceCtorEq, Nat.reduceAdd, Nat.reduceSub, Nat.reduceEqDiff, Nat.reduceLeDiff, Nat.reduceLT, Nat.reduceBEq, Nat.reduceDiv, Nat.reduceMod, Nat.reducePow, Nat.reduceMul, Int.reduceToNat, Int.reduceLT, Int.reduceLE]
      refine W_cond (by rfl) (fun h => ?_) (fun h => ?_)
      · have h := of_decide_eq_true h
        refine W_regL ?_
        simp (maxSteps := 400000) (disch := omega) only [push_cast, ↓reduceIte, reduceCtorEq, Nat.reduceAdd, Nat.reduceSub, Nat.reduceEqDiff, Nat.reduceLeDiff, Nat.reduceLT, Nat.reduceBEq, Nat.reduceDiv, Nat.reduceMod, Nat.reducePow, Nat.reduceMul, Int.reduceToNat, Int.reduceLT, Int.reduceLE]
        refine ⟨rfl, trivial, Band, dB, cBand, [⟨pLo t (-1073741824) (l.rs.take i), pHi t 1073741824 (l.rs.take i)⟩, ⟨(rd l i).place.lo, 1073741824⟩], rfl, by omega, fun x _ => ⟨rfl, rfl⟩, rfl, ?_⟩
        simp (maxSteps := 400000) (disch := omega) only [push_cast, ↓reduceIte, reduceCtorEq, Nat.reduceAdd, Nat.reduceSub, Nat.reduceEqDiff, Nat.reduceLeDiff, Nat.reduceLT, Nat.reduceBEq, Nat.reduceDiv, Nat.reduceMod, Nat.reducePow, Nat.reduceMul, Int.reduceToNat, Int.reduceLT, Int.reduceLE]
        refine CallC.go _ (fun _ => ⟨trivial, fn83two _ _⟩) rfl ?_
        simp (maxSteps := 400000) (disch := omega) only [push_cast, ↓reduceIte, reduceCtorEq, Nat.reduceAdd, Nat.reduceSub, Nat.reduceEqDiff, Nat.reduceLeDiff, Nat.reduceLT, Nat.reduceBEq, Nat.reduceDiv, Nat.reduceMod, Nat.reducePow, Nat.reduceMul, Int.reduceToNat, Int.reduceLT, Int.reduceLE]
        refine le_to [1, 4, 5, 7, 13, 14, 15] [0, 2, 14] 20 rfl ?_
        simp (maxSteps := 400000) (disch := omega) only [push_cast, ↓reduceIte, reduceCtorEq, Nat.reduceAdd, Nat.reduceSub, Nat.reduceEqDiff, Nat.reduceLeDiff, Nat.reduceLT, Nat.reduceBEq, Nat.reduceDiv, Nat.reduceMod, Nat.reducePow, Nat.reduceMul, Int.reduceToNat, Int.reduceLT, Int.reduceLE, S.mk.injEq, List.cons.injEq, Prod.mk.injEq, AV.v.injEq, Value.int.injEq, Value.bool.injEq, Blk.cells.injEq, meet1]
        rw [take_rd l i hlt, pLo_append, if_pos h]
        all_goals first | rfl | omega | exact ⟨rfl, rfl⟩ | exact ⟨rfl, by omega⟩ | exact ⟨by omega, rfl⟩ | exact ⟨rfl, by omega⟩
      · have h := of_decide_eq_false h
        refine W_skip ?_
        simp (maxSteps := 400000) (disch := omega) only [push_cast, ↓reduceIte, reduceCtorEq, Nat.reduceAdd, Nat.reduceSub, Nat.reduceEqDiff, Nat.reduceLeDiff, Nat.reduceLT, Nat.reduceBEq, Nat.reduceDiv, Nat.reduceMod, Nat.reducePow, Nat.reduceMul, Int.reduceToNat, Int.reduceLT, Int.reduceLE]
        refine le_to [1, 4, 5, 7, 13, 14, 15] [0, 2, 14] 20 rfl ?_
        simp (maxSteps := 400000) (disch := omega) only [push_cast, ↓reduceIte, reduceCtorEq, Nat.reduceAdd, Nat.reduceSub, Nat.reduceEqDiff, Nat.reduceLeDiff, Nat.reduceLT, Nat.reduceBEq, Nat.reduceDiv, Nat.reduceMod, Nat.reducePow, Nat.reduceMul, Int.reduceToNat, Int.reduceLT, Int.reduceLE, S.mk.injEq, List.cons.injEq, Prod.mk.injEq, AV.v.injEq, Value.int.injEq, Value.bool.injEq, Blk.cells.injEq]
        rw [take_rd l i hlt, pLo_append, if_neg h]
    · have hge := pLo_ge t (l.rs.take (i + 1)) (-1073741824)
      refine W_seq ?_
      refine W_regL ?_
      simp (maxSteps := 400000) (disch := omega) only [push_cast, ↓reduceIte, reduceCtorEq, Nat.reduceAdd, Nat.reduceSub, Nat.reduceEqDiff, Nat.reduceLeDiff, Nat.reduceLT, Nat.reduceBEq, Nat.reduceDiv, Nat.reduceMod, Nat.reducePow, Nat.reduceMul, Int.reduceToNat, Int.reduceLT, Int.reduceLE]
      refine W_cond (by rfl) (fun h => ?_) (fun h => ?_)
      · have h := of_decide_eq_true h
        refine W_regL ?_
        simp (maxSteps := 400000) (disch := omega) only [push_cast, ↓reduceIte, reduceCtorEq, Nat.reduceAdd, Nat.reduceSub, Nat.reduceEqDiff, Nat.reduceLeDiff, Nat.reduceLT, Nat.reduceBEq, Nat.reduceDiv, Nat.reduceMod, Nat.reducePow, Nat.reduceMul, Int.reduceToNat, Int.reduceLT, Int.reduceLE]
        refine ⟨rfl, trivial, Band, dB, cBand, [⟨pLo t (-1073741824) (l.rs.take (i + 1)), pHi t 1073741824 (l.rs.take i)⟩, ⟨-1073741824, (rd l i).place.hi⟩], rfl, by omega, fun x _ => ⟨rfl, rfl⟩, rfl, ?_⟩
        simp (maxSteps := 400000) (disch := omega) only [push_cast, ↓reduceIte, reduceCtorEq, Nat.reduceAdd, Nat.reduceSub, Nat.reduceEqDiff, Nat.reduceLeDiff, Nat.reduceLT, Nat.reduceBEq, Nat.reduceDiv, Nat.reduceMod, Nat.reducePow, Nat.reduceMul, Int.reduceToNat, Int.reduceLT, Int.reduceLE]
        refine CallC.go _ (fun _ => ⟨trivial, fn83two _ _⟩) rfl ?_
        simp (maxSteps := 400000) (disch := omega) only [push_cast, ↓reduceIte, reduceCtorEq, Nat.reduceAdd, Nat.reduceSub, Nat.reduceEqDiff, Nat.reduceLeDiff, Nat.reduceLT, Nat.reduceBEq, Nat.reduceDiv, Nat.reduceMod, Nat.reducePow, Nat.reduceMul, Int.reduceToNat, Int.reduceLT, Int.reduceLE]
        refine W_regL ?_
        simp (maxSteps := 400000) (disch := omega) only [push_cast, ↓reduceIte, reduceCtorEq, Nat.reduceAdd, Nat.reduceSub, Nat.reduceEqDiff, Nat.reduceLeDiff, Nat.reduceLT, Nat.reduceBEq, Nat.reduceDiv, Nat.reduceMod, Nat.reducePow, Nat.reduceMul, Int.reduceToNat, Int.reduceLT, Int.reduceLE]
        refine ⟨i + 1, by omega, by omega, le_to [1, 4, 5, 13, 14, 15] [0, 2] 11 rfl ?_⟩
        simp (maxSteps := 400000) (disch := omega) only [push_cast, ↓reduceIte, reduceCtorEq, Nat.reduceAdd, Nat.reduceSub, Nat.reduceEqDiff, Nat.reduceLeDiff, Nat.reduceLT, Nat.reduceBEq, Nat.reduceDiv, Nat.reduceMod, Nat.reducePow, Nat.reduceMul, Int.reduceToNat, Int.reduceLT, Int.reduceLE, S.mk.injEq, List.cons.injEq, Prod.mk.injEq, AV.v.injEq, Value.int.injEq, Value.bool.injEq, Blk.cells.injEq, meet1]
        rw [take_rd l i hlt, pHi_append, if_pos h]
        rw [take_rd l i hlt] at hge
        all_goals first | rfl | omega | exact ⟨rfl, rfl⟩ | exact ⟨rfl, by omega⟩ | exact ⟨by omega, rfl⟩ | exact ⟨by omega, by omega, rfl⟩
      · have h := of_decide_eq_false h
        refine W_skip ?_
        simp (maxSteps := 400000) (disch := omega) only [push_cast, ↓reduceIte, reduceCtorEq, Nat.reduceAdd, Nat.reduceSub, Nat.reduceEqDiff, Nat.reduceLeDiff, Nat.reduceLT, Nat.reduceBEq, Nat.reduceDiv, Nat.reduceMod, Nat.reducePow, Nat.reduceMul, Int.reduceToNat, Int.reduceLT, Int.reduceLE]
        refine W_regL ?_
        simp (maxSteps := 400000) (disch := omega) only [push_cast, ↓reduceIte, reduceCtorEq, Nat.reduceAdd, Nat.reduceSub, Nat.reduceEqDiff, Nat.reduceLeDiff, Nat.reduceLT, Nat.reduceBEq, Nat.reduceDiv, Nat.reduceMod, Nat.reducePow, Nat.reduceMul, Int.reduceToNat, Int.reduceLT, Int.reduceLE]
        refine ⟨i + 1, by omega, by omega, le_to [1, 4, 5, 13, 14, 15] [0, 2] 11 rfl ?_⟩
        simp (maxSteps := 400000) (disch := omega) only [push_cast, ↓reduceIte, reduceCtorEq, Nat.reduceAdd, Nat.reduceSub, Nat.reduceEqDiff, Nat.reduceLeDiff, Nat.reduceLT, Nat.reduceBEq, Nat.reduceDiv, Nat.reduceMod, Nat.reducePow, Nat.reduceMul, Int.reduceToNat, Int.reduceLT, Int.reduceLE, S.mk.injEq, List.cons.injEq, Prod.mk.injEq, AV.v.injEq, Value.int.injEq, Value.bool.injEq, Blk.cells.injEq]
        rw [take_rd l i hlt, pHi_append, if_neg h]
        all_goals first | rfl | omega | exact ⟨rfl, rfl⟩ | exact ⟨rfl, by omega⟩ | exact ⟨by omega, rfl⟩ | exact ⟨by omega, rfl⟩
  · have h := of_decide_eq_false h
    refine W_exit ?_
    simp (maxSteps := 400000) (disch := omega) only [push_cast, ↓reduceIte, reduceCtorEq, Nat.reduceAdd, Nat.reduceSub, Nat.reduceEqDiff, Nat.reduceLeDiff, Nat.reduceLT, Nat.reduceBEq, Nat.reduceDiv, Nat.reduceMod, Nat.reducePow, Nat.reduceMul, Int.reduceToNat, Int.reduceLT, Int.reduceLE]
    have e : i = l.rs.length := by omega
    subst e
    rw [List.take_length]
    refine W_seq (W_regL ?_)
    simp (maxSteps := 400000) (disch := omega) only [push_cast, ↓reduceIte, reduceCtorEq, Nat.reduceAdd, Nat.reduceSub, Nat.reduceEqDiff, Nat.reduceLeDiff, Nat.reduceLT, Nat.reduceBEq, Nat.reduceDiv, Nat.reduceMod, Nat.reducePow, Nat.reduceMul, Int.reduceToNat, Int.reduceLT, Int.reduceLE]
    exact W_ret ⟨[_], ⟨⟨by simp, rfl⟩, rfl⟩, rfl⟩
end Go.Proofs.Ytgijpimjfoabjaa
/- The spans of the values. -/
namespace Go.Proofs.Ytgijpimjfoabjaa
open Go Sy
set_option maxRecDepth 100000
set_option maxHeartbeats 4000000
set_option linter.unusedVariables false
set_option linter.unusedSimpArgs false
def wide (l : Log) (k : Nat) (t : Int) (r : Reading) : Band := ⟨(vals r k).lo - drift l k * away r t, (vals r k).hi + drift l k * away r t⟩
def wides (l : Log) (k : Nat) (t : Int) (rs : List Reading) : List Band := rs.map (wide l k t)
def cvalue (l : Log) (k : Nat) (t : Int) : Band := meetL ((wides l k t l.rs).getD 0 dB) ((wides l k t l.rs).drop 1)
theorem fn84 (l : Log) (st t : Int) (X : List AV) (k : Nat) (hk : k < 4) (g : Good l) (ht : t0 l ≤ t ∧ t ≤ tn l) : Sy.Fn Try.prog 84 [iv t, .fp [.fp (cCrs l st X) 0] 0, .fp [iv k] 0] (.agg (cBand (cvalue l k t))) := by
  refine Fn_of_W mixed Xt84 rfl ?_
  have h2 := g.n2
  have h3 := g.n64
  have hdr := g.dr k hk
  refine W_seq (W_regL ?_)
  simp (maxSteps := 400000) (disch := omega) only [push_cast, ↓reduceIte, reduceCtorEq, Nat.reduceAdd, Nat.reduceSub, Nat.reduceEqDiff, Nat.reduceLeDiff, Nat.reduceLT, Nat.reduceBEq, Nat.reduceDiv, Nat.reduceMod, Nat.reducePow, Nat.reduceMul, Int.reduceToNat, Int.reduceLT, Int.reduceLE]
  refine W_seq (W_regL ?_)
  simp (maxSteps := 400000) (disch := omega) only [push_cast, ↓reduceIte, reduceCtorEq, Nat.reduceAdd, Nat.reduceSub, Nat.reduceEqDiff, Nat.reduceLeDiff, Nat.reduceLT, Nat.reduceBEq, Nat.reduceDiv, Nat.reduceMod, Nat.reducePow, Nat.reduceMul, Int.reduceToNat, Int.reduceLT, Int.reduceLE]
  refine W_seq (W_seq ?_)
  refine W_regL ?_
  simp (maxSteps := 400000) (disch := omega) only [push_cast, ↓reduceIte, reduceCtorEq, Nat.reduceAdd, Nat.reduceSub, Nat.reduceEqDiff, Nat.reduceLeDiff, Nat.reduceLT, Nat.reduceBEq, Nat.reduceDiv, Nat.reduceMod, Nat.reducePow, Nat.reduceMul, Int.reduceToNat, Int.reduceLT, Int.reduceLE]
  refine W_block ?_
  refine W_loop (fun i : Nat => ⟨[(0, iv t), (1, .fp [.fp (cCrs l st X) 0] 0), (2, .fp [iv k] 0), (4, .own 0 0), (5, .row 9 i), (13, .sl 11 dR cR l.rs), (14, iv l.rs.length), (15, iv i)], [(9, .row i 40 2 dB cBand (wides l k t (l.rs.take i))), (0, .cells [iv 0, iv 0])], 11⟩) (fun i => i ≤ l.rs.length) (fun i => l.rs.length - i) 0 (by omega) (le.trans (le_adopt 5 40 2 dB cBand (by omega) rfl) (le_to [0, 1, 2, 4, 5, 13, 14, 15] [0, 9] 11 rfl rfl)) (fun i hi => ?_)
  refine W_seq ?_
  refine W_regL ?_
  simp (maxSteps := 400000) (disch := omega) only [push_cast, ↓reduceIte, reduceCtorEq, Nat.reduceAdd, Nat.reduceSub, Nat.reduceEqDiff, Nat.reduceLeDiff, Nat.reduceLT, Nat.reduceBEq, Nat.reduceDiv, Nat.reduceMod, Nat.reducePow, Nat.reduceMul, Int.reduceToNat, Int.reduceLT, Int.reduceLE]
  refine W_seq (W_cond (by rfl) (fun h => ?_) (fun h => ?_))
  · have h := of_decide_eq_true h
    have hlt : i < l.rs.length := by omega
    refine W_skip ?_
    simp (maxSteps := 400000) (disch := omega) only [push_cast, ↓reduceIte, reduceCtorEq, Nat.reduceAdd, Nat.reduceSub, Nat.reduceEqDiff, Nat.reduceLeDiff, Nat.reduceLT, Nat.reduceBEq, Nat.reduceDiv, Nat.reduceMod, Nat.reducePow, Nat.reduceMul, Int.reduceToNat, Int.reduceLT, Int.reduceLE]
    refine W_seq (W_block (W_seq ?_))
    refine W_regL ?_
    simp (maxSteps := 400000) (disch := omega) only [push_cast, ↓reduceIte, reduceCtorEq, Nat.reduceAdd, Nat.reduceSub, Nat.reduceEqDiff, Nat.reduceLeDiff, Nat.reduceLT, Nat.reduceBEq, Nat.reduceDiv, Nat.reduceMod, Nat.reducePow, Nat.reduceMul, Int.reduceToNat, Int.reduceLT, Int.reduceLE]
    refine ⟨by omega, ?_⟩
    have hr : l.rs.getD i dR = rd l i := rfl
    rw [hr]
    have hti := g.tI hlt
    have hat := g.at0 i hlt
    have hv := okBand_iff.1 (g.vl i k hlt hk)
    have haw : 0 ≤ max ((rd l i).at_ - t) (t - (rd l i).at_) ∧ max ((rd l i).at_ - t) (t - (rd l i).at_) ≤ 4000 := by omega
    have hmul := mul_bound hdr.1 hdr.2 haw.1 haw.2
    have ht0 := g.at0 0 (by omega)
    have ht1 : 0 ≤ t0 l := ht0.1
    refine W_seq ?_
    refine W_regL ?_
    simp (maxSteps := 400000) (disch := omega) only [push_cast, ↓reduceIte, reduceCtorEq, Nat.reduceAdd, Nat.reduceSub, Nat.reduceEqDiff, Nat.reduceLeDiff, Nat.reduceLT, Nat.reduceBEq, Nat.reduceDiv, Nat.reduceMod, Nat.reducePow, Nat.reduceMul, Int.reduceToNat, Int.reduceLT, Int.reduceLE]
    refine ⟨by omega, by omega, ?_⟩
    refine W_regL ?_
    simp (maxSteps := 400000) (disch := omega) only [push_cast, ↓reduceIte, reduceCtorEq, Nat.reduceAdd, Nat.reduceSub, Nat.reduceEqDiff, Nat.reduceLeDiff, Nat.reduceLT, Nat.reduceBEq, Nat.reduceDiv, Nat.reduceMod, Nat.reducePow, Nat.reduceMul, Int.reduceToNat, Int.reduceLT, Int.reduceLE]
    refine ⟨by omega, by omega, by omega, by omega, rfl, trivial, Band, dB, cBand, [wide l k t (rd l i)], rfl, by omega, fun x _ => ⟨rfl, rfl⟩, rfl, ?_⟩
    simp (maxSteps := 400000) (disch := omega) only [push_cast, ↓reduceIte, reduceCtorEq, Nat.reduceAdd, Nat.reduceSub, Nat.reduceEqDiff, Nat.reduceLeDiff, Nat.reduceLT, Nat.reduceBEq, Nat.reduceDiv, Nat.reduceMod, Nat.reducePow, Nat.reduceMul, Int.reduceToNat, Int.reduceLT, Int.reduceLE]
    have hlen : (wides l k t (l.rs.take i)).length = i := by simp [wides]; omega
    refine ⟨rfl, ⟨(by show (9 : Nat) < 51; omega), rfl⟩, trivial, [wide l k t (rd l i)], rfl, by rw [hlen]; simp; omega, by rw [hlen]; simp; omega, ?_⟩
    simp (maxSteps := 400000) (disch := omega) only [push_cast, ↓reduceIte, reduceCtorEq, Nat.reduceAdd, Nat.reduceSub, Nat.reduceEqDiff, Nat.reduceLeDiff, Nat.reduceLT, Nat.reduceBEq, Nat.reduceDiv, Nat.reduceMod, Nat.reducePow, Nat.reduceMul, Int.reduceToNat, Int.reduceLT, Int.reduceLE]
    refine W_regL ?_
    simp (maxSteps := 400000) (disch := omega) only [push_cast, ↓reduceIte, reduceCtorEq, Nat.reduceAdd, Nat.reduceSub, Nat.reduceEqDiff, Nat.reduceLeDiff, Nat.reduceLT, Nat.reduceBEq, Nat.reduceDiv, Nat.reduceMod, Nat.reducePow, Nat.reduceMul, Int.reduceToNat, Int.reduceLT, Int.reduceLE]
    refine ⟨i + 1, by omega, by omega, le_to [0, 1, 2, 4, 5, 13, 14, 15] [0, 9] 11 rfl ?_⟩
    simp (maxSteps := 400000) (disch := omega) only [push_cast, ↓reduceIte, reduceCtorEq, Nat.reduceAdd, Nat.reduceSub, Nat.reduceEqDiff, Nat.reduceLeDiff, Nat.reduceLT, Nat.reduceBEq, Nat.reduceDiv, Nat.reduceMod, Nat.reducePow, Nat.reduceMul, Int.reduceToNat, Int.reduceLT, Int.reduceLE, S.mk.injEq, List.cons.injEq, Prod.mk.injEq, AV.v.injEq, Value.int.injEq, Value.bool.injEq, Blk.cells.injEq]
    rw [take_rd l i hlt]
    simp [wides]
  · have h := of_decide_eq_false h
    refine W_exit ?_
    simp (maxSteps := 400000) (disch := omega) only [push_cast, ↓reduceIte, reduceCtorEq, Nat.reduceAdd, Nat.reduceSub, Nat.reduceEqDiff, Nat.reduceLeDiff, Nat.reduceLT, Nat.reduceBEq, Nat.reduceDiv, Nat.reduceMod, Nat.reducePow, Nat.reduceMul, Int.reduceToNat, Int.reduceLT, Int.reduceLE]
    have e : i = l.rs.length := by omega
    subst e
    rw [List.take_length]
    refine W_seq (W_regL ?_)
    simp (maxSteps := 400000) (disch := omega) only [push_cast, ↓reduceIte, reduceCtorEq, Nat.reduceAdd, Nat.reduceSub, Nat.reduceEqDiff, Nat.reduceLeDiff, Nat.reduceLT, Nat.reduceBEq, Nat.reduceDiv, Nat.reduceMod, Nat.reducePow, Nat.reduceMul, Int.reduceToNat, Int.reduceLT, Int.reduceLE]
    have hlen : (wides l k t l.rs).length = l.rs.length := by simp [wides]
    refine CallC.go _ (fun _ => ⟨trivial, fn83 _ (by omega) (by omega)⟩) rfl ?_
    simp (maxSteps := 400000) (disch := omega) only [push_cast, ↓reduceIte, reduceCtorEq, Nat.reduceAdd, Nat.reduceSub, Nat.reduceEqDiff, Nat.reduceLeDiff, Nat.reduceLT, Nat.reduceBEq, Nat.reduceDiv, Nat.reduceMod, Nat.reducePow, Nat.reduceMul, Int.reduceToNat, Int.reduceLT, Int.reduceLE]
    exact W_ret ⟨[_], ⟨⟨by simp, rfl⟩, rfl⟩, rfl⟩
end Go.Proofs.Ytgijpimjfoabjaa
/- The spans of all minutes. -/
namespace Go.Proofs.Ytgijpimjfoabjaa
open Go Sy
set_option maxRecDepth 100000
set_option maxHeartbeats 4000000
set_option linter.unusedVariables false
set_option linter.unusedSimpArgs false
theorem fn74 (a : Option Addr) (k : Int) : Sy.Fn Try.prog 74 [.v (.pointer a), iv k] (.clo 84 [] [.fp [.v (.pointer a)] 0, .fp [iv k] 0]) := by
  refine Fn_of_W mixed Xt74 rfl ?_
  refine W_seq (W_regL ?_)
  simp (maxSteps := 400000) (disch := omega) only [push_cast, ↓reduceIte, reduceCtorEq, Nat.reduceAdd, Nat.reduceSub, Nat.reduceEqDiff, Nat.reduceLeDiff, Nat.reduceLT, Nat.reduceBEq, Nat.reduceDiv, Nat.reduceMod, Nat.reducePow, Nat.reduceMul, Int.reduceToNat, Int.reduceLT, Int.reduceLE]
  refine W_seq (W_regL ?_)
  simp (maxSteps := 400000) (disch := omega) only [push_cast, ↓reduceIte, reduceCtorEq, Nat.reduceAdd, Nat.reduceSub, Nat.reduceEqDiff, Nat.reduceLeDiff, Nat.reduceLT, Nat.reduceBEq, Nat.reduceDiv, Nat.reduceMod, Nat.reducePow, Nat.reduceMul, Int.reduceToNat, Int.reduceLT, Int.reduceLE]
  exact W_ret ⟨[_], ⟨rfl, rfl⟩, rfl⟩
theorem par74 (b : Nat) (k : Int) : Par Try.prog 74 [.own b 0, iv k] (.cq 84 [] [.fq [.own b 0] 0, .fp [iv k] 0]) := by
  intro E w ys h
  simp only [satT, sat] at h
  obtain ⟨y0, r0, rfl, ⟨b0, hb0, rfl⟩, y1, r1, rfl, rfl, rfl⟩ := h
  refine ⟨_, fn74 _ _, fun E' w' v h1 h2 => ?_⟩
  simp only [satT, sat] at h1
  obtain ⟨_, _, he, ⟨b1, hb1, he1⟩, _⟩ := h1
  obtain ⟨rfl, rfl⟩ := List.cons.inj he
  simp only [sat, fsat, fsatT] at h2
  obtain ⟨fv, cv, rfl, rfl, x1, s1, rfl, ⟨b2, o2, vs2, q1, q2, q3, q4⟩, x2, s2, rfl, ⟨b3, o3, vs3, q5, q6, q7, q8⟩, rfl⟩ := h2
  simp only [sat, satT, fsat]
  refine ⟨[], [x1, x2], rfl, rfl, x1, [x2], rfl, ⟨b2, o2, vs2, q1, q2, q3, ?_⟩, x2, [], rfl, ⟨b3, o3, vs3, q5, q6, q7, q8⟩, rfl⟩
  simp only [fsatL, fsat] at q4
  obtain ⟨x, xs, rfl, q9, rfl, rfl⟩ := q4
  simp only [satL, sat]
  exact ⟨_, [], rfl, q9, ⟨b1, hb1, he1⟩, rfl⟩
def okB (b : Nat → Band) (n : Nat) : Bool := (List.range n).all fun i => decide ((b i).lo ≤ (b i).hi)
def fillR (b : Nat → Band) (n : Nat) : AV := if okB b n then .tup [.sl 2 dB cBand ((List.range n).map b), bv true] else .tup [.v (.slice none 0 0), bv false]
theorem fill_set (b : Nat → Band) (n i : Nat) (h : i < n) : (((List.range i).map b ++ List.replicate (n - i) dB).set i (b i)) = (List.range (i + 1)).map b ++ List.replicate (n - (i + 1)) dB := by
  rw [show n - i = (n - (i + 1)) + 1 by omega, List.replicate_succ, List.set_append_right _ _ (by simp)]
  simp [List.range_succ]
theorem fn72 (l : Log) (st : Int) (X : List AV) (n : Nat) (gg : Nat) (fi ca : List AV) (b : Nat → Band) (hn : n ≤ 100000) (hst : 0 ≤ st ∧ st ≤ 1099511627776)
    (hg : ∀ i : Nat, i < n → Sy.Fn Try.prog gg (fi ++ [iv (st + i)] ++ ca) (.agg (cBand (b i)))) : FnN Try.prog 72 [.fp (cCrs l st X) 0, iv n, .clo gg fi ca] (fillR b n) := by
  refine FnN_of_W mixed Xt72 rfl ?_
  refine W_seq (W_regL ?_)
  simp (maxSteps := 400000) (disch := omega) only [push_cast, ↓reduceIte, reduceCtorEq, Nat.reduceAdd, Nat.reduceSub, Nat.reduceEqDiff, Nat.reduceLeDiff, Nat.reduceLT, Nat.reduceBEq, Nat.reduceDiv, Nat.reduceMod, Nat.reducePow, Nat.reduceMul, Int.reduceToNat, Int.reduceLT, Int.reduceLE]
  refine W_seq (W_regL ?_)
  simp (maxSteps := 400000) (disch := omega) only [push_cast, ↓reduceIte, reduceCtorEq, Nat.reduceAdd, Nat.reduceSub, Nat.reduceEqDiff, Nat.reduceLeDiff, Nat.reduceLT, Nat.reduceBEq, Nat.reduceDiv, Nat.reduceMod, Nat.reducePow, Nat.reduceMul, Int.reduceToNat, Int.reduceLT, Int.reduceLE]
  refine ⟨rfl, ⟨by omega, by omega, by omega⟩, Band, dB, cBand, dB, rfl, rfl, by omega, rfl, ?_⟩
  simp (maxSteps := 400000) (disch := omega) only [push_cast, ↓reduceIte, reduceCtorEq, Nat.reduceAdd, Nat.reduceSub, Nat.reduceEqDiff, Nat.reduceLeDiff, Nat.reduceLT, Nat.reduceBEq, Nat.reduceDiv, Nat.reduceMod, Nat.reducePow, Nat.reduceMul, Int.reduceToNat, Int.reduceLT, Int.reduceLE]
  refine W_seq (W_seq ?_)
  refine W_regL ?_
  simp (maxSteps := 400000) (disch := omega) only [push_cast, ↓reduceIte, reduceCtorEq, Nat.reduceAdd, Nat.reduceSub, Nat.reduceEqDiff, Nat.reduceLeDiff, Nat.reduceLT, Nat.reduceBEq, Nat.reduceDiv, Nat.reduceMod, Nat.reducePow, Nat.reduceMul, Int.reduceToNat, Int.reduceLT, Int.reduceLE]
  refine W_block ?_
  let L : Nat → List Band := fun i => (List.range i).map b ++ List.replicate (n - i) dB
  have hLl : ∀ i, i ≤ n → (L i).length = n := fun i hi => by simp [L]; omega
  refine W_loop (fun i : Nat => ⟨[(0, .fp (cCrs l st X) 0), (2, .clo gg fi ca), (8, .row 3 0), (12, iv n), (13, iv i)], [(3, .row 0 40 2 dB cBand (L i))], 10⟩) (fun i => i ≤ n ∧ ∀ j, j < i → decide ((b j).lo ≤ (b j).hi) = true) (fun i => n - i) 0 ⟨by omega, fun j hj => by omega⟩ (le_to [0, 2, 8, 12, 13] [3] 10 rfl (by simp only [norm_eq, L, List.range_zero, List.map_nil, List.nil_append, Nat.sub_zero]; rfl)) (fun i hi => ?_)
  obtain ⟨hi, hok⟩ := hi
  have hLi := hLl i hi
  refine W_seq ?_
  refine W_regL ?_
  simp (maxSteps := 400000) (disch := omega) only [push_cast, ↓reduceIte, reduceCtorEq, Nat.reduceAdd, Nat.reduceSub, Nat.reduceEqDiff, Nat.reduceLeDiff, Nat.reduceLT, Nat.reduceBEq, Nat.reduceDiv, Nat.reduceMod, Nat.reducePow, Nat.reduceMul, Int.reduceToNat, Int.reduceLT, Int.reduceLE]
  refine W_seq (W_cond (by rfl) (fun h => ?_) (fun h => ?_))
  · have h := of_decide_eq_true h
    have hlt : i < n := by omega
    refine W_skip ?_
    simp (maxSteps := 400000) (disch := omega) only [push_cast, ↓reduceIte, reduceCtorEq, Nat.reduceAdd, Nat.reduceSub, Nat.reduceEqDiff, Nat.reduceLeDiff, Nat.reduceLT, Nat.reduceBEq, Nat.reduceDiv, Nat.reduceMod, Nat.reducePow, Nat.reduceMul, Int.reduceToNat, Int.reduceLT, Int.reduceLE]
    refine W_seq (W_block (W_seq ?_))
    refine W_regL ?_
    simp (maxSteps := 400000) (disch := omega) only [push_cast, ↓reduceIte, reduceCtorEq, Nat.reduceAdd, Nat.reduceSub, Nat.reduceEqDiff, Nat.reduceLeDiff, Nat.reduceLT, Nat.reduceBEq, Nat.reduceDiv, Nat.reduceMod, Nat.reducePow, Nat.reduceMul, Int.reduceToNat, Int.reduceLT, Int.reduceLE]
    refine W_seq ?_
    refine W_regL ?_
    simp (maxSteps := 400000) (disch := omega) only [push_cast, ↓reduceIte, reduceCtorEq, Nat.reduceAdd, Nat.reduceSub, Nat.reduceEqDiff, Nat.reduceLeDiff, Nat.reduceLT, Nat.reduceBEq, Nat.reduceDiv, Nat.reduceMod, Nat.reducePow, Nat.reduceMul, Int.reduceToNat, Int.reduceLT, Int.reduceLE]
    refine CallC.now (hg i hlt) ?_
    simp (maxSteps := 400000) (disch := omega) only [push_cast, ↓reduceIte, reduceCtorEq, Nat.reduceAdd, Nat.reduceSub, Nat.reduceEqDiff, Nat.reduceLeDiff, Nat.reduceLT, Nat.reduceBEq, Nat.reduceDiv, Nat.reduceMod, Nat.reducePow, Nat.reduceMul, Int.reduceToNat, Int.reduceLT, Int.reduceLE]
    refine ⟨⟨by omega, by rw [hLi]; omega⟩, rfl, ⟨(by show (3 : Nat) < 24; omega), rfl⟩, by rw [hLi]; exact hlt, b i, rfl, rfl, ?_⟩
    simp (maxSteps := 400000) (disch := omega) only [push_cast, ↓reduceIte, reduceCtorEq, Nat.reduceAdd, Nat.reduceSub, Nat.reduceEqDiff, Nat.reduceLeDiff, Nat.reduceLT, Nat.reduceBEq, Nat.reduceDiv, Nat.reduceMod, Nat.reducePow, Nat.reduceMul, Int.reduceToNat, Int.reduceLT, Int.reduceLE]
    have hM : (L i).set i (b i) = L (i + 1) := fill_set b n i hlt
    have hMl := hLl (i + 1) hlt
    rw [hM]
    have hget : (L (i + 1)).getD i dB = b i := by rw [← hM]; simp [hLi, hlt]
    refine W_seq ?_
    refine W_regL ?_
    simp (maxSteps := 400000) (disch := omega) only [push_cast, ↓reduceIte, reduceCtorEq, Nat.reduceAdd, Nat.reduceSub, Nat.reduceEqDiff, Nat.reduceLeDiff, Nat.reduceLT, Nat.reduceBEq, Nat.reduceDiv, Nat.reduceMod, Nat.reducePow, Nat.reduceMul, Int.reduceToNat, Int.reduceLT, Int.reduceLE]
    rw [hMl, hget]
    refine ⟨by omega, by omega, by omega, by omega, ?_⟩
    refine W_cond (by rfl) (fun hb => ?_) (fun hb => ?_)
    · have hb := of_decide_eq_true hb
      refine W_seq (W_regL ?_)
      simp (maxSteps := 400000) (disch := omega) only [push_cast, ↓reduceIte, reduceCtorEq, Nat.reduceAdd, Nat.reduceSub, Nat.reduceEqDiff, Nat.reduceLeDiff, Nat.reduceLT, Nat.reduceBEq, Nat.reduceDiv, Nat.reduceMod, Nat.reducePow, Nat.reduceMul, Int.reduceToNat, Int.reduceLT, Int.reduceLE]
      refine W_ret ⟨[_, _], ⟨rfl, rfl, rfl⟩, ?_, ?_⟩
      · unfold fillR
        rw [if_neg (by unfold okB; rw [not_all_range hlt (decide_eq_false (by omega))]; simp)]
        rfl
      · exact ⟨⟨rfl, rfl⟩, ⟨rfl, rfl⟩, trivial⟩
    have hb := of_decide_eq_false hb
    refine W_skip ?_
    simp (maxSteps := 400000) (disch := omega) only [push_cast, ↓reduceIte, reduceCtorEq, Nat.reduceAdd, Nat.reduceSub, Nat.reduceEqDiff, Nat.reduceLeDiff, Nat.reduceLT, Nat.reduceBEq, Nat.reduceDiv, Nat.reduceMod, Nat.reducePow, Nat.reduceMul, Int.reduceToNat, Int.reduceLT, Int.reduceLE]
    refine W_regL ?_
    simp (maxSteps := 400000) (disch := omega) only [push_cast, ↓reduceIte, reduceCtorEq, Nat.reduceAdd, Nat.reduceSub, Nat.reduceEqDiff, Nat.reduceLeDiff, Nat.reduceLT, Nat.reduceBEq, Nat.reduceDiv, Nat.reduceMod, Nat.reducePow, Nat.reduceMul, Int.reduceToNat, Int.reduceLT, Int.reduceLE]
    refine ⟨i + 1, ⟨by omega, fun j hj => ?_⟩, by omega, le_to [0, 2, 8, 12, 13] [3] 10 rfl ?_⟩
    · rcases Nat.lt_succ_iff_lt_or_eq.1 hj with hj | rfl
      · exact hok j hj
      · exact decide_eq_true (by omega)
    · simp (maxSteps := 400000) (disch := omega) only [push_cast, ↓reduceIte, reduceCtorEq, Nat.reduceAdd, Nat.reduceSub, Nat.reduceEqDiff, Nat.reduceLeDiff, Nat.reduceLT, Nat.reduceBEq, Nat.reduceDiv, Nat.reduceMod, Nat.reducePow, Nat.reduceMul, Int.reduceToNat, Int.reduceLT, Int.reduceLE, S.mk.injEq, List.cons.injEq, Prod.mk.injEq, AV.v.injEq, Value.int.injEq, Value.bool.injEq, Blk.cells.injEq]
      all_goals omega
  · have h := of_decide_eq_false h
    refine W_exit ?_
    simp (maxSteps := 400000) (disch := omega) only [push_cast, ↓reduceIte, reduceCtorEq, Nat.reduceAdd, Nat.reduceSub, Nat.reduceEqDiff, Nat.reduceLeDiff, Nat.reduceLT, Nat.reduceBEq, Nat.reduceDiv, Nat.reduceMod, Nat.reducePow, Nat.reduceMul, Int.reduceToNat, Int.reduceLT, Int.reduceLE]
    have e : i = n := by omega
    subst e
    refine W_seq (W_regL ?_)
    simp (maxSteps := 400000) (disch := omega) only [push_cast, ↓reduceIte, reduceCtorEq, Nat.reduceAdd, Nat.reduceSub, Nat.reduceEqDiff, Nat.reduceLeDiff, Nat.reduceLT, Nat.reduceBEq, Nat.reduceDiv, Nat.reduceMod, Nat.reducePow, Nat.reduceMul, Int.reduceToNat, Int.reduceLT, Int.reduceLE]
    refine W_ret ⟨[_, _], ⟨rfl, rfl, rfl⟩, ?_, ?_⟩
    · unfold fillR
      rw [if_pos (by unfold okB; exact all_range.2 hok)]
      simp only [L, Nat.sub_self, List.replicate_zero, List.append_nil]
      rfl
    · exact ⟨fun x _ => rfl, ⟨rfl, rfl⟩, trivial⟩
end Go.Proofs.Ytgijpimjfoabjaa
