/- Part 4 of the proof of: TopDriven: for every input the law returns true -/
import Derived.Test.YtlahcoaofbpinaaGreatP3
import Derived.Test.YtlahcoaofbpinaaGreatChecked
import Derived.Laws.Bits64b
namespace Go.Proofs.YtlahcoaofbpinaaGreat
open Go Sy
set_option maxRecDepth 100000
def Xn3_1 : C := regL [0, 1, 2, 3, 4, 5] none [qo 12 (.mv (.const (.bool false)))]
def Xn3_3 : C := regL [1, 2, 3, 4, 5, 13] none [qm 31 0, qo 32 (.call 4 [qt 31, .const (.slice none 0 0)]), qo 13 (.alc 27 (.agg #[.int .i64 0, .slice none 0 0, .slice none 0 0])), qs 27 3 13 32]
def Xn3_5 : C := regL [3, 4, 5, 13, 14, 15] none [qm 33 1, qo 34 (.cvt .i64 (qt 33)), qc 35 3 .rem 34 5, qm 36 2, qo 37 (.cvt .i64 (qt 36)), qc 38 3 .rem 37 5, qm 14 35, qm 15 38]
def Xn3_7 : C := regL [4, 5, 13, 14, 15, 16] none [qm 39 3, qo 40 (.cvt .i64 (qt 39)), qc 41 2 .rem 40 5000, qm 16 41]
def Xn3_9 : C := regL [4, 5, 13, 14, 15, 16, 17, 18, 19] none [qL 43 27 3 13, qo 44 (.bld (.agg #[.int .i64 0, .int .i64 0, .int .i64 0, .int .i64 0, .int .i64 0, .int .i64 0]) []), qm 45 14, qm 46 15, qm 47 16, qo 48 (.call 5 [qt 43, qt 44, .const (.slice none 0 0), qt 45, qt 46, qt 47]), qm 42 48, qe 49 0 42, qe 50 1 42, qe 51 2 42, qm 17 49, qm 18 50, qm 19 51]
def Xn3_12 : C := regL [4, 5, 13, 14, 15, 16, 17, 18, 19, 53] none [qm 52 19, qc 53 30 .neq 52 0]
def Xn3_15 : C := regL [12] none [qm 54 19, qc 55 30 .eql 54 15, qm 56 55, qg 57 (.call 6 []) 56 true, qq 58 56 57, qm 12 58]
def Xn3_14 : C := .seq Xn3_15 .ret
def Xn3_13 : C := .cond (.tmp 53) Xn3_14 .skip
def Xn3_11 : C := .seq Xn3_12 Xn3_13
def Xn3_19 : C := regL [4, 5, 13, 14, 15, 16, 17, 18, 20] none [qo 20 (.mv (.const (.slice none 0 0)))]
def Xn3_22 : C := regL [4, 5, 13, 14, 15, 16, 17, 18, 20, 21] none [qo 21 (.mv (qi 0))]
def Xn3_27 : C := regL [4, 5, 13, 14, 15, 16, 17, 18, 20, 21, 62] none [qm 59 21, qm 60 17, qw 61 60, qb 62 3 .lss 59 61]
def Xn3_28 : C := .cond (.tmp 62) .skip (.exit 0)
def Xn3_26 : C := .seq Xn3_27 Xn3_28
def Xn3_35 : C := regL [4, 5, 13, 14, 15, 16, 17, 18, 20, 21, 79] (some [0, 0, 3, 7, 15, 31, 63, 63, 255, 511, 63, 1087, 3135, 8191, 16383]) [qm 65 17, qm 66 21, qa 67 1 65 66, ql 68 3 1 67, qc 69 3 .lss 68 0, qm 70 69, qM 71 17 70 false, qM 72 21 70 false, qg 73 (.ia 1 (qt 71) (qt 72)) 70 false, qk 74 3 1 73 70 false, qh 75 1 13 70 false, qk 76 24 1 75 70 false, qg 77 (.len (qt 76)) 70 false, qg 78 (.bin 3 .geq (qt 74) (qt 77)) 70 false, qp 79 70 78]
def Xn3_38 : C := regL [12] none [qo 12 (.mv (.const (.bool false)))]
def Xn3_37 : C := .seq Xn3_38 .ret
def Xn3_36 : C := .cond (.tmp 79) Xn3_37 .skip
def Xn3_34 : C := .seq Xn3_35 Xn3_36
def Xn3_42 : C := regL [4, 5, 13, 14, 15, 16, 17, 18, 20, 21, 22] (some [0, 1, 0, 0, 12, 28, 63, 127, 0, 511]) [qf 80 1 13, ql 81 24 1 80, qm 82 17, qm 83 21, qa 84 1 82 83, ql 85 3 1 84, qa 86 12 81 85, qL 87 37 12 86, qo 22 (.alc 37 (.agg #[.int .i64 0, .int .i64 0, .int .i64 0, .int .i64 0, .int .i64 0, .int .i64 0, .int .i64 0, .int .i64 0, .int .i64 0, .int .i64 0, .int .i64 0, .int .i64 0])), qs 37 12 22 87]
def Xn3_44 : C := regL [4, 5, 13, 14, 15, 16, 17, 18, 20, 21, 22, 23] none [qf 88 3 22, ql 89 2 1 88, qo 90 (.bld (.agg #[.int .i64 0, .slice none 0 0]) [(0, 1, qt 89)]), qo 23 (.alc 40 (.agg #[.int .i64 0, .slice none 0 0])), qs 40 2 23 90]
def Xn3_47 : C := regL [4, 5, 13, 14, 15, 16, 17, 18, 20, 21, 22, 23, 24] none [qm 91 16, qc 92 2 .quo 91 1440, qm 24 92]
def Xn3_52 : C := regL [4, 5, 13, 14, 15, 16, 17, 18, 20, 21, 22, 23, 24, 97] none [qm 93 24, qm 94 16, qc 95 2 .quo 94 1440, qc 96 2 .add 95 30, qb 97 2 .lss 93 96]
def Xn3_53 : C := .cond (.tmp 97) .skip (.exit 2)
def Xn3_51 : C := .seq Xn3_52 Xn3_53
def Xn3_58 : C := regL [4, 5, 13, 14, 15, 16, 17, 18, 20, 21, 22, 23, 24] none [qf 100 1 23, ql 101 38 1 100, qm 102 24, qc 103 2 .mul 102 1440, qf 104 4 22, ql 105 2 1 104, qb 106 2 .add 103 105, qm 107 24, qc 108 2 .mul 107 1440, qf 109 5 22, ql 110 2 1 109, qb 111 2 .add 108 110, qo 112 (.bld (.agg #[.int .i64 0, .int .i64 0]) [(0, 1, qt 106), (1, 1, qt 111)]), qo 113 (.bls 42 2 1 (.agg #[.int .i64 0, .int .i64 0]) [(0, 2, qt 112)]), qo 114 (.app 42 2 16 (qt 101) (qt 113)), qf 115 1 23, qs 38 1 115 114]
def Xn3_57 : C := .block 3 Xn3_58
def Xn3_59 : C := regL [4, 5, 13, 14, 15, 16, 17, 18, 20, 21, 22, 23, 24] none [qm 98 24, qc 99 2 .add 98 1, qm 24 99]
def Xn3_56 : C := seqL [4, 5, 13, 14, 15, 16, 17, 18, 20, 21, 22, 23, 24] Xn3_57 Xn3_59
def Xn3_50 : C := seqL [4, 5, 13, 14, 15, 16, 17, 18, 20, 21, 22, 23, 24] Xn3_51 Xn3_56
def Xn3_49 : C := loopL [4, 5, 13, 14, 15, 16, 17, 18, 20, 21, 22, 23, 24] Xn3_50
def Xn3_48 : C := .block 2 Xn3_49
def Xn3_46 : C := .seq Xn3_47 Xn3_48
def Xn3_60 : C := regL [4, 5, 13, 14, 15, 16, 17, 18, 20, 21] none [qm 116 20, qL 117 40 2 23, qo 118 (.bls 40 2 1 (.agg #[.int .i64 0, .slice none 0 0]) [(0, 2, qt 117)]), qo 119 (.app 40 2 32 (qt 116) (qt 118)), qm 20 119]
def Xn3_45 : C := seqL [4, 5, 13, 14, 15, 16, 17, 18, 20, 21, 23] Xn3_46 Xn3_60
def Xn3_43 : C := .seq Xn3_44 Xn3_45
def Xn3_41 : C := .seq Xn3_42 Xn3_43
def Xn3_33 : C := seqL [4, 5, 13, 14, 15, 16, 17, 18, 20, 21] Xn3_34 Xn3_41
def Xn3_32 : C := .block 1 Xn3_33
def Xn3_61 : C := regL [4, 5, 13, 14, 15, 16, 17, 18, 20, 21] none [qm 63 21, qc 64 3 .add 63 1, qm 21 64]
def Xn3_31 : C := seqL [4, 5, 13, 14, 15, 16, 17, 18, 20, 21] Xn3_32 Xn3_61
def Xn3_25 : C := seqL [4, 5, 13, 14, 15, 16, 17, 18, 20, 21] Xn3_26 Xn3_31
def Xn3_24 : C := loopL [4, 5, 13, 14, 15, 16, 17, 18, 20, 21] Xn3_25
def Xn3_23 : C := .block 0 Xn3_24
def Xn3_21 : C := .seq Xn3_22 Xn3_23
def Xn3_63 : C := regL [4, 5, 13, 14, 15, 16, 17, 18, 19, 20, 25] none [qm 121 20, qm 122 16, qo 123 (.call 7 [qt 121, qi 10080, qi 1, qt 122]), qm 120 123, qe 124 0 120, qe 125 1 120, qm 25 124, qm 19 125]
def Xn3_66 : C := regL [4, 5, 13, 14, 15, 16, 17, 18, 20, 25, 134] none [qm 126 19, qc 127 30 .neq 126 0, qm 128 127, qM 129 25 128 false, qg 130 (.len (qt 129)) 128 false, qM 131 20 128 false, qg 132 (.len (qt 131)) 128 false, qg 133 (.bin 3 .neq (qt 130) (qt 132)) 128 false, qp 134 128 133]
def Xn3_69 : C := regL [12] none [qo 12 (.mv (.const (.bool false)))]
def Xn3_68 : C := .seq Xn3_69 .ret
def Xn3_67 : C := .cond (.tmp 134) Xn3_68 .skip
def Xn3_65 : C := .seq Xn3_66 Xn3_67
def Xn3_73 : C := regL [4, 5, 13, 14, 15, 16, 17, 18, 20, 25, 26] none [qm 135 25, qw 136 135, qm 26 136]
def Xn3_76 : C := regL [4, 5, 13, 14, 15, 16, 17, 18, 20, 25, 26, 138] none [qm 137 26, qc 138 3 .eql 137 0]
def Xn3_79 : C := regL [12] none [qm 139 18, qm 140 16, qb 141 2 .eql 139 140, qm 142 141, qM 143 14 142 true, qM 144 15 142 true, qg 145 (.bin 3 .eql (qt 143) (qt 144)) 142 true, qq 146 142 145, qm 147 146, qg 148 (.call 6 []) 147 true, qq 149 147 148, qm 12 149]
def Xn3_78 : C := .seq Xn3_79 .ret
def Xn3_77 : C := .cond (.tmp 138) Xn3_78 .skip
def Xn3_75 : C := .seq Xn3_76 Xn3_77
def Xn3_84 : C := regL [4, 5, 13, 16, 17, 20, 25, 26, 163] (some [0, 0, 2, 7, 15, 0, 0, 64, 224, 480, 992, 2047, 0, 8191]) [qm 150 25, qm 151 26, qc 152 3 .sub 151 1, qa 153 1 150 152, ql 154 2 1 153, qm 155 20, qm 156 26, qc 157 3 .sub 156 1, qa 158 2 155 157, qf 159 0 158, ql 160 2 1 159, qb 161 2 .add 154 160, qm 162 18, qb 163 2 .neq 161 162]
def Xn3_87 : C := regL [12] none [qo 12 (.mv (.const (.bool false)))]
def Xn3_86 : C := .seq Xn3_87 .ret
def Xn3_85 : C := .cond (.tmp 163) Xn3_86 .skip
def Xn3_83 : C := .seq Xn3_84 Xn3_85
def Xn3_91 : C := regL [13, 16, 17, 19, 25, 26, 27] none [qm 165 20, qm 166 4, qo 167 (.cvt .i64 (qt 166)), qc 168 2 .rem 167 300, qo 169 (.bin 2 .add (qi 60) (qt 168)), qm 170 5, qo 171 (.cvt .i64 (qt 170)), qc 172 2 .rem 171 2000, qo 173 (.bin 2 .add (qi 1) (qt 172)), qm 174 16, qo 175 (.call 7 [qt 165, qt 169, qt 173, qt 174]), qm 164 175, qe 176 0 164, qe 177 1 164, qm 27 176, qm 19 177]
def Xn3_94 : C := regL [13, 16, 17, 19, 25, 26, 27, 179] none [qm 178 19, qc 179 30 .neq 178 0]
def Xn3_97 : C := regL [12] none [qm 180 19, qc 181 30 .eql 180 15, qm 182 181, qg 183 (.call 6 []) 182 true, qq 184 182 183, qm 12 184]
def Xn3_96 : C := .seq Xn3_97 .ret
def Xn3_95 : C := .cond (.tmp 179) Xn3_96 .skip
def Xn3_93 : C := .seq Xn3_94 Xn3_95
def Xn3_102 : C := regL [13, 16, 17, 26, 27, 201] (some [0, 1, 0, 7, 15, 31, 31, 95, 255, 511, 31, 31, 2079, 7199, 15391, 32767, 65535]) [qm 185 27, qw 186 185, qm 187 26, qb 188 3 .neq 186 187, qm 189 188, qM 190 27 189 false, qM 191 26 189 false, qg 192 (.bin 3 .sub (qt 191) (qi 1)) 189 false, qg 193 (.ia 1 (qt 190) (qt 192)) 189 false, qk 194 2 1 193 189 false, qM 195 25 189 false, qM 196 26 189 false, qg 197 (.bin 3 .sub (qt 196) (qi 1)) 189 false, qg 198 (.ia 1 (qt 195) (qt 197)) 189 false, qk 199 2 1 198 189 false, qg 200 (.bin 2 .lss (qt 194) (qt 199)) 189 false, qp 201 189 200]
def Xn3_105 : C := regL [12] none [qo 12 (.mv (.const (.bool false)))]
def Xn3_104 : C := .seq Xn3_105 .ret
def Xn3_103 : C := .cond (.tmp 201) Xn3_104 .skip
def Xn3_101 : C := .seq Xn3_102 Xn3_103
def Xn3_110 : C := regL [13, 16, 17, 26, 27, 28] none [qo 28 (.mv (qi 0))]
def Xn3_115 : C := regL [13, 16, 17, 26, 27, 28, 204] none [qm 202 28, qm 203 26, qb 204 3 .lss 202 203]
def Xn3_116 : C := .cond (.tmp 204) .skip (.exit 4)
def Xn3_114 : C := .seq Xn3_115 Xn3_116
def Xn3_122 : C := regL [13, 16, 17, 26, 27, 28, 29] (some [0, 1, 0, 0, 12, 28, 63, 127, 0, 511]) [qf 207 1 13, ql 208 24 1 207, qm 209 17, qm 210 28, qa 211 1 209 210, ql 212 3 1 211, qa 213 12 208 212, qL 214 37 12 213, qo 29 (.alc 37 (.agg #[.int .i64 0, .int .i64 0, .int .i64 0, .int .i64 0, .int .i64 0, .int .i64 0, .int .i64 0, .int .i64 0, .int .i64 0, .int .i64 0, .int .i64 0, .int .i64 0])), qs 37 12 29 214]
def Xn3_124 : C := regL [13, 16, 17, 26, 27, 28, 29, 30] none [qm 215 27, qm 216 28, qa 217 1 215 216, ql 218 2 1 217, qc 219 2 .rem 218 1440, qm 30 219]
def Xn3_126 : C := regL [13, 16, 17, 26, 27, 28, 240] none [qm 220 30, qf 221 4 29, ql 222 2 1 221, qb 223 2 .lss 220 222, qm 224 223, qM 225 30 224 false, qh 226 3 29 224 false, qk 227 2 1 226 224 false, qg 228 (.bin 2 .add (qt 225) (qt 227)) 224 false, qh 229 5 29 224 false, qk 230 2 1 229 224 false, qg 231 (.bin 2 .gtr (qt 228) (qt 230)) 224 false, qp 232 224 231, qm 233 232, qM 234 27 233 false, qM 235 28 233 false, qg 236 (.ia 1 (qt 234) (qt 235)) 233 false, qk 237 2 1 236 233 false, qM 238 16 233 false, qg 239 (.bin 2 .lss (qt 237) (qt 238)) 233 false, qp 240 233 239]
def Xn3_129 : C := regL [12] none [qo 12 (.mv (.const (.bool false)))]
def Xn3_128 : C := .seq Xn3_129 .ret
def Xn3_127 : C := .cond (.tmp 240) Xn3_128 .skip
def Xn3_125 : C := .seq Xn3_126 Xn3_127
def Xn3_123 : C := .seq Xn3_124 Xn3_125
def Xn3_121 : C := .seq Xn3_122 Xn3_123
def Xn3_120 : C := .block 5 Xn3_121
def Xn3_132 : C := regL [13, 16, 17, 26, 27, 28] none [qm 205 28, qc 206 3 .add 205 1, qm 28 206]
def Xn3_119 : C := seqL [13, 16, 17, 26, 27, 28] Xn3_120 Xn3_132
def Xn3_113 : C := seqL [13, 16, 17, 26, 27, 28] Xn3_114 Xn3_119
def Xn3_112 : C := loopL [13, 16, 17, 26, 27, 28] Xn3_113
def Xn3_111 : C := .block 4 Xn3_112
def Xn3_109 : C := .seq Xn3_110 Xn3_111
def Xn3_134 : C := regL [12] none [qo 241 (.call 6 []), qm 12 241]
def Xn3_133 : C := .seq Xn3_134 .ret
def Xn3_108 : C := seqL [] Xn3_109 Xn3_133
def Xn3_100 : C := seqL [13, 16, 17, 26, 27] Xn3_101 Xn3_108
def Xn3_92 : C := seqL [13, 16, 17, 25, 26, 27] Xn3_93 Xn3_100
def Xn3_90 : C := .seq Xn3_91 Xn3_92
def Xn3_82 : C := seqL [4, 5, 13, 16, 17, 20, 25, 26] Xn3_83 Xn3_90
def Xn3_74 : C := seqL [4, 5, 13, 16, 17, 18, 20, 25, 26] Xn3_75 Xn3_82
def Xn3_72 : C := .seq Xn3_73 Xn3_74
def Xn3_64 : C := seqL [4, 5, 13, 14, 15, 16, 17, 18, 20, 25] Xn3_65 Xn3_72
def Xn3_62 : C := .seq Xn3_63 Xn3_64
def Xn3_20 : C := seqL [4, 5, 13, 14, 15, 16, 17, 18, 20] Xn3_21 Xn3_62
def Xn3_18 : C := .seq Xn3_19 Xn3_20
def Xn3_10 : C := seqL [4, 5, 13, 14, 15, 16, 17, 18] Xn3_11 Xn3_18
def Xn3_8 : C := .seq Xn3_9 Xn3_10
def Xn3_6 : C := .seq Xn3_7 Xn3_8
def Xn3_4 : C := .seq Xn3_5 Xn3_6
def Xn3_2 : C := .seq Xn3_3 Xn3_4
def Xn3_0 : C := .seq Xn3_1 Xn3_2
theorem Xt3 : Text Tryz.prog 3 Xn3_0 242 6 [.t 12] := txA [] Tryz.func3
def Xn4_1 : C := regL [0, 1, 4] none [qo 4 (.alc 27 (.agg #[.int .i64 0, .slice none 0 0, .slice none 0 0]))]
def Xn4_3 : C := regL [0, 1, 4, 5] none [qo 12 (.bld (.agg #[.int .i64 0, .slice none 0 0, .slice none 0 0]) [(0, 1, qi 5)]), qo 5 (.alc 27 (.agg #[.int .i64 0, .slice none 0 0, .slice none 0 0])), qs 27 3 5 12]
def Xn4_6 : C := regL [0, 1, 4, 5, 6] none [qo 6 (.mv (qi 0))]
def Xn4_11 : C := regL [0, 1, 4, 5, 6, 20] none [qm 13 6, qm 14 0, qw 15 14, qb 16 3 .lss 13 15, qm 17 16, qM 18 6 17 true, qg 19 (.bin 3 .lss (qt 18) (qi 12)) 17 true, qq 20 17 19]
def Xn4_12 : C := .cond (.tmp 20) .skip (.exit 0)
def Xn4_10 : C := .seq Xn4_11 Xn4_12
def Xn4_18 : C := regL [0, 1, 4, 5, 6, 7] none [qm 23 0, qm 24 6, qa 25 8 23 24, qL 26 49 8 25, qo 7 (.alc 49 (.agg #[.int .u8 0, .int .u8 0, .int .u8 0, .int .u8 0, .int .u8 0, .int .u8 0, .int .u8 0, .int .u8 0])), qs 49 8 7 26]
def Xn4_20 : C := regL [0, 1, 4, 5, 6, 7, 8] none [qf 27 0 7, ql 28 5 1 27, qo 29 (.cvt .i64 (qt 28)), qc 30 3 .rem 29 5, qf 31 2 7, ql 32 5 1 31, qo 33 (.cvt .i64 (qt 32)), qo 34 (.bin 2 .add (qi 1) (qt 33)), qf 35 2 7, ql 36 5 1 35, qo 37 (.cvt .i64 (qt 36)), qc 38 2 .rem 37 50, qo 39 (.bin 2 .add (qi 10) (qt 38)), qf 40 6 7, ql 41 5 1 40, qo 42 (.cvt .i64 (qt 41)), qc 43 2 .mul 42 3, qo 44 (.bld (.agg #[.int .i64 0, .int .i64 0, .int .i64 0, .int .i64 0, .int .i64 0, .int .i64 0, .int .i64 0, .int .i64 0, .int .i64 0, .int .i64 0, .int .i64 0, .int .i64 0]) [(0, 1, qt 30), (2, 1, qt 34), (3, 1, qt 39), (4, 1, qt 43)]), qo 8 (.alc 37 (.agg #[.int .i64 0, .int .i64 0, .int .i64 0, .int .i64 0, .int .i64 0, .int .i64 0, .int .i64 0, .int .i64 0, .int .i64 0, .int .i64 0, .int .i64 0, .int .i64 0])), qs 37 12 8 44]
def Xn4_22 : C := regL [0, 1, 4, 5, 6, 7, 8] none [qf 45 0 8, ql 46 3 1 45, qc 47 3 .add 46 1, qf 48 1 7, ql 49 5 1 48, qo 50 (.cvt .i64 (qt 49)), qc 51 3 .rem 50 4, qb 52 3 .add 47 51, qc 53 3 .rem 52 5, qf 54 1 8, qs 3 1 54 53]
def Xn4_24 : C := regL [0, 1, 4, 5, 6, 7, 8] none [qf 55 4 8, ql 56 2 1 55, qf 57 3 8, ql 58 2 1 57, qb 59 2 .add 56 58, qf 60 7 7, ql 61 5 1 60, qo 62 (.cvt .i64 (qt 61)), qc 63 2 .mul 62 4, qb 64 2 .add 59 63, qo 65 (.mn [qi 1440, qt 64]), qf 66 5 8, qs 2 1 66 65]
def Xn4_26 : C := regL [0, 1, 4, 5, 6, 8] none [qf 67 5 7, ql 68 5 1 67, qo 69 (.cvt .i64 (qt 68)), qo 70 (.bin 2 .mul (qi 20) (qt 69)), qo 71 (.bin 2 .add (qi 1200) (qt 70)), qf 72 3 7, ql 73 5 1 72, qo 74 (.cvt .i64 (qt 73)), qo 75 (.bin 2 .mul (qi 200) (qt 74)), qo 76 (.bin 2 .add (qi 10000) (qt 75)), qf 77 4 7, ql 78 5 1 77, qo 79 (.cvt .i64 (qt 78)), qo 80 (.bin 2 .mul (qi 50) (qt 79)), qo 81 (.bin 2 .add (qi 3000) (qt 80)), qo 82 (.bld (.agg #[.int .i64 0, .int .i64 0, .int .i64 0, .int .i64 0, .int .i64 0, .int .i64 0]) [(0, 1, qt 71), (1, 1, qi 100000), (2, 1, qt 76), (3, 1, qt 81), (4, 1, qi 100000), (5, 1, qi 100000)]), qf 83 6 8, qs 33 6 83 82]
def Xn4_27 : C := regL [0, 1, 4, 5, 6] none [qf 84 1 5, ql 85 24 1 84, qL 86 37 12 8, qo 87 (.bls 37 12 1 (.agg #[.int .i64 0, .int .i64 0, .int .i64 0, .int .i64 0, .int .i64 0, .int .i64 0, .int .i64 0, .int .i64 0, .int .i64 0, .int .i64 0, .int .i64 0, .int .i64 0]) [(0, 12, qt 86)]), qo 88 (.app 37 12 96 (qt 85) (qt 87)), qf 89 1 5, qs 24 1 89 88]
def Xn4_25 : C := .seq Xn4_26 Xn4_27
def Xn4_23 : C := .seq Xn4_24 Xn4_25
def Xn4_21 : C := .seq Xn4_22 Xn4_23
def Xn4_19 : C := .seq Xn4_20 Xn4_21
def Xn4_17 : C := .seq Xn4_18 Xn4_19
def Xn4_16 : C := .block 1 Xn4_17
def Xn4_28 : C := regL [0, 1, 4, 5, 6] none [qm 21 6, qc 22 3 .add 21 1, qm 6 22]
def Xn4_15 : C := seqL [0, 1, 4, 5, 6] Xn4_16 Xn4_28
def Xn4_9 : C := seqL [0, 1, 4, 5, 6] Xn4_10 Xn4_15
def Xn4_8 : C := loopL [0, 1, 4, 5, 6] Xn4_9
def Xn4_7 : C := .block 0 Xn4_8
def Xn4_5 : C := .seq Xn4_6 Xn4_7
def Xn4_31 : C := regL [1, 4, 5, 9] none [qo 9 (.mv (qi 0))]
def Xn4_36 : C := regL [1, 4, 5, 9, 103] none [qm 90 9, qm 91 1, qw 92 91, qb 93 3 .lss 90 92, qm 94 93, qM 95 9 94 true, qg 96 (.bin 3 .lss (qt 95) (qi 4)) 94 true, qq 97 94 96, qm 98 97, qh 99 1 5 98 true, qk 100 24 1 99 98 true, qg 101 (.len (qt 100)) 98 true, qg 102 (.bin 3 .gtr (qt 101) (qi 0)) 98 true, qq 103 98 102]
def Xn4_37 : C := .cond (.tmp 103) .skip (.exit 2)
def Xn4_35 : C := .seq Xn4_36 Xn4_37
def Xn4_43 : C := regL [1, 4, 5, 9, 10] none [qm 106 1, qm 107 9, qa 108 4 106 107, qL 109 51 4 108, qo 10 (.alc 51 (.agg #[.int .u8 0, .int .u8 0, .int .u8 0, .int .u8 0])), qs 51 4 10 109]
def Xn4_45 : C := regL [1, 4, 5, 9, 10, 11] none [qo 110 (.bld (.agg #[.int .i64 0, .int .i64 0, .int .i64 0]) [(0, 1, qi 0), (1, 1, qi 2), (2, 1, qi 3)]), qf 111 1 10, ql 112 5 1 111, qo 113 (.cvt .i64 (qt 112)), qc 114 3 .rem 113 3, qo 115 (.idx 3 1 false (qt 110) (qt 114)), qm 11 115]
def Xn4_46 : C := regL [1, 4, 5, 9] (some [0, 1, 0, 4, 12, 0, 32, 96, 252, 508, 0, 0, 0, 4096, 12288, 28672, 63488, 0, 131072, 393216, 917504, 2095104, 4192256, 0, 8388608, 25165824, 58720256, 134217724, 268435452, 536870911, 1073741823, 2147483647]) [qf 116 2 5, ql 117 25 1 116, qf 118 0 10, ql 119 5 1 118, qo 120 (.cvt .i64 (qt 119)), qf 121 1 5, ql 122 24 1 121, qw 123 122, qb 124 3 .rem 120 123, qo 125 (.bls 3 1 1 (.int .i64 0) [(0, 1, qt 124)]), qm 126 11, qo 127 (.bld (.agg #[.int .i64 0, .int .i64 0, .int .i64 0]) [(0, 1, qi 6000), (1, 1, qi 80000), (2, 1, qi 20000)]), qf 128 1 10, ql 129 5 1 128, qo 130 (.cvt .i64 (qt 129)), qc 131 3 .rem 130 3, qo 132 (.idx 3 1 false (qt 127) (qt 131)), qf 133 2 10, ql 134 5 1 133, qo 135 (.cvt .i64 (qt 134)), qo 136 (.bin 2 .add (qi 1) (qt 135)), qb 137 2 .mul 132 136, qc 138 2 .quo 137 256, qf 139 3 10, ql 140 5 1 139, qo 141 (.cvt .i64 (qt 140)), qo 142 (.bin 2 .add (qi 1) (qt 141)), qo 143 (.bld (.agg #[.slice none 0 0, .int .i64 0, .int .i64 0, .int .i64 0]) [(0, 1, qt 125), (1, 1, qt 126), (2, 1, qt 138), (3, 1, qt 142)]), qo 144 (.bls 55 4 1 (.agg #[.slice none 0 0, .int .i64 0, .int .i64 0, .int .i64 0]) [(0, 4, qt 143)]), qo 145 (.app 55 4 48 (qt 117) (qt 144)), qf 146 2 5, qs 25 1 146 145]
def Xn4_44 : C := .seq Xn4_45 Xn4_46
def Xn4_42 : C := .seq Xn4_43 Xn4_44
def Xn4_41 : C := .block 3 Xn4_42
def Xn4_47 : C := regL [1, 4, 5, 9] none [qm 104 9, qc 105 3 .add 104 1, qm 9 105]
def Xn4_40 : C := seqL [1, 4, 5, 9] Xn4_41 Xn4_47
def Xn4_34 : C := seqL [1, 4, 5, 9] Xn4_35 Xn4_40
def Xn4_33 : C := loopL [1, 4, 5, 9] Xn4_34
def Xn4_32 : C := .block 2 Xn4_33
def Xn4_30 : C := .seq Xn4_31 Xn4_32
def Xn4_49 : C := regL [4] none [qL 147 27 3 5, qs 27 3 4 147]
def Xn4_48 : C := .seq Xn4_49 .ret
def Xn4_29 : C := seqL [4, 5] Xn4_30 Xn4_48
def Xn4_4 : C := seqL [1, 4, 5] Xn4_5 Xn4_29
def Xn4_2 : C := .seq Xn4_3 Xn4_4
def Xn4_0 : C := .seq Xn4_1 Xn4_2
theorem Xt4 : Text Tryz.prog 4 Xn4_0 148 2 [.c 4 3 true] := txA [] Tryz.func4
def Xn5_1 : C := regL [2, 3, 4, 5, 6, 7] none [qx 6 27 0, qx 7 33 1, qo 12 (.mv (.const (.slice none 0 0))), qo 13 (.mv (qi 0)), qo 14 (.mv (qi 0))]
def Xn5_3 : C := regL [2, 3, 4, 5, 6, 15, 16] none [qL 25 27 3 6, qL 26 33 6 7, qm 27 2, qm 28 3, qm 29 4, qm 30 5, qo 31 (.call 8 [qt 25, qt 26, qt 27, qt 28, qt 29, qt 30]), qm 24 31, qe 32 0 24, qe 33 1 24, qo 15 (.alc 57 (.agg #[.int .i64 0, .slice none 0 0, .slice none 0 0, .int .i64 0, .int .i64 0, .int .i64 0, .int .i64 0, .int .i64 0, .int .i64 0])), qs 57 9 15 32, qm 16 33]
def Xn5_6 : C := regL [2, 3, 4, 5, 6, 15, 16, 35] none [qm 34 16, qc 35 30 .neq 34 0]
def Xn5_9 : C := regL [12, 13, 14] none [qm 36 16, qo 12 (.mv (.const (.slice none 0 0))), qo 13 (.mv (qi 0)), qm 14 36]
def Xn5_8 : C := .seq Xn5_9 .ret
def Xn5_7 : C := .cond (.tmp 35) Xn5_8 .skip
def Xn5_5 : C := .seq Xn5_6 Xn5_7
def Xn5_13 : C := regL [3, 4, 5, 6, 15, 17] none [qm 37 2, qo 38 (.call 9 [qt 37]), qm 17 38]
def Xn5_15 : C := regL [3, 4, 5, 6, 15, 17, 18] none [qf 39 0 6, ql 40 3 1 39, qo 41 (.mks 4 1 1 (.bool false) (qt 40) (qt 40)), qm 18 41]
def Xn5_17 : C := regL [3, 4, 5, 6, 15, 17, 18, 19] none [qL 42 57 9 15, qm 43 17, qm 44 3, qm 45 5, qm 46 18, qo 47 (.call 10 [qt 42, qt 43, qt 44, qt 45, qt 46]), qm 48 4, qa 49 1 47 48, ql 50 2 1 49, qm 19 50]
def Xn5_20 : C := regL [3, 4, 5, 6, 15, 17, 18, 19, 52] none [qm 51 19, qc 52 2 .lss 51 0]
def Xn5_23 : C := regL [12, 13, 14] none [qo 12 (.mv (.const (.slice none 0 0))), qo 13 (.mv (qi 0)), qo 14 (.mv (qi 15))]
def Xn5_22 : C := .seq Xn5_23 .ret
def Xn5_21 : C := .cond (.tmp 52) Xn5_22 .skip
def Xn5_19 : C := .seq Xn5_20 Xn5_21
def Xn5_27 : C := regL [3, 4, 5, 6, 15, 17, 18, 19, 20] none [qo 20 (.mv (.const (.slice none 0 0)))]
def Xn5_33 : C := regL [3, 4, 5, 6, 15, 17, 18, 19, 20, 55] none [qm 53 3, qm 54 4, qb 55 3 .neq 53 54]
def Xn5_34 : C := .cond (.tmp 55) .skip (.exit 0)
def Xn5_32 : C := .seq Xn5_33 Xn5_34
def Xn5_39 : C := regL [3, 4, 5, 6, 15, 17, 18, 19, 20] none [qm 56 18, qm 57 3, qa 58 1 56 57, ⟨none, .st 4 1 (qt 58) (.const (.bool true)), none⟩]
def Xn5_41 : C := regL [3, 4, 5, 6, 15, 17, 18, 19, 20, 60, 61, 62] none [qf 59 1 6, ql 60 24 1 59, qw 61 60, qo 62 (.mv (qi 0))]
def Xn5_45 : C := regL [3, 4, 5, 6, 15, 17, 18, 19, 20, 60, 61, 62, 63] none [qb 63 3 .lss 62 61]
def Xn5_47 : C := .cond (.tmp 63) .skip (.exit 2)
def Xn5_53 : C := regL [3, 4, 5, 6, 15, 17, 18, 19, 20, 21, 22, 60, 61, 62] none [qm 64 62, qa 65 12 60 62, qL 66 37 12 65, qo 22 (.alc 37 (.agg #[.int .i64 0, .int .i64 0, .int .i64 0, .int .i64 0, .int .i64 0, .int .i64 0, .int .i64 0, .int .i64 0, .int .i64 0, .int .i64 0, .int .i64 0, .int .i64 0])), qm 21 64, qs 37 12 22 66]
def Xn5_56 : C := regL [3, 4, 5, 6, 15, 17, 18, 19, 20, 21, 22, 60, 61, 62, 84] none [qf 67 0 22, ql 68 3 1 67, qm 69 3, qb 70 3 .neq 68 69, qm 71 70, qM 72 18 71 false, qh 73 1 22 71 false, qk 74 3 1 73 71 false, qg 75 (.ia 1 (qt 72) (qt 74)) 71 false, qk 76 4 1 75 71 false, qp 77 71 76, qm 78 77, qg 79 (.ld 57 9 true (qt 15)) 78 false, qM 80 17 78 false, qM 81 21 78 false, qg 82 (.call 11 [qt 79, qt 80, qt 81]) 78 false, qg 83 (.un .not (qt 82)) 78 false, qp 84 78 83]
def Xn5_57 : C := .cond (.tmp 84) (.exit 3) .skip
def Xn5_55 : C := .seq Xn5_56 Xn5_57
def Xn5_61 : C := regL [3, 4, 5, 6, 15, 17, 18, 19, 20, 21, 22, 23, 60, 61, 62] none [qL 85 37 12 22, qm 86 5, qo 87 (.call 12 [qt 85, qt 86]), qm 23 87]
def Xn5_63 : C := regL [3, 4, 5, 6, 15, 17, 18, 19, 20, 21, 22, 23, 60, 61, 62, 99] none [qL 88 57 9 15, qm 89 17, qf 90 1 22, ql 91 3 1 90, qm 92 23, qm 93 18, qo 94 (.call 10 [qt 88, qt 89, qt 91, qt 92, qt 93]), qm 95 4, qa 96 1 94 95, ql 97 2 1 96, qm 98 19, qb 99 2 .eql 97 98]
def Xn5_66 : C := regL [4, 6, 15, 17, 18, 19, 20, 22, 23] none [qm 100 20, qm 101 21, qo 102 (.bls 3 1 1 (.int .i64 0) [(0, 1, qt 101)]), qo 103 (.app 3 1 8 (qt 100) (qt 102)), qm 20 103]
def Xn5_68 : C := regL [3, 4, 5, 6, 15, 17, 18, 19, 20] none [qf 104 1 22, ql 105 3 1 104, qm 106 23, qm 3 105, qm 5 106]
def Xn5_67 : C := .seq Xn5_68 (.exit 2)
def Xn5_65 : C := .seq Xn5_66 Xn5_67
def Xn5_64 : C := .cond (.tmp 99) Xn5_65 .skip
def Xn5_62 : C := .seq Xn5_63 Xn5_64
def Xn5_60 : C := .seq Xn5_61 Xn5_62
def Xn5_54 : C := seqL [3, 4, 5, 6, 15, 17, 18, 19, 20, 21, 22, 60, 61, 62] Xn5_55 Xn5_60
def Xn5_52 : C := .seq Xn5_53 Xn5_54
def Xn5_51 : C := .block 3 Xn5_52
def Xn5_71 : C := regL [3, 4, 5, 6, 15, 17, 18, 19, 20, 60, 61, 62] none [qc 107 3 .add 62 1, qm 62 107]
def Xn5_50 : C := seqL [3, 4, 5, 6, 15, 17, 18, 19, 20, 60, 61, 62] Xn5_51 Xn5_71
def Xn5_46 : C := seqL [3, 4, 5, 6, 15, 17, 18, 19, 20, 60, 61, 62] Xn5_47 Xn5_50
def Xn5_44 : C := .seq Xn5_45 Xn5_46
def Xn5_43 : C := loopL [3, 4, 5, 6, 15, 17, 18, 19, 20, 60, 61, 62] Xn5_44
def Xn5_42 : C := .block 2 Xn5_43
def Xn5_40 : C := .seq Xn5_41 Xn5_42
def Xn5_38 : C := .seq Xn5_39 Xn5_40
def Xn5_37 : C := .block 1 Xn5_38
def Xn5_31 : C := seqL [3, 4, 5, 6, 15, 17, 18, 19, 20] Xn5_32 Xn5_37
def Xn5_30 : C := loopL [3, 4, 5, 6, 15, 17, 18, 19, 20] Xn5_31
def Xn5_29 : C := .block 0 Xn5_30
def Xn5_73 : C := regL [12, 13, 14] none [qm 108 20, qm 109 19, qm 12 108, qm 13 109, qo 14 (.mv (qi 0))]
def Xn5_72 : C := .seq Xn5_73 .ret
def Xn5_28 : C := seqL [19, 20] Xn5_29 Xn5_72
def Xn5_26 : C := .seq Xn5_27 Xn5_28
def Xn5_18 : C := seqL [3, 4, 5, 6, 15, 17, 18, 19] Xn5_19 Xn5_26
def Xn5_16 : C := .seq Xn5_17 Xn5_18
def Xn5_14 : C := .seq Xn5_15 Xn5_16
def Xn5_12 : C := .seq Xn5_13 Xn5_14
def Xn5_4 : C := seqL [2, 3, 4, 5, 6, 15] Xn5_5 Xn5_12
def Xn5_2 : C := .seq Xn5_3 Xn5_4
def Xn5_0 : C := .seq Xn5_1 Xn5_2
theorem Xt5 : Text Tryz.prog 5 Xn5_0 110 6 [.t 12, .t 13, .t 14] := txA [6, 7] Tryz.func5
def Xn6_1 : C := regL [] none [qo 0 (.mv (.const (.bool false)))]
def Xn6_3 : C := regL [1, 2] none [qo 4 (.bld (.agg #[.int .i64 0, .int .i64 0]) [(0, 1, qi 5), (1, 1, qi 9)]), qo 5 (.bls 42 2 1 (.agg #[.int .i64 0, .int .i64 0]) [(0, 2, qt 4)]), qo 6 (.call 13 [qt 5, qi 4, qi 0]), qm 3 6, qe 7 0 3, qe 8 1 3, qm 1 7, qm 2 8]
def Xn6_5 : C := regL [0] none [qm 9 2, qc 10 30 .eql 9 0, qm 11 10, qM 12 1 11 true, qg 13 (.bin 2 .eql (qt 12) (qi 5)) 11 true, qq 14 11 13, qm 15 14, qg 16 (.call 14 []) 15 true, qq 17 15 16, qm 0 17]
def Xn6_4 : C := .seq Xn6_5 .ret
def Xn6_2 : C := .seq Xn6_3 Xn6_4
def Xn6_0 : C := .seq Xn6_1 Xn6_2
theorem Xt6 : Text Tryz.prog 6 Xn6_0 18 0 [.t 0] := txA [] Tryz.func6
def Xn7_1 : C := regL [3, 4, 5, 6] none [qx 4 35 0, qx 5 2 1, qx 6 2 2, qo 8 (.mv (.const (.slice none 0 0))), qo 9 (.mv (qi 0))]
def Xn7_3 : C := regL [3, 4, 5, 6, 10] none [ql 14 35 1 4, ql 15 2 1 5, ql 16 2 1 6, qm 17 3, qo 18 (.bld (.agg #[.slice none 0 0, .int .i64 0, .int .i64 0, .int .i64 0]) [(0, 1, qt 14), (1, 1, qt 15), (2, 1, qt 16), (3, 1, qt 17)]), qo 10 (.alc 70 (.agg #[.slice none 0 0, .int .i64 0, .int .i64 0, .int .i64 0])), qs 70 4 10 18]
def Xn7_6 : C := regL [3, 4, 5, 6, 11] none [qL 19 70 4 10, qo 20 (.call 15 [qt 19]), qm 11 20]
def Xn7_8 : C := regL [3, 4, 5, 6, 11, 22] none [qm 21 11, qc 22 30 .neq 21 0]
def Xn7_11 : C := regL [8, 9] none [qm 23 11, qo 8 (.mv (.const (.slice none 0 0))), qm 9 23]
def Xn7_10 : C := .seq Xn7_11 .ret
def Xn7_9 : C := .cond (.tmp 22) Xn7_10 .skip
def Xn7_7 : C := .seq Xn7_8 Xn7_9
def Xn7_5 : C := .seq Xn7_6 Xn7_7
def Xn7_16 : C := regL [3, 4, 5, 6, 26] none [ql 24 35 1 4, qw 25 24, qc 26 3 .eql 25 0]
def Xn7_19 : C := regL [8, 9] none [qo 8 (.mv (.const (.slice none 0 0))), qo 9 (.mv (qi 0))]
def Xn7_18 : C := .seq Xn7_19 .ret
def Xn7_17 : C := .cond (.tmp 26) Xn7_18 .skip
def Xn7_15 : C := .seq Xn7_16 Xn7_17
def Xn7_23 : C := regL [3, 4, 5, 6, 12] none [qo 12 (.alc 43 (.slice none 0 0))]
def Xn7_25 : C := regL [3, 4, 5, 6, 12, 13] none [qo 13 (.alc 72 (.nilFunc))]
def Xn7_27 : C := regL [3, 12, 13] none [qo 27 (.mkf 16 [] [qt 4, qt 12, qt 6, qt 5, qt 13]), qs 72 1 13 27]
def Xn7_29 : C := regL [12] none [ql 28 72 1 13, qm 29 3, qo 30 (.callv (qt 28) [.const (.slice none 0 0), qt 29, qi 0])]
def Xn7_32 : C := regL [12, 32] none [ql 31 43 1 12, qo 32 (.isn false (qt 31))]
def Xn7_35 : C := regL [8, 9] none [qo 8 (.mv (.const (.slice none 0 0))), qo 9 (.mv (qi 15))]
def Xn7_34 : C := .seq Xn7_35 .ret
def Xn7_33 : C := .cond (.tmp 32) Xn7_34 .skip
def Xn7_31 : C := .seq Xn7_32 Xn7_33
def Xn7_39 : C := regL [8, 9] none [ql 33 43 1 12, qm 8 33, qo 9 (.mv (qi 0))]
def Xn7_38 : C := .seq Xn7_39 .ret
def Xn7_30 : C := seqL [12] Xn7_31 Xn7_38
def Xn7_28 : C := .seq Xn7_29 Xn7_30
def Xn7_26 : C := .seq Xn7_27 Xn7_28
def Xn7_24 : C := .seq Xn7_25 Xn7_26
def Xn7_22 : C := .seq Xn7_23 Xn7_24
def Xn7_14 : C := seqL [3, 4, 5, 6] Xn7_15 Xn7_22
def Xn7_4 : C := seqL [3, 4, 5, 6] Xn7_5 Xn7_14
def Xn7_2 : C := .seq Xn7_3 Xn7_4
def Xn7_0 : C := .seq Xn7_1 Xn7_2
theorem Xt7 : Text Tryz.prog 7 Xn7_0 34 4 [.t 8, .t 9] := txA [4, 5, 6] Tryz.func7
def Xn8_1 : C := regL [2, 3, 4, 5, 6, 7, 12] none [qx 6 27 0, qx 7 33 1, qo 12 (.alc 57 (.agg #[.int .i64 0, .slice none 0 0, .slice none 0 0, .int .i64 0, .int .i64 0, .int .i64 0, .int .i64 0, .int .i64 0, .int .i64 0])), qo 13 (.mv (qi 0))]
def Xn8_3 : C := regL [2, 3, 4, 5, 6, 12, 14, 15] none [qL 17 27 3 6, qL 18 33 6 7, qo 19 (.call 21 [qt 17, qt 18]), qm 16 19, qe 20 0 16, qe 21 1 16, qo 14 (.alc 57 (.agg #[.int .i64 0, .slice none 0 0, .slice none 0 0, .int .i64 0, .int .i64 0, .int .i64 0, .int .i64 0, .int .i64 0, .int .i64 0])), qs 57 9 14 20, qm 15 21]
def Xn8_6 : C := regL [2, 3, 4, 5, 6, 12, 14, 15, 23] none [qm 22 15, qc 23 30 .neq 22 0]
def Xn8_9 : C := regL [12, 13] none [qL 24 57 9 14, qm 25 15, qs 57 9 12 24, qm 13 25]
def Xn8_8 : C := .seq Xn8_9 .ret
def Xn8_7 : C := .cond (.tmp 23) Xn8_8 .skip
def Xn8_5 : C := .seq Xn8_6 Xn8_7
def Xn8_14 : C := regL [12, 14, 44] none [qm 26 2, qf 27 2 6, ql 28 25 1 27, qw 29 28, qo 30 (.call 22 [qt 26, qt 29]), qn 31 30, qm 32 31, qg 33 (.ld 27 3 true (qt 6)) 32 false, qM 34 3 32 false, qM 35 4 32 false, qg 36 (.bls 3 1 2 (.int .i64 0) [(0, 1, qt 34), (1, 1, qt 35)]) 32 false, qg 37 (.call 23 [qt 33, qt 36]) 32 false, qg 38 (.bin 30 .neq (qt 37) (qi 0)) 32 false, qp 39 32 38, qm 40 39, qM 41 5 40 false, qg 42 (.call 24 [qt 41, qi 0, qi 1099511627776]) 40 false, qg 43 (.un .not (qt 42)) 40 false, qp 44 40 43]
def Xn8_17 : C := regL [12, 13] none [qL 45 57 9 14, qs 57 9 12 45, qo 13 (.mv (qi 3))]
def Xn8_16 : C := .seq Xn8_17 .ret
def Xn8_15 : C := .cond (.tmp 44) Xn8_16 .skip
def Xn8_13 : C := .seq Xn8_14 Xn8_15
def Xn8_21 : C := regL [12, 13] none [qL 46 57 9 14, qs 57 9 12 46, qo 13 (.mv (qi 0))]
def Xn8_20 : C := .seq Xn8_21 .ret
def Xn8_12 : C := seqL [12, 14] Xn8_13 Xn8_20
def Xn8_4 : C := seqL [2, 3, 4, 5, 6, 12, 14] Xn8_5 Xn8_12
def Xn8_2 : C := .seq Xn8_3 Xn8_4
def Xn8_0 : C := .seq Xn8_1 Xn8_2
theorem Xt8 : Text Tryz.prog 8 Xn8_0 47 6 [.c 12 9 true, .t 13] := txA [6, 7] Tryz.func8
def Xn9_1 : C := regL [0] none [qo 2 (.mv (.const (.int .u64 0)))]
def Xn9_3 : C := regL [0, 3] none [qo 3 (.mv (.const (.int .u64 0)))]
def Xn9_6 : C := regL [3, 6, 7, 8] none [qm 6 0, qw 7 6, qo 8 (.mv (qi 0))]
def Xn9_10 : C := regL [3, 6, 7, 8, 9] none [qb 9 3 .lss 8 7]
def Xn9_12 : C := .cond (.tmp 9) .skip (.exit 0)
def Xn9_18 : C := regL [3, 5, 6, 7, 8] none [qa 10 1 6 8, ql 11 3 1 10, qm 5 11]
def Xn9_19 : C := regL [3, 6, 7, 8] none [qm 12 3, qm 13 5, qo 14 (.bin 61 .shl (.const (.int .u64 1)) (qt 13)), qb 15 61 .or 12 14, qm 3 15]
def Xn9_17 : C := .seq Xn9_18 Xn9_19
def Xn9_16 : C := .block 1 Xn9_17
def Xn9_20 : C := regL [3, 6, 7, 8] none [qc 16 3 .add 8 1, qm 8 16]
def Xn9_15 : C := seqL [3, 6, 7, 8] Xn9_16 Xn9_20
def Xn9_11 : C := seqL [3, 6, 7, 8] Xn9_12 Xn9_15
def Xn9_9 : C := .seq Xn9_10 Xn9_11
def Xn9_8 : C := loopL [3, 6, 7, 8] Xn9_9
def Xn9_7 : C := .block 0 Xn9_8
def Xn9_5 : C := .seq Xn9_6 Xn9_7
def Xn9_22 : C := regL [2] none [qm 17 3, qm 2 17]
def Xn9_21 : C := .seq Xn9_22 .ret
def Xn9_4 : C := seqL [3] Xn9_5 Xn9_21
def Xn9_2 : C := .seq Xn9_3 Xn9_4
def Xn9_0 : C := .seq Xn9_1 Xn9_2
theorem Xt9 : Text Tryz.prog 9 Xn9_0 18 1 [.t 2] := txA [] Tryz.func9
def Xn11_1 : C := regL [1, 2, 3, 6] none [qx 3 57 0, qo 6 (.alc 4 (.bool false))]
def Xn11_4 : C := regL [6, 10] none [qL 7 57 9 3, qm 8 1, qm 9 2, qo 10 (.call 27 [qt 7, qt 8, qt 9])]
def Xn11_10 : C := regL [] none [⟨none, .st 4 1 (qt 6) (.const (.bool false)), none⟩]
def Xn11_9 : C := .seq Xn11_10 .ret
def Xn11_8 : C := .block 1 Xn11_9
def Xn11_6 : C := .rfn (.tmp 10) [11] .skip Xn11_8
def Xn11_5 : C := .block 0 Xn11_6
def Xn11_3 : C := .seq Xn11_4 Xn11_5
def Xn11_13 : C := regL [6] none [⟨none, .st 4 1 (qt 6) (.const (.bool true)), none⟩]
def Xn11_12 : C := .seq Xn11_13 .ret
def Xn11_2 : C := seqL [6] Xn11_3 Xn11_12
def Xn11_0 : C := .seq Xn11_1 Xn11_2
theorem Xt11 : Text Tryz.prog 11 Xn11_0 12 3 [.c 6 1 false] := txA [3] Tryz.func11
def Xn12_1 : C := regL [1, 2] none [qx 2 37 0, qo 4 (.mv (qi 0))]
def Xn12_3 : C := regL [1, 2, 5] none [qm 6 1, qc 7 2 .rem 6 1440, qm 5 7]
def Xn12_7 : C := regL [1, 2, 5, 8] none [qm 9 5, qf 10 4 2, ql 11 2 1 10, qb 12 2 .lss 9 11, qm 8 12]
def Xn12_9 : C := regL [1, 2] none [qm 13 1, qf 14 4 2, ql 15 2 1 14, qm 16 5, qb 17 2 .sub 15 16, qb 18 2 .add 13 17, qm 1 18]
def Xn12_11 : C := regL [1, 2, 5, 19] none [qm 20 5, qf 21 5 2, ql 22 2 1 21, qf 23 3 2, ql 24 2 1 23, qb 25 2 .sub 22 24, qb 26 2 .gtr 20 25, qm 19 26]
def Xn12_13 : C := regL [1, 2] none [qm 27 1, qm 28 5, qo 29 (.bin 2 .sub (qi 1440) (qt 28)), qf 30 4 2, ql 31 2 1 30, qb 32 2 .add 29 31, qb 33 2 .add 27 32, qm 1 33]
def Xn12_12 : C := .cond (.tmp 19) Xn12_13 .skip
def Xn12_10 : C := .seq Xn12_11 Xn12_12
def Xn12_8 : C := .cond (.tmp 8) Xn12_9 Xn12_10
def Xn12_6 : C := .seq Xn12_7 Xn12_8
def Xn12_5 : C := .block 0 Xn12_6
def Xn12_16 : C := regL [4] none [qm 34 1, qf 35 3 2, ql 36 2 1 35, qb 37 2 .add 34 36, qm 4 37]
def Xn12_15 : C := .seq Xn12_16 .ret
def Xn12_4 : C := seqL [1, 2] Xn12_5 Xn12_15
def Xn12_2 : C := .seq Xn12_3 Xn12_4
def Xn12_0 : C := .seq Xn12_1 Xn12_2
theorem Xt12 : Text Tryz.prog 12 Xn12_0 38 2 [.t 4] := txA [2] Tryz.func12
def Xn13_1 : C := regL [0, 1, 2] none [qo 6 (.mv (qi 0)), qo 7 (.mv (qi 0))]
def Xn13_4 : C := regL [0, 1, 2, 12] none [qm 10 0, qw 11 10, qc 12 3 .gtr 11 32]
def Xn13_7 : C := regL [6, 7] none [qo 6 (.mv (qi 0)), qo 7 (.mv (qi 6))]
def Xn13_6 : C := .seq Xn13_7 .ret
def Xn13_5 : C := .cond (.tmp 12) Xn13_6 .skip
def Xn13_3 : C := .seq Xn13_4 Xn13_5
def Xn13_12 : C := regL [0, 1, 2, 15] none [qm 13 0, qo 14 (.call 28 [qt 13]), qn 15 14]
def Xn13_15 : C := regL [6, 7] none [qo 6 (.mv (qi 0)), qo 7 (.mv (qi 2))]
def Xn13_14 : C := .seq Xn13_15 .ret
def Xn13_13 : C := .cond (.tmp 15) Xn13_14 .skip
def Xn13_11 : C := .seq Xn13_12 Xn13_13
def Xn13_20 : C := regL [0, 1, 2, 23] none [qm 16 1, qo 17 (.call 29 [qt 16, qi 0, qi 10080]), qn 18 17, qm 19 18, qM 20 2 19 false, qg 21 (.call 29 [qt 20, qi 0, qi 1099511627776]) 19 false, qg 22 (.un .not (qt 21)) 19 false, qp 23 19 22]
def Xn13_23 : C := regL [6, 7] none [qo 6 (.mv (qi 0)), qo 7 (.mv (qi 3))]
def Xn13_22 : C := .seq Xn13_23 .ret
def Xn13_21 : C := .cond (.tmp 23) Xn13_22 .skip
def Xn13_19 : C := .seq Xn13_20 Xn13_21
def Xn13_27 : C := regL [8, 9] none [qm 25 0, qm 26 1, qm 27 2, qo 28 (.call 20 [qt 25, qt 26, qt 27]), qm 24 28, qe 29 0 24, qe 30 1 24, qm 8 29, qm 9 30]
def Xn13_30 : C := regL [8, 32] none [qm 31 9, qn 32 31]
def Xn13_33 : C := regL [6, 7] none [qo 6 (.mv (qi 0)), qo 7 (.mv (qi 15))]
def Xn13_32 : C := .seq Xn13_33 .ret
def Xn13_31 : C := .cond (.tmp 32) Xn13_32 .skip
def Xn13_29 : C := .seq Xn13_30 Xn13_31
def Xn13_37 : C := regL [6, 7] none [qm 33 8, qm 6 33, qo 7 (.mv (qi 0))]
def Xn13_36 : C := .seq Xn13_37 .ret
def Xn13_28 : C := seqL [8] Xn13_29 Xn13_36
def Xn13_26 : C := .seq Xn13_27 Xn13_28
def Xn13_18 : C := seqL [0, 1, 2] Xn13_19 Xn13_26
def Xn13_10 : C := seqL [0, 1, 2] Xn13_11 Xn13_18
def Xn13_2 : C := seqL [0, 1, 2] Xn13_3 Xn13_10
def Xn13_0 : C := .seq Xn13_1 Xn13_2
theorem Xt13 : Text Tryz.prog 13 Xn13_0 34 3 [.t 6, .t 7] := txA [] Tryz.func13
def Xn14_1 : C := regL [] none [qo 0 (.mv (.const (.bool false)))]
def Xn14_3 : C := regL [1] none [qo 4 (.bld (.agg #[.int .u8 0, .int .u8 0, .int .u8 0, .int .u8 0, .int .u8 0, .int .u8 0, .int .u8 0, .int .u8 0]) [(1, 1, .const (.int .u8 0)), (2, 1, .const (.int .u8 9)), (3, 1, .const (.int .u8 255)), (4, 1, .const (.int .u8 255)), (5, 1, .const (.int .u8 255)), (7, 1, .const (.int .u8 255))]), qo 5 (.bls 49 8 1 (.agg #[.int .u8 0, .int .u8 0, .int .u8 0, .int .u8 0, .int .u8 0, .int .u8 0, .int .u8 0, .int .u8 0]) [(0, 8, qt 4)]), qo 6 (.call 4 [qt 5, .const (.slice none 0 0)]), qo 1 (.alc 27 (.agg #[.int .i64 0, .slice none 0 0, .slice none 0 0])), qs 27 3 1 6]
def Xn14_5 : C := regL [2, 3] none [qL 8 27 3 1, qo 9 (.bld (.agg #[.int .i64 0, .int .i64 0, .int .i64 0, .int .i64 0, .int .i64 0, .int .i64 0]) []), qo 10 (.call 30 [qt 8, qt 9, qi 0, qi 1]), qm 7 10, qe 11 0 7, qe 12 1 7, qo 2 (.alc 96 (.agg #[.slice none 0 0, .slice none 0 0, .int .i64 0, .int .i64 0])), qs 96 4 2 11, qm 3 12]
def Xn14_7 : C := regL [0] none [qm 13 3, qc 14 30 .eql 13 0, qm 15 14, qh 16 2 2 15 true, qk 17 2 1 16 15 true, qg 18 (.bin 2 .eql (qt 17) (qi 10)) 15 true, qq 19 15 18, qm 20 19, qg 21 (.call 31 []) 20 true, qq 22 20 21, qm 0 22]
def Xn14_6 : C := .seq Xn14_7 .ret
def Xn14_4 : C := .seq Xn14_5 Xn14_6
def Xn14_2 : C := .seq Xn14_3 Xn14_4
def Xn14_0 : C := .seq Xn14_1 Xn14_2
theorem Xt14 : Text Tryz.prog 14 Xn14_0 23 0 [.t 0] := txA [] Tryz.func14
def Xn15_1 : C := regL [1] none [qx 1 70 0, qo 2 (.mv (qi 0))]
def Xn15_4 : C := regL [1, 12] none [qf 4 0 1, ql 5 35 1 4, qw 6 5, qc 7 3 .gtr 6 12, qm 8 7, qh 9 0 1 8 false, qk 10 35 1 9 8 false, qg 11 (.call 32 [qt 10, .func 33]) 8 false, qp 12 8 11]
def Xn15_7 : C := regL [2] none [qo 2 (.mv (qi 6))]
def Xn15_6 : C := .seq Xn15_7 .ret
def Xn15_5 : C := .cond (.tmp 12) Xn15_6 .skip
def Xn15_3 : C := .seq Xn15_4 Xn15_5
def Xn15_11 : C := regL [1, 3] none [qo 13 (.mkf 34 [] [qt 1]), qm 3 13]
def Xn15_14 : C := regL [1, 29] none [qf 14 1 1, ql 15 2 1 14, qo 16 (.call 29 [qt 15, qi 1, qi 10080]), qn 17 16, qm 18 17, qh 19 2 1 18 false, qk 20 2 1 19 18 false, qg 21 (.call 29 [qt 20, qi 1, qi 10080]) 18 false, qg 22 (.un .not (qt 21)) 18 false, qp 23 18 22, qm 24 23, qh 25 0 1 24 false, qk 26 35 1 25 24 false, qM 27 3 24 false, qg 28 (.call 32 [qt 26, qt 27]) 24 false, qp 29 24 28]
def Xn15_17 : C := regL [2] none [qo 2 (.mv (qi 2))]
def Xn15_16 : C := .seq Xn15_17 .ret
def Xn15_15 : C := .cond (.tmp 29) Xn15_16 .skip
def Xn15_13 : C := .seq Xn15_14 Xn15_15
def Xn15_22 : C := regL [33] none [qf 30 3 1, ql 31 2 1 30, qo 32 (.call 29 [qt 31, qi 0, qi 1099511627776]), qn 33 32]
def Xn15_25 : C := regL [2] none [qo 2 (.mv (qi 3))]
def Xn15_24 : C := .seq Xn15_25 .ret
def Xn15_23 : C := .cond (.tmp 33) Xn15_24 .skip
def Xn15_21 : C := .seq Xn15_22 Xn15_23
def Xn15_29 : C := regL [2] none [qo 2 (.mv (qi 0))]
def Xn15_28 : C := .seq Xn15_29 .ret
def Xn15_20 : C := seqL [] Xn15_21 Xn15_28
def Xn15_12 : C := seqL [1] Xn15_13 Xn15_20
def Xn15_10 : C := .seq Xn15_11 Xn15_12
def Xn15_2 : C := seqL [1] Xn15_3 Xn15_10
def Xn15_0 : C := .seq Xn15_1 Xn15_2
theorem Xt15 : Text Tryz.prog 15 Xn15_0 34 1 [.t 2] := txA [1] Tryz.func15
def Xn16_1 : C := regL [3, 4, 5, 6, 7, 8, 9, 10] none [qx 8 43 0, qx 9 2 1, qx 10 2 2]
def Xn16_3 : C := regL [3, 4, 5, 6, 7, 8, 9, 10, 11] none [ql 13 43 1 8, qw 14 13, qo 11 (.alc 3 (.int .i64 0)), qs 3 1 11 14]
def Xn16_6 : C := regL [3, 4, 5, 6, 7, 8, 9, 10, 11, 18] none [ql 15 3 1 11, ql 16 35 1 3, qw 17 16, qb 18 3 .eql 15 17]
def Xn16_10 : C := regL [4, 8, 25] none [ql 19 43 1 4, qo 20 (.isn false (qt 19)), qm 21 20, qk 22 43 1 8 21 false, qk 23 43 1 4 21 false, qg 24 (.call 17 [qt 22, qt 23]) 21 false, qp 25 21 24]
def Xn16_12 : C := regL [] none [ql 26 43 1 8, qo 27 (.call 18 [qt 26]), qs 43 1 4 27]
def Xn16_11 : C := .cond (.tmp 25) Xn16_12 .skip
def Xn16_9 : C := .seq Xn16_10 Xn16_11
def Xn16_8 : C := seqL [] Xn16_9 .ret
def Xn16_7 : C := .cond (.tmp 18) Xn16_8 .skip
def Xn16_5 : C := .seq Xn16_6 Xn16_7
def Xn16_17 : C := regL [5, 9, 11, 12] none [qo 28 (.mkf 19 [] [qt 3, qt 11, qt 10, qt 9, qt 5, qt 6, qt 7, qt 8]), qm 12 28]
def Xn16_19 : C := regL [5, 9, 11, 12] none [qm 29 12, ql 30 2 1 9, qo 31 (.callv (qt 29) [qt 30])]
def Xn16_21 : C := regL [5, 9, 12, 33] none [ql 32 3 1 11, qc 33 3 .gtr 32 0]
def Xn16_23 : C := regL [] none [qm 34 12, ql 35 2 1 9, ql 36 2 1 5, qb 37 2 .add 35 36, qo 38 (.callv (qt 34) [qt 37])]
def Xn16_22 : C := .cond (.tmp 33) Xn16_23 .skip
def Xn16_20 : C := .seq Xn16_21 Xn16_22
def Xn16_18 : C := .seq Xn16_19 Xn16_20
def Xn16_16 : C := .seq Xn16_17 Xn16_18
def Xn16_4 : C := seqL [3, 5, 6, 7, 8, 9, 10, 11] Xn16_5 Xn16_16
def Xn16_2 : C := .seq Xn16_3 Xn16_4
def Xn16_0 : C := .seq Xn16_1 Xn16_2
theorem Xt16 : Text Tryz.prog 16 Xn16_0 39 8 [] := txA [8, 9, 10] Tryz.func16
def Xn17_1 : C := regL [0, 1] none [qo 4 (.mv (.const (.bool false)))]
def Xn17_3 : C := regL [0, 1, 5] none [qm 6 0, qw 7 6, qc 8 3 .sub 7 1, qm 5 8]
def Xn17_5 : C := regL [4] (some [0, 0, 3, 7, 0, 0, 48, 112, 255, 0, 0, 2047, 4095, 8191, 16383, 32767]) [qm 9 0, qm 10 5, qa 11 1 9 10, ql 12 2 1 11, qm 13 1, qm 14 5, qa 15 1 13 14, ql 16 2 1 15, qo 17 (.call 36 [qt 12, qt 16]), qm 18 0, qm 19 1, qo 20 (.call 37 [qt 18, qt 19]), qo 21 (.bls 3 1 2 (.int .i64 0) [(0, 1, qt 17), (1, 1, qt 20)]), qo 22 (.call 35 [qt 21]), qc 23 3 .lss 22 0, qm 4 23]
def Xn17_4 : C := .seq Xn17_5 .ret
def Xn17_2 : C := .seq Xn17_3 Xn17_4
def Xn17_0 : C := .seq Xn17_1 Xn17_2
theorem Xt17 : Text Tryz.prog 17 Xn17_0 24 2 [.t 4] := txA [] Tryz.func17
def Xn18_1 : C := regL [0] none [qo 2 (.mv (.const (.slice none 0 0)))]
def Xn18_4 : C := regL [0, 4] none [qm 3 0, qo 4 (.isn false (qt 3))]
def Xn18_7 : C := regL [2] none [qo 2 (.mv (.const (.slice none 0 0)))]
def Xn18_6 : C := .seq Xn18_7 .ret
def Xn18_5 : C := .cond (.tmp 4) Xn18_6 .skip
def Xn18_3 : C := .seq Xn18_4 Xn18_5
def Xn18_11 : C := regL [2] none [qo 5 (.bls 2 1 0 (.int .i64 0) []), qm 6 0, qo 7 (.app 2 1 8 (qt 5) (qt 6)), qm 2 7]
def Xn18_10 : C := .seq Xn18_11 .ret
def Xn18_2 : C := seqL [0] Xn18_3 Xn18_10
def Xn18_0 : C := .seq Xn18_1 Xn18_2
theorem Xt18 : Text Tryz.prog 18 Xn18_0 8 1 [.t 2] := txA [] Tryz.func18
def Xn19_1 : C := regL [1, 2, 3, 4, 5, 6, 7, 8, 10, 11] (some [0, 0, 3, 7, 15, 0, 0, 96, 224, 480, 0, 2047, 4095, 8191, 8191, 16383, 65535]) [ql 14 35 1 1, ql 15 3 1 2, qa 16 2 14 15, qf 17 1 16, ql 18 38 1 17, ql 19 35 1 1, ql 20 3 1 2, qa 21 2 19 20, qf 22 0 21, ql 23 2 1 22, qm 24 0, qo 25 (.call 20 [qt 18, qt 23, qt 24]), qm 13 25, qe 26 0 13, qe 27 1 13, qm 10 26, qm 11 27]
def Xn19_3 : C := regL [1, 2, 4, 5, 6, 7, 8, 10, 11, 12] none [ql 28 2 1 3, qm 12 28]
def Xn19_6 : C := regL [1, 2, 6, 7, 8, 10, 11, 12, 37] none [qm 29 10, ql 30 2 1 4, qb 31 2 .sub 29 30, ql 32 2 1 5, qb 33 2 .geq 31 32, qm 34 33, qk 35 3 1 2 34 true, qg 36 (.bin 3 .gtr (qt 35) (qi 0)) 34 true, qq 37 34 36]
def Xn19_8 : C := regL [1, 2, 6, 7, 8, 10, 11, 12] none [qo 12 (.mv (qi 0))]
def Xn19_7 : C := .cond (.tmp 37) Xn19_8 .skip
def Xn19_5 : C := .seq Xn19_6 Xn19_7
def Xn19_11 : C := regL [1, 2, 6, 7, 8, 10, 11, 12] none [qm 38 12, ql 39 35 1 1, ql 40 3 1 2, qa 41 2 39 40, qf 42 0 41, ql 43 2 1 42, qb 44 2 .add 38 43, qm 12 44]
def Xn19_13 : C := regL [1, 2, 7, 8, 10, 12, 50] none [qm 45 11, qm 46 45, qM 47 12 46 true, qk 48 2 1 6 46 true, qg 49 (.bin 2 .leq (qt 47) (qt 48)) 46 true, qq 50 46 49]
def Xn19_15 : C := regL [] (some [0, 0, 2, 0, 8, 30, 0, 0, 0, 384, 896, 1920, 4032, 0, 16383]) [ql 51 72 1 7, ql 52 43 1 8, qo 53 (.call 18 [qt 52]), qm 54 10, qo 55 (.bls 2 1 1 (.int .i64 0) [(0, 1, qt 54)]), qo 56 (.app 2 1 8 (qt 53) (qt 55)), qm 57 10, ql 58 35 1 1, ql 59 3 1 2, qa 60 2 58 59, qf 61 0 60, ql 62 2 1 61, qb 63 2 .add 57 62, qm 64 12, qo 65 (.callv (qt 51) [qt 56, qt 63, qt 64])]
def Xn19_14 : C := .cond (.tmp 50) Xn19_15 .skip
def Xn19_12 : C := .seq Xn19_13 Xn19_14
def Xn19_10 : C := .seq Xn19_11 Xn19_12
def Xn19_4 : C := seqL [1, 2, 6, 7, 8, 10, 11, 12] Xn19_5 Xn19_10
def Xn19_2 : C := .seq Xn19_3 Xn19_4
def Xn19_0 : C := .seq Xn19_1 Xn19_2
theorem Xt19 : Text Tryz.prog 19 Xn19_0 66 9 [] := txA [] Tryz.func19
def Xn20_1 : C := regL [0, 1, 2] none [qo 6 (.mv (qi 0)), qo 7 (.mv (.const (.bool false)))]
def Xn20_4 : C := regL [1, 2, 11, 12, 13] none [qm 11 0, qw 12 11, qo 13 (.mv (qi 0))]
def Xn20_8 : C := regL [1, 2, 11, 12, 13, 14] none [qb 14 3 .lss 13 12]
def Xn20_10 : C := .cond (.tmp 14) .skip (.exit 0)
def Xn20_16 : C := regL [1, 2, 9, 11, 12, 13] none [qa 15 2 11 13, qL 16 42 2 15, qo 9 (.alc 42 (.agg #[.int .i64 0, .int .i64 0])), qs 42 2 9 16]
def Xn20_18 : C := regL [1, 2, 9, 10, 11, 12, 13] none [qm 17 2, qf 18 0 9, ql 19 2 1 18, qo 20 (.mx [qt 17, qt 19]), qm 10 20]
def Xn20_20 : C := regL [1, 2, 10, 11, 12, 13, 26] none [qm 21 10, qm 22 1, qb 23 2 .add 21 22, qf 24 1 9, ql 25 2 1 24, qb 26 2 .leq 23 25]
def Xn20_23 : C := regL [6, 7] none [qm 27 10, qm 6 27, qo 7 (.mv (.const (.bool true)))]
def Xn20_22 : C := .seq Xn20_23 .ret
def Xn20_21 : C := .cond (.tmp 26) Xn20_22 .skip
def Xn20_19 : C := .seq Xn20_20 Xn20_21
def Xn20_17 : C := .seq Xn20_18 Xn20_19
def Xn20_15 : C := .seq Xn20_16 Xn20_17
def Xn20_14 : C := .block 1 Xn20_15
def Xn20_26 : C := regL [1, 2, 11, 12, 13] none [qc 28 3 .add 13 1, qm 13 28]
def Xn20_13 : C := seqL [1, 2, 11, 12, 13] Xn20_14 Xn20_26
def Xn20_9 : C := seqL [1, 2, 11, 12, 13] Xn20_10 Xn20_13
def Xn20_7 : C := .seq Xn20_8 Xn20_9
def Xn20_6 : C := loopL [1, 2, 11, 12, 13] Xn20_7
def Xn20_5 : C := .block 0 Xn20_6
def Xn20_3 : C := .seq Xn20_4 Xn20_5
def Xn20_28 : C := regL [6, 7] none [qo 6 (.mv (qi 0)), qo 7 (.mv (.const (.bool false)))]
def Xn20_27 : C := .seq Xn20_28 .ret
def Xn20_2 : C := seqL [] Xn20_3 Xn20_27
def Xn20_0 : C := .seq Xn20_1 Xn20_2
theorem Xt20 : Text Tryz.prog 20 Xn20_0 29 3 [.t 6, .t 7] := txA [] Tryz.func20
def Xn21_1 : C := regL [2, 3, 4] none [qx 2 27 0, qx 3 33 1, qo 4 (.alc 57 (.agg #[.int .i64 0, .slice none 0 0, .slice none 0 0, .int .i64 0, .int .i64 0, .int .i64 0, .int .i64 0, .int .i64 0, .int .i64 0])), qo 5 (.mv (qi 0))]
def Xn21_4 : C := regL [2, 3, 4, 6] none [qL 7 27 3 2, qo 8 (.call 38 [qt 7]), qm 6 8]
def Xn21_6 : C := regL [2, 3, 4, 6, 10] none [qm 9 6, qc 10 30 .neq 9 0]
def Xn21_9 : C := regL [4, 5] none [qo 11 (.bld (.agg #[.int .i64 0, .slice none 0 0, .slice none 0 0, .int .i64 0, .int .i64 0, .int .i64 0, .int .i64 0, .int .i64 0, .int .i64 0]) []), qm 12 6, qs 57 9 4 11, qm 5 12]
def Xn21_8 : C := .seq Xn21_9 .ret
def Xn21_7 : C := .cond (.tmp 10) Xn21_8 .skip
def Xn21_5 : C := .seq Xn21_6 Xn21_7
def Xn21_3 : C := .seq Xn21_4 Xn21_5
def Xn21_13 : C := regL [4, 5] (some [0, 0, 3, 0, 8, 31, 63]) [qL 13 27 3 2, qL 14 33 6 3, qo 15 (.bld (.agg #[.int .i64 0, .slice none 0 0, .slice none 0 0, .int .i64 0, .int .i64 0, .int .i64 0, .int .i64 0, .int .i64 0, .int .i64 0]) [(0, 3, qt 13), (3, 6, qt 14)]), qL 16 33 6 3, qo 17 (.call 39 [qt 16]), qs 57 9 4 15, qm 5 17]
def Xn21_12 : C := .seq Xn21_13 .ret
def Xn21_2 : C := seqL [2, 3, 4] Xn21_3 Xn21_12
def Xn21_0 : C := .seq Xn21_1 Xn21_2
theorem Xt21 : Text Tryz.prog 21 Xn21_0 18 2 [.c 4 9 true, .t 5] := txA [2, 3] Tryz.func21
def Xn22_1 : C := regL [0, 1] none [qo 4 (.mv (.const (.bool false)))]
def Xn22_3 : C := regL [0, 1, 5] none [qo 5 (.mv (qi (-1)))]
def Xn22_6 : C := regL [1, 5, 8, 9, 10] none [qm 8 0, qw 9 8, qo 10 (.mv (qi 0))]
def Xn22_10 : C := regL [1, 5, 8, 9, 10, 11] none [qb 11 3 .lss 10 9]
def Xn22_12 : C := .cond (.tmp 11) .skip (.exit 0)
def Xn22_18 : C := regL [1, 5, 7, 8, 9, 10] none [qa 12 1 8 10, ql 13 3 1 12, qm 7 13]
def Xn22_21 : C := regL [1, 7, 8, 9, 10, 21] none [qm 14 7, qm 15 5, qb 16 3 .leq 14 15, qm 17 16, qM 18 7 17 false, qM 19 1 17 false, qg 20 (.bin 3 .geq (qt 18) (qt 19)) 17 false, qp 21 17 20]
def Xn22_24 : C := regL [4] none [qo 4 (.mv (.const (.bool false)))]
def Xn22_23 : C := .seq Xn22_24 .ret
def Xn22_22 : C := .cond (.tmp 21) Xn22_23 .skip
def Xn22_20 : C := .seq Xn22_21 Xn22_22
def Xn22_27 : C := regL [1, 5, 8, 9, 10] none [qm 22 7, qm 5 22]
def Xn22_19 : C := seqL [1, 7, 8, 9, 10] Xn22_20 Xn22_27
def Xn22_17 : C := .seq Xn22_18 Xn22_19
def Xn22_16 : C := .block 1 Xn22_17
def Xn22_28 : C := regL [1, 5, 8, 9, 10] none [qc 23 3 .add 10 1, qm 10 23]
def Xn22_15 : C := seqL [1, 5, 8, 9, 10] Xn22_16 Xn22_28
def Xn22_11 : C := seqL [1, 5, 8, 9, 10] Xn22_12 Xn22_15
def Xn22_9 : C := .seq Xn22_10 Xn22_11
def Xn22_8 : C := loopL [1, 5, 8, 9, 10] Xn22_9
def Xn22_7 : C := .block 0 Xn22_8
def Xn22_5 : C := .seq Xn22_6 Xn22_7
def Xn22_30 : C := regL [4] none [qo 4 (.mv (.const (.bool true)))]
def Xn22_29 : C := .seq Xn22_30 .ret
def Xn22_4 : C := seqL [] Xn22_5 Xn22_29
def Xn22_2 : C := .seq Xn22_3 Xn22_4
def Xn22_0 : C := .seq Xn22_1 Xn22_2
theorem Xt22 : Text Tryz.prog 22 Xn22_0 24 2 [.t 4] := txA [] Tryz.func22
def Xn23_1 : C := regL [1, 2] none [qx 2 27 0, qo 4 (.mv (qi 0))]
def Xn23_4 : C := regL [7] none [qm 5 1, qo 6 (.mkf 41 [] [qt 2]), qo 7 (.call 40 [qt 5, qt 6])]
def Xn23_7 : C := regL [4] none [qo 4 (.mv (qi 3))]
def Xn23_6 : C := .seq Xn23_7 .ret
def Xn23_5 : C := .cond (.tmp 7) Xn23_6 .skip
def Xn23_3 : C := .seq Xn23_4 Xn23_5
def Xn23_11 : C := regL [4] none [qo 4 (.mv (qi 0))]
def Xn23_10 : C := .seq Xn23_11 .ret
def Xn23_2 : C := seqL [] Xn23_3 Xn23_10
def Xn23_0 : C := .seq Xn23_1 Xn23_2
theorem Xt23 : Text Tryz.prog 23 Xn23_0 8 2 [.t 4] := txA [2] Tryz.func23
def Xn24_1 : C := regL [0, 1, 2] none [qo 6 (.mv (.const (.bool false)))]
def Xn24_3 : C := regL [6] none [qm 7 1, qm 8 0, qb 9 2 .leq 7 8, qm 10 9, qM 11 0 10 true, qM 12 2 10 true, qg 13 (.bin 2 .leq (qt 11) (qt 12)) 10 true, qq 14 10 13, qm 6 14]
def Xn24_2 : C := .seq Xn24_3 .ret
def Xn24_0 : C := .seq Xn24_1 Xn24_2
theorem Xt24 : Text Tryz.prog 24 Xn24_0 15 3 [.t 6] := txA [] Tryz.func24
def Xn25_1 : C := regL [0, 3] none [qx 3 89 1]
def Xn25_2 : C := regL [] (some [0, 0, 2, 6, 14, 0, 32, 126, 255, 511, 1023]) [qm 4 0, qm 5 0, qo 6 (.nilc (qt 5)), qf 7 0 6, ql 8 83 1 7, qL 9 89 2 3, qo 10 (.bls 89 2 1 (.agg #[.int .i64 0, .int .i64 0]) [(0, 2, qt 9)]), qo 11 (.app 89 2 16 (qt 8) (qt 10)), qo 12 (.nilc (qt 4)), qf 13 0 12, qs 83 1 13 11]
def Xn25_0 : C := .seq Xn25_1 Xn25_2
theorem Xt25 : Text Tryz.prog 25 Xn25_0 14 2 [] := txA [3] Tryz.func25
def Xn26_1 : C := regL [0, 2] none [qo 2 (.alc 89 (.agg #[.int .i64 0, .int .i64 0])), qo 3 (.mv (.const (.bool false)))]
def Xn26_4 : C := regL [0, 2, 11] none [qm 6 0, qo 7 (.nilc (qt 6)), qf 8 0 7, ql 9 83 1 8, qw 10 9, qc 11 3 .eql 10 0]
def Xn26_7 : C := regL [2, 3] none [qo 12 (.bld (.agg #[.int .i64 0, .int .i64 0]) []), qs 89 2 2 12, qo 3 (.mv (.const (.bool false)))]
def Xn26_6 : C := .seq Xn26_7 .ret
def Xn26_5 : C := .cond (.tmp 11) Xn26_6 .skip
def Xn26_3 : C := .seq Xn26_4 Xn26_5
def Xn26_11 : C := regL [0, 2, 4] none [qm 13 0, qo 14 (.nilc (qt 13)), qf 15 0 14, ql 16 83 1 15, qo 17 (.call 42 [qt 16, .func 43]), qo 4 (.alc 89 (.agg #[.int .i64 0, .int .i64 0])), qs 89 2 4 17]
def Xn26_13 : C := regL [0, 2, 4, 5] (some [0, 1, 3, 7, 0, 31, 63]) [qm 18 0, qo 19 (.nilc (qt 18)), qf 20 0 19, ql 21 83 1 20, qL 22 89 2 4, qo 23 (.call 44 [qt 21, qt 22]), qm 5 23]
def Xn26_15 : C := regL [2, 4] none [qm 24 0, qm 25 0, qo 26 (.nilc (qt 25)), qf 27 0 26, ql 28 83 1 27, qm 29 5, qm 30 5, qc 31 3 .add 30 1, qo 32 (.call 45 [qt 28, qt 29, qt 31]), qo 33 (.nilc (qt 24)), qf 34 0 33, qs 83 1 34 32]
def Xn26_17 : C := regL [2, 3] none [qL 35 89 2 4, qs 89 2 2 35, qo 3 (.mv (.const (.bool true)))]
def Xn26_16 : C := .seq Xn26_17 .ret
def Xn26_14 : C := .seq Xn26_15 Xn26_16
def Xn26_12 : C := .seq Xn26_13 Xn26_14
def Xn26_10 : C := .seq Xn26_11 Xn26_12
def Xn26_2 : C := seqL [0, 2] Xn26_3 Xn26_10
def Xn26_0 : C := .seq Xn26_1 Xn26_2
theorem Xt26 : Text Tryz.prog 26 Xn26_0 36 1 [.c 2 2 true, .t 3] := txA [] Tryz.func26
def Xn27_1 : C := regL [3, 4, 5] none [qx 3 57 0, qx 4 61 1, qx 5 3 2, qo 6 (.mv (.const (.nilFunc)))]
def Xn27_3 : C := regL [6] none [qo 7 (.mkf 46 [] [qt 3, qt 4, qt 5]), qm 6 7]
def Xn27_2 : C := .seq Xn27_3 .ret
def Xn27_0 : C := .seq Xn27_1 Xn27_2
theorem Xt27 : Text Tryz.prog 27 Xn27_0 8 3 [.t 6] := txA [3, 4, 5] Tryz.func27
def Xn28_1 : C := regL [0] none [qo 2 (.mv (.const (.bool false)))]
def Xn28_3 : C := regL [0, 3] none [qo 3 (.mv (qi 0))]
def Xn28_6 : C := regL [3, 6, 7, 8] none [qm 6 0, qw 7 6, qo 8 (.mv (qi 0))]
def Xn28_10 : C := regL [3, 6, 7, 8, 9] none [qb 9 3 .lss 8 7]
def Xn28_12 : C := .cond (.tmp 9) .skip (.exit 0)
def Xn28_18 : C := regL [3, 5, 6, 7, 8] none [qa 10 2 6 8, qL 11 42 2 10, qo 5 (.alc 42 (.agg #[.int .i64 0, .int .i64 0])), qs 42 2 5 11]
def Xn28_21 : C := regL [5, 6, 7, 8, 27] none [qf 12 0 5, ql 13 2 1 12, qm 14 3, qb 15 2 .lss 13 14, qm 16 15, qh 17 1 5 16 false, qk 18 2 1 17 16 false, qh 19 0 5 16 false, qk 20 2 1 19 16 false, qg 21 (.bin 2 .leq (qt 18) (qt 20)) 16 false, qp 22 16 21, qm 23 22, qh 24 1 5 23 false, qk 25 2 1 24 23 false, qg 26 (.bin 2 .gtr (qt 25) (qi 1099511627776)) 23 false, qp 27 23 26]
def Xn28_24 : C := regL [2] none [qo 2 (.mv (.const (.bool false)))]
def Xn28_23 : C := .seq Xn28_24 .ret
def Xn28_22 : C := .cond (.tmp 27) Xn28_23 .skip
def Xn28_20 : C := .seq Xn28_21 Xn28_22
def Xn28_27 : C := regL [3, 6, 7, 8] none [qf 28 1 5, ql 29 2 1 28, qm 3 29]
def Xn28_19 : C := seqL [5, 6, 7, 8] Xn28_20 Xn28_27
def Xn28_17 : C := .seq Xn28_18 Xn28_19
def Xn28_16 : C := .block 1 Xn28_17
def Xn28_28 : C := regL [3, 6, 7, 8] none [qc 30 3 .add 8 1, qm 8 30]
def Xn28_15 : C := seqL [3, 6, 7, 8] Xn28_16 Xn28_28
def Xn28_11 : C := seqL [3, 6, 7, 8] Xn28_12 Xn28_15
def Xn28_9 : C := .seq Xn28_10 Xn28_11
def Xn28_8 : C := loopL [3, 6, 7, 8] Xn28_9
def Xn28_7 : C := .block 0 Xn28_8
def Xn28_5 : C := .seq Xn28_6 Xn28_7
def Xn28_30 : C := regL [2] none [qo 2 (.mv (.const (.bool true)))]
def Xn28_29 : C := .seq Xn28_30 .ret
def Xn28_4 : C := seqL [] Xn28_5 Xn28_29
def Xn28_2 : C := .seq Xn28_3 Xn28_4
def Xn28_0 : C := .seq Xn28_1 Xn28_2
theorem Xt28 : Text Tryz.prog 28 Xn28_0 31 1 [.t 2] := txA [] Tryz.func28
def Xn29_1 : C := regL [0, 1, 2] none [qo 6 (.mv (.const (.bool false)))]
def Xn29_3 : C := regL [6] none [qm 7 1, qm 8 0, qb 9 2 .leq 7 8, qm 10 9, qM 11 0 10 true, qM 12 2 10 true, qg 13 (.bin 2 .leq (qt 11) (qt 12)) 10 true, qq 14 10 13, qm 6 14]
def Xn29_2 : C := .seq Xn29_3 .ret
def Xn29_0 : C := .seq Xn29_1 Xn29_2
theorem Xt29 : Text Tryz.prog 29 Xn29_0 15 3 [.t 6] := txA [] Tryz.func29
def Xn30_1 : C := regL [4, 5, 6, 7, 8] none [qx 4 27 0, qx 5 33 1, qo 6 (.box false 3 (qt 2)), qx 7 3 3, qo 8 (.alc 96 (.agg #[.slice none 0 0, .slice none 0 0, .int .i64 0, .int .i64 0])), qo 9 (.mv (qi 0))]
def Xn30_3 : C := regL [4, 6, 7, 8, 10, 11] none [qL 20 27 3 4, qL 21 33 6 5, qo 22 (.call 21 [qt 20, qt 21]), qm 19 22, qe 23 0 19, qe 24 1 19, qo 10 (.alc 57 (.agg #[.int .i64 0, .slice none 0 0, .slice none 0 0, .int .i64 0, .int .i64 0, .int .i64 0, .int .i64 0, .int .i64 0, .int .i64 0])), qs 57 9 10 23, qm 11 24]
def Xn30_6 : C := regL [4, 6, 7, 8, 10, 11, 26] none [qm 25 11, qc 26 30 .neq 25 0]
def Xn30_9 : C := regL [8, 9] none [qo 27 (.bld (.agg #[.slice none 0 0, .slice none 0 0, .int .i64 0, .int .i64 0]) []), qm 28 11, qs 96 4 8 27, qm 9 28]
def Xn30_8 : C := .seq Xn30_9 .ret
def Xn30_7 : C := .cond (.tmp 26) Xn30_8 .skip
def Xn30_5 : C := .seq Xn30_6 Xn30_7
def Xn30_14 : C := regL [4, 6, 7, 8, 10, 12] none [qL 29 27 3 4, ql 30 3 1 6, ql 31 3 1 7, qo 32 (.bls 3 1 2 (.int .i64 0) [(0, 1, qt 30), (1, 1, qt 31)]), qo 33 (.call 23 [qt 29, qt 32]), qm 12 33]
def Xn30_16 : C := regL [4, 6, 7, 8, 10, 12, 35] none [qm 34 12, qc 35 30 .neq 34 0]
def Xn30_19 : C := regL [8, 9] none [qo 36 (.bld (.agg #[.slice none 0 0, .slice none 0 0, .int .i64 0, .int .i64 0]) []), qm 37 12, qs 96 4 8 36, qm 9 37]
def Xn30_18 : C := .seq Xn30_19 .ret
def Xn30_17 : C := .cond (.tmp 35) Xn30_18 .skip
def Xn30_15 : C := .seq Xn30_16 Xn30_17
def Xn30_13 : C := .seq Xn30_14 Xn30_15
def Xn30_23 : C := regL [4, 6, 7, 8, 10, 13, 14, 15] none [qf 39 2 4, ql 40 25 1 39, qw 41 40, qo 42 (.call 49 [qt 41]), qo 43 (.mkf 50 [] [qt 10, qt 7, qt 6]), qo 44 (.call 48 [qt 42, qt 43]), qm 38 44, qe 45 0 38, qe 46 1 38, qe 47 2 38, qm 13 45, qm 14 46, qm 15 47]
def Xn30_26 : C := regL [4, 6, 7, 8, 10, 13, 14, 49] none [qm 48 15, qn 49 48]
def Xn30_29 : C := regL [8, 9] none [qo 50 (.bld (.agg #[.slice none 0 0, .slice none 0 0, .int .i64 0, .int .i64 0]) []), qs 96 4 8 50, qo 9 (.mv (qi 15))]
def Xn30_28 : C := .seq Xn30_29 .ret
def Xn30_27 : C := .cond (.tmp 49) Xn30_28 .skip
def Xn30_25 : C := .seq Xn30_26 Xn30_27
def Xn30_33 : C := regL [4, 6, 7, 8, 10, 13, 16] none [qm 51 13, qo 52 (.call 55 [qt 51]), qo 53 (.call 54 [qt 52]), qm 54 14, qo 55 (.bld (.agg #[.slice none 0 0, .slice none 0 0, .int .i64 0, .int .i64 0]) [(1, 1, qt 53), (2, 1, qt 54)]), qo 16 (.alc 96 (.agg #[.slice none 0 0, .slice none 0 0, .int .i64 0, .int .i64 0])), qs 96 4 16 55]
def Xn30_35 : C := regL [4, 6, 7, 8, 10, 13, 16, 17] (some [0, 0, 0, 0, 12, 31, 0, 127]) [qL 56 57 9 10, ql 57 3 1 7, qL 58 57 9 10, qm 59 13, qo 60 (.call 52 [qt 58, qt 59]), qo 61 (.call 51 [qt 56, qt 57, .const (.bool true), qt 60]), qo 17 (.alc 43 (.slice none 0 0)), qs 43 1 17 61]
def Xn30_41 : C := regL [4, 6, 7, 8, 10, 13, 16, 17, 64] none [ql 62 3 1 6, ql 63 3 1 7, qb 64 3 .neq 62 63]
def Xn30_42 : C := .cond (.tmp 64) .skip (.exit 0)
def Xn30_40 : C := .seq Xn30_41 Xn30_42
def Xn30_47 : C := regL [4, 6, 7, 8, 10, 13, 16, 17, 18] none [qf 65 1 4, ql 66 24 1 65, qo 67 (.mkf 57 [] [qt 6, qt 17]), qo 68 (.call 56 [qt 66, qt 67]), qm 18 68]
def Xn30_53 : C := regL [4, 6, 7, 8, 10, 13, 16, 17, 18, 73] none [qL 69 57 9 10, qm 70 13, qm 71 18, qo 72 (.call 11 [qt 69, qt 70, qt 71]), qn 73 72]
def Xn30_54 : C := .cond (.tmp 73) .skip (.exit 2)
def Xn30_52 : C := .seq Xn30_53 Xn30_54
def Xn30_58 : C := regL [4, 6, 7, 8, 10, 13, 16, 17, 18] none [qm 74 18, qf 75 1 4, ql 76 24 1 75, qm 77 18, qc 78 3 .add 77 1, qo 79 (.slc 24 12 (qt 76) (some (qt 78)) none), qo 80 (.mkf 58 [] [qt 6, qt 17]), qo 81 (.call 56 [qt 79, qt 80]), qo 82 (.bin 3 .add (qi 1) (qt 81)), qb 83 3 .add 74 82, qm 18 83]
def Xn30_57 : C := .block 3 Xn30_58
def Xn30_51 : C := seqL [4, 6, 7, 8, 10, 13, 16, 17, 18] Xn30_52 Xn30_57
def Xn30_50 : C := loopL [4, 6, 7, 8, 10, 13, 16, 17, 18] Xn30_51
def Xn30_49 : C := .block 2 Xn30_50
def Xn30_60 : C := regL [4, 6, 7, 8, 10, 13, 16, 17, 18] none [qf 84 0 16, ql 85 29 1 84, qm 86 18, qo 87 (.bls 3 1 1 (.int .i64 0) [(0, 1, qt 86)]), qo 88 (.app 3 1 8 (qt 85) (qt 87)), qf 89 0 16, qs 29 1 89 88]
def Xn30_62 : C := regL [4, 6, 7, 8, 10, 13, 16, 17, 18] (some [0, 1, 0, 4, 0, 28, 60, 124, 255, 511, 1023]) [qf 90 3 16, ql 91 2 1 90, qf 92 1 4, ql 93 24 1 92, qm 94 18, qa 95 12 93 94, qf 96 3 95, ql 97 2 1 96, qb 98 2 .add 91 97, qf 99 3 16, qs 2 1 99 98]
def Xn30_63 : C := regL [4, 6, 7, 8, 10, 13, 16, 17] none [qf 100 1 4, ql 101 24 1 100, qm 102 18, qa 103 12 101 102, qf 104 1 103, ql 105 3 1 104, qs 3 1 6 105]
def Xn30_61 : C := .seq Xn30_62 Xn30_63
def Xn30_59 : C := .seq Xn30_60 Xn30_61
def Xn30_48 : C := seqL [4, 6, 7, 8, 10, 13, 16, 17, 18] Xn30_49 Xn30_59
def Xn30_46 : C := .seq Xn30_47 Xn30_48
def Xn30_45 : C := .block 1 Xn30_46
def Xn30_39 : C := seqL [4, 6, 7, 8, 10, 13, 16, 17] Xn30_40 Xn30_45
def Xn30_38 : C := loopL [4, 6, 7, 8, 10, 13, 16, 17] Xn30_39
def Xn30_37 : C := .block 0 Xn30_38
def Xn30_65 : C := regL [8, 9] none [qL 106 96 4 16, qs 96 4 8 106, qo 9 (.mv (qi 0))]
def Xn30_64 : C := .seq Xn30_65 .ret
def Xn30_36 : C := seqL [8, 16] Xn30_37 Xn30_64
def Xn30_34 : C := .seq Xn30_35 Xn30_36
def Xn30_32 : C := .seq Xn30_33 Xn30_34
def Xn30_24 : C := seqL [4, 6, 7, 8, 10, 13, 14] Xn30_25 Xn30_32
def Xn30_22 : C := .seq Xn30_23 Xn30_24
def Xn30_12 : C := seqL [4, 6, 7, 8, 10] Xn30_13 Xn30_22
def Xn30_4 : C := seqL [4, 6, 7, 8, 10] Xn30_5 Xn30_12
def Xn30_2 : C := .seq Xn30_3 Xn30_4
def Xn30_0 : C := .seq Xn30_1 Xn30_2
theorem Xt30 : Text Tryz.prog 30 Xn30_0 107 4 [.c 8 4 true, .t 9] := txA [4, 5, 7] Tryz.func30
def Xn31_1 : C := regL [] none [qo 0 (.mv (.const (.bool false)))]
def Xn31_3 : C := regL [1, 2] none [qo 11 (.call 60 []), qo 12 (.bld (.agg #[.int .i64 0, .int .i64 0]) []), qo 13 (.bld (.agg #[.int .i64 0, .int .i64 0]) [(0, 1, qi (-100))]), qo 14 (.call 59 [qt 11, qt 12, qt 13]), qm 10 14, qe 15 0 10, qe 16 1 10, qo 1 (.alc 136 (.agg #[.int .i64 0, .int .i64 0, .slice none 0 0])), qs 136 3 1 15, qm 2 16]
def Xn31_5 : C := regL [1, 2, 3, 4] none [qo 18 (.bld (.agg #[.int .u8 0, .int .u8 0, .int .u8 0, .int .u8 0, .int .u8 0, .int .u8 0, .int .u16 0]) [(6, 1, .const (.int .u16 4))]), qo 19 (.bls 150 7 1 (.agg #[.int .u8 0, .int .u8 0, .int .u8 0, .int .u8 0, .int .u8 0, .int .u8 0, .int .u16 0]) [(0, 7, qt 18)]), qo 20 (.call 62 [qt 19]), qo 21 (.call 61 [qt 20]), qm 17 21, qe 22 0 17, qe 23 1 17, qm 3 22, qm 4 23]
def Xn31_7 : C := regL [1, 2, 3, 4, 5, 6, 7] none [qo 25 (.call 63 [qi 1000, qi 0, qi 3, qi 1]), qm 24 25, qe 26 0 24, qe 27 1 24, qe 28 2 24, qm 5 26, qm 6 27, qm 7 28]
def Xn31_9 : C := regL [1, 2, 3, 4, 5, 6, 7, 8, 9] none [qo 30 (.bld (.agg #[.int .i64 0, .int .i64 0]) [(0, 1, qi 1)]), qo 31 (.bld (.agg #[.int .i64 0, .int .i64 0]) [(0, 1, qi 3)]), qo 32 (.bld (.agg #[.int .i64 0, .int .i64 0]) [(0, 1, qi 2)]), qo 33 (.bls 133 2 3 (.agg #[.int .i64 0, .int .i64 0]) [(0, 2, qt 30), (2, 2, qt 31), (4, 2, qt 32)]), qo 34 (.call 64 [qt 33]), qm 29 34, qe 35 0 29, qe 36 1 29, qm 8 35, qm 9 36]
def Xn31_11 : C := regL [0] none [qm 37 2, qc 38 30 .eql 37 0, qm 39 38, qM 40 4 39 true, qg 41 (.bin 30 .eql (qt 40) (qi 0)) 39 true, qq 42 39 41, qm 43 42, qM 44 7 43 true, qg 45 (.bin 30 .eql (qt 44) (qi 0)) 43 true, qq 46 43 45, qm 47 46, qM 48 9 47 true, qg 49 (.bin 30 .eql (qt 48) (qi 0)) 47 true, qq 50 47 49, qm 51 50, qh 52 2 1 51 true, qk 53 134 1 52 51 true, qg 54 (.len (qt 53)) 51 true, qg 55 (.bin 3 .eql (qt 54) (qi 2)) 51 true, qq 56 51 55, qm 57 56, qM 58 3 57 true, qg 59 (.bin 2 .eql (qt 58) (qi 5)) 57 true, qq 60 57 59, qm 61 60, qM 62 5 61 true, qg 63 (.bin 2 .eql (qt 62) (qi 667)) 61 true, qq 64 61 63, qm 65 64, qM 66 6 65 true, qg 67 (.bin 2 .eql (qt 66) (qi 334)) 65 true, qq 68 65 67, qm 69 68, qM 70 8 69 true, qg 71 (.len (qt 70)) 69 true, qg 72 (.bin 3 .eql (qt 71) (qi 2)) 69 true, qq 73 69 72, qm 0 73]
def Xn31_10 : C := .seq Xn31_11 .ret
def Xn31_8 : C := .seq Xn31_9 Xn31_10
def Xn31_6 : C := .seq Xn31_7 Xn31_8
def Xn31_4 : C := .seq Xn31_5 Xn31_6
def Xn31_2 : C := .seq Xn31_3 Xn31_4
def Xn31_0 : C := .seq Xn31_1 Xn31_2
theorem Xt31 : Text Tryz.prog 31 Xn31_0 74 0 [.t 0] := txA [] Tryz.func31
def Xn32_1 : C := regL [0, 1] none [qo 4 (.mv (.const (.bool false)))]
def Xn32_3 : C := regL [4] none [qm 5 0, qm 6 1, qo 7 (.call 65 [qt 5, qt 6]), qc 8 3 .geq 7 0, qm 4 8]
def Xn32_2 : C := .seq Xn32_3 .ret
def Xn32_0 : C := .seq Xn32_1 Xn32_2
theorem Xt32 : Text Tryz.prog 32 Xn32_0 9 2 [.t 4] := txA [] Tryz.func32
def Xn33_1 : C := regL [1] none [qx 1 40 0, qo 2 (.mv (.const (.bool false)))]
def Xn33_3 : C := regL [2] none [qf 3 1 1, ql 4 38 1 3, qw 5 4, qc 6 3 .gtr 5 32, qm 2 6]
def Xn33_2 : C := .seq Xn33_3 .ret
def Xn33_0 : C := .seq Xn33_1 Xn33_2
theorem Xt33 : Text Tryz.prog 33 Xn33_0 7 1 [.t 2] := txA [1] Tryz.func33
def Xn34_1 : C := regL [1, 2] none [qx 2 40 0, qo 3 (.mv (.const (.bool false)))]
def Xn34_3 : C := regL [3] none [qf 4 0 2, ql 5 2 1 4, qf 6 1 1, ql 7 2 1 6, qo 8 (.call 29 [qt 5, qi 1, qt 7]), qn 9 8, qm 10 9, qh 11 1 2 10 false, qk 12 38 1 11 10 false, qg 13 (.call 28 [qt 12]) 10 false, qg 14 (.un .not (qt 13)) 10 false, qp 15 10 14, qm 3 15]
def Xn34_2 : C := .seq Xn34_3 .ret
def Xn34_0 : C := .seq Xn34_1 Xn34_2
theorem Xt34 : Text Tryz.prog 34 Xn34_0 16 2 [.t 3] := txA [2] Tryz.func34
def Xn35_1 : C := regL [0] none [qo 2 (.mv (qi 0))]
def Xn35_3 : C := regL [0, 3] none [qo 3 (.mv (qi 0))]
def Xn35_6 : C := regL [3, 6, 7, 8] none [qm 6 0, qw 7 6, qo 8 (.mv (qi 0))]
def Xn35_10 : C := regL [3, 6, 7, 8, 9] none [qb 9 3 .lss 8 7]
def Xn35_12 : C := .cond (.tmp 9) .skip (.exit 0)
def Xn35_18 : C := regL [3, 5, 6, 7, 8] none [qa 10 1 6 8, ql 11 3 1 10, qm 5 11]
def Xn35_20 : C := regL [3, 5, 6, 7, 8, 14] none [qm 12 5, qm 13 3, qb 14 3 .neq 12 13]
def Xn35_23 : C := regL [2] none [qm 15 5, qm 2 15]
def Xn35_22 : C := .seq Xn35_23 .ret
def Xn35_21 : C := .cond (.tmp 14) Xn35_22 .skip
def Xn35_19 : C := .seq Xn35_20 Xn35_21
def Xn35_17 : C := .seq Xn35_18 Xn35_19
def Xn35_16 : C := .block 1 Xn35_17
def Xn35_26 : C := regL [3, 6, 7, 8] none [qc 16 3 .add 8 1, qm 8 16]
def Xn35_15 : C := seqL [3, 6, 7, 8] Xn35_16 Xn35_26
def Xn35_11 : C := seqL [3, 6, 7, 8] Xn35_12 Xn35_15
def Xn35_9 : C := .seq Xn35_10 Xn35_11
def Xn35_8 : C := loopL [3, 6, 7, 8] Xn35_9
def Xn35_7 : C := .block 0 Xn35_8
def Xn35_5 : C := .seq Xn35_6 Xn35_7
def Xn35_28 : C := regL [2] none [qm 17 3, qm 2 17]
def Xn35_27 : C := .seq Xn35_28 .ret
def Xn35_4 : C := seqL [3] Xn35_5 Xn35_27
def Xn35_2 : C := .seq Xn35_3 Xn35_4
def Xn35_0 : C := .seq Xn35_1 Xn35_2
theorem Xt35 : Text Tryz.prog 35 Xn35_0 18 1 [.t 2] := txA [] Tryz.func35
def Xn36_1 : C := regL [0, 1] none [qo 4 (.mv (qi 0))]
def Xn36_3 : C := regL [0, 1, 5] none [qm 7 0, qo 8 (.call 66 [qt 7]), qm 5 8]
def Xn36_5 : C := regL [0, 1, 5, 6] none [qm 9 1, qo 10 (.call 66 [qt 9]), qm 6 10]
def Xn36_8 : C := regL [0, 1, 6, 11] none [qm 11 5]
def Xn36_12 : C := regL [12] none [qm 12 6]
def Xn36_15 : C := regL [4] none [qo 4 (.mv (qi 0))]
def Xn36_14 : C := .seq Xn36_15 .ret
def Xn36_13 : C := .cond (.tmp 12) Xn36_14 .skip
def Xn36_11 : C := .seq Xn36_12 Xn36_13
def Xn36_19 : C := regL [4] none [qo 4 (.mv (qi (-1)))]
def Xn36_18 : C := .seq Xn36_19 .ret
def Xn36_10 : C := seqL [] Xn36_11 Xn36_18
def Xn36_9 : C := .cond (.tmp 11) Xn36_10 .skip
def Xn36_7 : C := .seq Xn36_8 Xn36_9
def Xn36_24 : C := regL [0, 1, 13] none [qm 13 6]
def Xn36_27 : C := regL [4] none [qo 4 (.mv (qi 1))]
def Xn36_26 : C := .seq Xn36_27 .ret
def Xn36_25 : C := .cond (.tmp 13) Xn36_26 .skip
def Xn36_23 : C := .seq Xn36_24 Xn36_25
def Xn36_32 : C := regL [0, 1, 16] none [qm 14 0, qm 15 1, qb 16 2 .lss 14 15]
def Xn36_35 : C := regL [4] none [qo 4 (.mv (qi (-1)))]
def Xn36_34 : C := .seq Xn36_35 .ret
def Xn36_33 : C := .cond (.tmp 16) Xn36_34 .skip
def Xn36_31 : C := .seq Xn36_32 Xn36_33
def Xn36_40 : C := regL [19] none [qm 17 0, qm 18 1, qb 19 2 .gtr 17 18]
def Xn36_43 : C := regL [4] none [qo 4 (.mv (qi 1))]
def Xn36_42 : C := .seq Xn36_43 .ret
def Xn36_41 : C := .cond (.tmp 19) Xn36_42 .skip
def Xn36_39 : C := .seq Xn36_40 Xn36_41
def Xn36_47 : C := regL [4] none [qo 4 (.mv (qi 0))]
def Xn36_46 : C := .seq Xn36_47 .ret
def Xn36_38 : C := seqL [] Xn36_39 Xn36_46
def Xn36_30 : C := seqL [0, 1] Xn36_31 Xn36_38
def Xn36_22 : C := seqL [0, 1] Xn36_23 Xn36_30
def Xn36_6 : C := seqL [0, 1, 6] Xn36_7 Xn36_22
def Xn36_4 : C := .seq Xn36_5 Xn36_6
def Xn36_2 : C := .seq Xn36_3 Xn36_4
def Xn36_0 : C := .seq Xn36_1 Xn36_2
theorem Xt36 : Text Tryz.prog 36 Xn36_0 20 2 [.t 4] := txA [] Tryz.func36
def Xn37_1 : C := regL [0, 1] none [qo 4 (.mv (qi 0))]
def Xn37_4 : C := regL [0, 1, 9, 10, 11] none [qm 9 0, qw 10 9, qo 11 (.mv (qi 0))]
def Xn37_8 : C := regL [0, 1, 9, 10, 11, 12] none [qb 12 3 .lss 11 10]
def Xn37_10 : C := .cond (.tmp 12) .skip (.exit 0)
def Xn37_16 : C := regL [0, 1, 5, 6, 9, 10, 11] none [qm 13 11, qa 14 1 9 11, ql 15 2 1 14, qm 5 13, qm 6 15]
def Xn37_19 : C := regL [0, 1, 5, 6, 9, 10, 11, 19] none [qm 16 5, qm 17 1, qw 18 17, qb 19 3 .geq 16 18]
def Xn37_22 : C := regL [4] none [qo 4 (.mv (qi 1))]
def Xn37_21 : C := .seq Xn37_22 .ret
def Xn37_20 : C := .cond (.tmp 19) Xn37_21 .skip
def Xn37_18 : C := .seq Xn37_19 Xn37_20
def Xn37_26 : C := regL [0, 1, 6, 7, 9, 10, 11] none [qm 20 1, qm 21 5, qa 22 1 20 21, ql 23 2 1 22, qm 7 23]
def Xn37_28 : C := regL [0, 1, 8, 9, 10, 11] none [qm 24 6, qm 25 7, qo 26 (.call 36 [qt 24, qt 25]), qm 8 26]
def Xn37_30 : C := regL [0, 1, 8, 9, 10, 11, 28] none [qm 27 8, qc 28 3 .neq 27 0]
def Xn37_33 : C := regL [4] none [qm 29 8, qm 4 29]
def Xn37_32 : C := .seq Xn37_33 .ret
def Xn37_31 : C := .cond (.tmp 28) Xn37_32 .skip
def Xn37_29 : C := .seq Xn37_30 Xn37_31
def Xn37_27 : C := .seq Xn37_28 Xn37_29
def Xn37_25 : C := .seq Xn37_26 Xn37_27
def Xn37_17 : C := seqL [0, 1, 5, 6, 9, 10, 11] Xn37_18 Xn37_25
def Xn37_15 : C := .seq Xn37_16 Xn37_17
def Xn37_14 : C := .block 1 Xn37_15
def Xn37_36 : C := regL [0, 1, 9, 10, 11] none [qc 30 3 .add 11 1, qm 11 30]
def Xn37_13 : C := seqL [0, 1, 9, 10, 11] Xn37_14 Xn37_36
def Xn37_9 : C := seqL [0, 1, 9, 10, 11] Xn37_10 Xn37_13
def Xn37_7 : C := .seq Xn37_8 Xn37_9
def Xn37_6 : C := loopL [0, 1, 9, 10, 11] Xn37_7
def Xn37_5 : C := .block 0 Xn37_6
def Xn37_3 : C := .seq Xn37_4 Xn37_5
def Xn37_39 : C := regL [35] none [qm 31 0, qw 32 31, qm 33 1, qw 34 33, qb 35 3 .lss 32 34]
def Xn37_42 : C := regL [4] none [qo 4 (.mv (qi (-1)))]
def Xn37_41 : C := .seq Xn37_42 .ret
def Xn37_40 : C := .cond (.tmp 35) Xn37_41 .skip
def Xn37_38 : C := .seq Xn37_39 Xn37_40
def Xn37_46 : C := regL [4] none [qo 4 (.mv (qi 0))]
def Xn37_45 : C := .seq Xn37_46 .ret
def Xn37_37 : C := seqL [] Xn37_38 Xn37_45
def Xn37_2 : C := seqL [0, 1] Xn37_3 Xn37_37
def Xn37_0 : C := .seq Xn37_1 Xn37_2
theorem Xt37 : Text Tryz.prog 37 Xn37_0 36 2 [.t 4] := txA [] Tryz.func37
def Xn38_1 : C := regL [1] none [qx 1 27 0, qo 2 (.mv (qi 0))]
def Xn38_4 : C := regL [1, 20] none [qf 6 1 1, ql 7 24 1 6, qw 8 7, qc 9 3 .gtr 8 256, qm 10 9, qh 11 2 1 10 false, qk 12 25 1 11 10 false, qg 13 (.len (qt 12)) 10 false, qg 14 (.bin 3 .gtr (qt 13) (qi 10)) 10 false, qp 15 10 14, qm 16 15, qh 17 2 1 16 false, qk 18 25 1 17 16 false, qg 19 (.call 67 [qt 18, .func 68]) 16 false, qp 20 16 19]
def Xn38_7 : C := regL [2] none [qo 2 (.mv (qi 6))]
def Xn38_6 : C := .seq Xn38_7 .ret
def Xn38_5 : C := .cond (.tmp 20) Xn38_6 .skip
def Xn38_3 : C := .seq Xn38_4 Xn38_5
def Xn38_11 : C := regL [1, 3] none [qo 21 (.mkf 69 [] [qt 1]), qo 3 (.alc 107 (.nilFunc)), qs 107 1 3 21]
def Xn38_13 : C := regL [1, 4] none [qo 22 (.mkf 70 [] [qt 3]), qm 4 22]
def Xn38_15 : C := regL [1, 4, 5] none [qo 23 (.mkf 71 [] [qt 1]), qm 5 23]
def Xn38_18 : C := regL [43] none [qf 24 0 1, ql 25 3 1 24, qc 26 3 .lss 25 1, qm 27 26, qh 28 0 1 27 false, qk 29 3 1 28 27 false, qg 30 (.bin 3 .gtr (qt 29) (qi 64)) 27 false, qp 31 27 30, qm 32 31, qh 33 1 1 32 false, qk 34 24 1 33 32 false, qM 35 4 32 false, qg 36 (.call 72 [qt 34, qt 35]) 32 false, qp 37 32 36, qm 38 37, qh 39 2 1 38 false, qk 40 25 1 39 38 false, qM 41 5 38 false, qg 42 (.call 67 [qt 40, qt 41]) 38 false, qp 43 38 42]
def Xn38_21 : C := regL [2] none [qo 2 (.mv (qi 2))]
def Xn38_20 : C := .seq Xn38_21 .ret
def Xn38_19 : C := .cond (.tmp 43) Xn38_20 .skip
def Xn38_17 : C := .seq Xn38_18 Xn38_19
def Xn38_25 : C := regL [2] none [qo 2 (.mv (qi 0))]
def Xn38_24 : C := .seq Xn38_25 .ret
def Xn38_16 : C := seqL [] Xn38_17 Xn38_24
def Xn38_14 : C := .seq Xn38_15 Xn38_16
def Xn38_12 : C := .seq Xn38_13 Xn38_14
def Xn38_10 : C := .seq Xn38_11 Xn38_12
def Xn38_2 : C := seqL [1] Xn38_3 Xn38_10
def Xn38_0 : C := .seq Xn38_1 Xn38_2
theorem Xt38 : Text Tryz.prog 38 Xn38_0 44 1 [.t 2] := txA [1] Tryz.func38
def Xn39_1 : C := regL [1] none [qx 1 33 0, qo 2 (.mv (qi 0))]
def Xn39_4 : C := regL [4] none [qo 3 (.sla 33 6 1 (qt 1)), qo 4 (.call 73 [qt 3, .func 74])]
def Xn39_7 : C := regL [2] none [qo 2 (.mv (qi 2))]
def Xn39_6 : C := .seq Xn39_7 .ret
def Xn39_5 : C := .cond (.tmp 4) Xn39_6 .skip
def Xn39_3 : C := .seq Xn39_4 Xn39_5
def Xn39_11 : C := regL [2] none [qo 2 (.mv (qi 0))]
def Xn39_10 : C := .seq Xn39_11 .ret
def Xn39_2 : C := seqL [] Xn39_3 Xn39_10
def Xn39_0 : C := .seq Xn39_1 Xn39_2
theorem Xt39 : Text Tryz.prog 39 Xn39_0 5 1 [.t 2] := txA [1] Tryz.func39
def Xn40_1 : C := regL [0, 1] none [qo 4 (.mv (.const (.bool false)))]
def Xn40_3 : C := regL [4] none [qm 5 0, qm 6 1, qo 7 (.call 75 [qt 5, qt 6]), qc 8 3 .geq 7 0, qm 4 8]
def Xn40_2 : C := .seq Xn40_3 .ret
def Xn40_0 : C := .seq Xn40_1 Xn40_2
theorem Xt40 : Text Tryz.prog 40 Xn40_0 9 2 [.t 4] := txA [] Tryz.func40
def Xn41_1 : C := regL [0, 1] none [qo 3 (.mv (.const (.bool false)))]
def Xn41_3 : C := regL [3] none [qm 4 0, qc 5 3 .lss 4 0, qm 6 5, qM 7 0 6 false, qh 8 0 1 6 false, qk 9 3 1 8 6 false, qg 10 (.bin 3 .geq (qt 7) (qt 9)) 6 false, qp 11 6 10, qm 3 11]
def Xn41_2 : C := .seq Xn41_3 .ret
def Xn41_0 : C := .seq Xn41_1 Xn41_2
theorem Xt41 : Text Tryz.prog 41 Xn41_0 12 2 [.t 3] := txA [] Tryz.func41
def Xn42_1 : C := regL [0, 1, 4] none [qo 4 (.alc 89 (.agg #[.int .i64 0, .int .i64 0]))]
def Xn42_4 : C := regL [0, 1, 4, 9] none [qm 7 0, qw 8 7, qc 9 3 .lss 8 1]
def Xn42_6 : C := regL [0, 1, 4] none [qo 10 (.dead), ⟨none, .dead, none⟩]
def Xn42_5 : C := .cond (.tmp 9) Xn42_6 .skip
def Xn42_3 : C := .seq Xn42_4 Xn42_5
def Xn42_9 : C := regL [0, 1, 4, 5] none [qm 11 0, qo 12 (.ia 2 (qt 11) (qi 0)), qL 13 89 2 12, qo 5 (.alc 89 (.agg #[.int .i64 0, .int .i64 0])), qs 89 2 5 13]
def Xn42_12 : C := regL [0, 1, 4, 5, 6] none [qo 6 (.mv (qi 1))]
def Xn42_17 : C := regL [0, 1, 4, 5, 6, 17] none [qm 14 6, qm 15 0, qw 16 15, qb 17 3 .lss 14 16]
def Xn42_18 : C := .cond (.tmp 17) .skip (.exit 0)
def Xn42_16 : C := .seq Xn42_17 Xn42_18
def Xn42_24 : C := regL [0, 1, 4, 5, 6, 27] (some [0, 0, 0, 6, 14, 0, 63, 127]) [qm 20 1, qm 21 0, qm 22 6, qa 23 2 21 22, qL 24 89 2 23, qL 25 89 2 5, qo 26 (.callv (qt 20) [qt 24, qt 25]), qc 27 3 .lss 26 0]
def Xn42_26 : C := regL [0, 1, 4, 5, 6] none [qm 28 0, qm 29 6, qa 30 2 28 29, qL 31 89 2 30, qs 89 2 5 31]
def Xn42_25 : C := .cond (.tmp 27) Xn42_26 .skip
def Xn42_23 : C := .seq Xn42_24 Xn42_25
def Xn42_22 : C := .block 1 Xn42_23
def Xn42_28 : C := regL [0, 1, 4, 5, 6] none [qm 18 6, qc 19 3 .add 18 1, qm 6 19]
def Xn42_21 : C := seqL [0, 1, 4, 5, 6] Xn42_22 Xn42_28
def Xn42_15 : C := seqL [0, 1, 4, 5, 6] Xn42_16 Xn42_21
def Xn42_14 : C := loopL [0, 1, 4, 5, 6] Xn42_15
def Xn42_13 : C := .block 0 Xn42_14
def Xn42_11 : C := .seq Xn42_12 Xn42_13
def Xn42_30 : C := regL [4] none [qL 32 89 2 5, qs 89 2 4 32]
def Xn42_29 : C := .seq Xn42_30 .ret
def Xn42_10 : C := seqL [4, 5] Xn42_11 Xn42_29
def Xn42_8 : C := .seq Xn42_9 Xn42_10
def Xn42_2 : C := seqL [0, 1, 4] Xn42_3 Xn42_8
def Xn42_0 : C := .seq Xn42_1 Xn42_2
theorem Xt42 : Text Tryz.prog 42 Xn42_0 33 2 [.c 4 2 true] := txA [] Tryz.func42
def Xn43_1 : C := regL [2, 3] none [qx 2 89 0, qx 3 89 1, qo 4 (.mv (qi 0))]
def Xn43_3 : C := regL [4] none [qf 5 1 2, ql 6 2 1 5, qf 7 1 3, ql 8 2 1 7, qb 9 2 .sub 6 8, qm 4 9]
def Xn43_2 : C := .seq Xn43_3 .ret
def Xn43_0 : C := .seq Xn43_1 Xn43_2
theorem Xt43 : Text Tryz.prog 43 Xn43_0 10 2 [.t 4] := txA [2, 3] Tryz.func43
def Xn44_1 : C := regL [0, 3] none [qx 3 89 1, qo 4 (.mv (qi 0))]
def Xn44_4 : C := regL [0, 3, 7, 8] none [qm 6 0, qw 7 6, qo 8 (.mv (qi 0))]
def Xn44_8 : C := regL [0, 3, 7, 8, 9] none [qb 9 3 .lss 8 7]
def Xn44_10 : C := .cond (.tmp 9) .skip (.exit 0)
def Xn44_16 : C := regL [0, 3, 5, 7, 8] none [qm 10 8, qm 5 10]
def Xn44_18 : C := regL [0, 3, 5, 7, 8, 16] (some [0, 0, 0, 6, 14, 31]) [qL 11 89 2 3, qm 12 0, qm 13 5, qa 14 2 12 13, qL 15 89 2 14, qo 16 (.eqb 5 false (qt 11) (qt 15))]
def Xn44_21 : C := regL [4] none [qm 17 5, qm 4 17]
def Xn44_20 : C := .seq Xn44_21 .ret
def Xn44_19 : C := .cond (.tmp 16) Xn44_20 .skip
def Xn44_17 : C := .seq Xn44_18 Xn44_19
def Xn44_15 : C := .seq Xn44_16 Xn44_17
def Xn44_14 : C := .block 1 Xn44_15
def Xn44_24 : C := regL [0, 3, 7, 8] none [qc 18 3 .add 8 1, qm 8 18]
def Xn44_13 : C := seqL [0, 3, 7, 8] Xn44_14 Xn44_24
def Xn44_9 : C := seqL [0, 3, 7, 8] Xn44_10 Xn44_13
def Xn44_7 : C := .seq Xn44_8 Xn44_9
def Xn44_6 : C := loopL [0, 3, 7, 8] Xn44_7
def Xn44_5 : C := .block 0 Xn44_6
def Xn44_3 : C := .seq Xn44_4 Xn44_5
def Xn44_26 : C := regL [4] none [qo 4 (.mv (qi (-1)))]
def Xn44_25 : C := .seq Xn44_26 .ret
def Xn44_2 : C := seqL [] Xn44_3 Xn44_25
def Xn44_0 : C := .seq Xn44_1 Xn44_2
theorem Xt44 : Text Tryz.prog 44 Xn44_0 19 2 [.t 4] := txA [3] Tryz.func44
def Xn46_1 : C := regL [0, 1, 2, 3, 9, 10] none [qf 8 3 1, qL 9 33 6 8, qo 10 (.mv (qi 0))]
def Xn46_5 : C := regL [0, 1, 2, 3, 9, 10, 11] none [qc 11 3 .lss 10 6]
def Xn46_7 : C := .cond (.tmp 11) .skip (.exit 0)
def Xn46_13 : C := regL [0, 1, 2, 3, 5, 6, 9, 10] none [qm 12 10, qo 13 (.idx 6 1 false (qt 9) (qt 10)), qm 5 12, qm 6 13]
def Xn46_15 : C := regL [0, 1, 2, 3, 5, 6, 7, 9, 10] none [qL 14 57 9 1, ql 15 61 1 2, ql 16 3 1 3, qm 17 5, qo 18 (.call 47 [qt 14, qt 15, qt 16, qt 17]), qm 7 18]
def Xn46_17 : C := regL [0, 1, 2, 3, 9, 10, 31] none [qm 19 6, qm 20 7, qb 21 2 .gtr 19 20, qm 22 21, qM 23 0 22 true, qk 24 3 1 3 22 true, qM 25 5 22 true, qM 26 7 22 true, qM 27 6 22 true, qg 28 (.bld (.agg #[.int .i64 0, .int .i64 0, .int .i64 0, .int .i64 0]) [(0, 1, qt 24), (1, 1, qt 25), (2, 1, qt 26), (3, 1, qt 27)]) 22 true, qg 29 (.callv (qt 23) [qt 28]) 22 true, qg 30 (.un .not (qt 29)) 22 true, qq 31 22 30]
def Xn46_18 : C := .cond (.tmp 31) .ret .skip
def Xn46_16 : C := .seq Xn46_17 Xn46_18
def Xn46_14 : C := .seq Xn46_15 Xn46_16
def Xn46_12 : C := .seq Xn46_13 Xn46_14
def Xn46_11 : C := .block 1 Xn46_12
def Xn46_21 : C := regL [0, 1, 2, 3, 9, 10] none [qc 32 3 .add 10 1, qm 10 32]
def Xn46_10 : C := seqL [0, 1, 2, 3, 9, 10] Xn46_11 Xn46_21
def Xn46_6 : C := seqL [0, 1, 2, 3, 9, 10] Xn46_7 Xn46_10
def Xn46_4 : C := .seq Xn46_5 Xn46_6
def Xn46_3 : C := loopL [0, 1, 2, 3, 9, 10] Xn46_4
def Xn46_2 : C := .block 0 Xn46_3
def Xn46_0 : C := .seq Xn46_1 Xn46_2
theorem Xt46 : Text Tryz.prog 46 Xn46_0 33 4 [] := txA [] Tryz.func46
def Xn47_1 : C := regL [1, 4, 6, 7] none [qx 4 57 0, qx 6 3 2, qx 7 3 3, qo 8 (.mv (qi 0))]
def Xn47_3 : C := regL [1, 4, 6, 7, 9] (some [0, 1, 3, 0, 0, 15, 47, 127, 255, 0, 1023]) [qf 12 0 4, qf 13 1 12, ql 14 24 1 13, ql 15 3 1 6, ql 16 3 1 7, qa 17 12 14 15, qf 18 6 17, qo 19 (.iaa 6 1 (qt 18) (qt 16)), ql 20 2 1 19, qo 9 (.alc 2 (.int .i64 0)), qs 2 1 9 20]
def Xn47_6 : C := regL [4, 6, 7, 9, 22] none [qm 21 1, qo 22 (.call 55 [qt 21])]
def Xn47_9 : C := regL [4, 6, 7, 9, 10] none [qm 10 23]
def Xn47_12 : C := regL [6, 7, 9, 11] none [qf 24 0 4, qf 25 2 24, ql 26 25 1 25, qm 27 10, qa 28 4 26 27, qL 29 55 4 28, qo 11 (.alc 55 (.agg #[.slice none 0 0, .int .i64 0, .int .i64 0, .int .i64 0])), qs 55 4 11 29]
def Xn47_14 : C := regL [9, 11, 39] none [qf 30 1 11, ql 31 3 1 30, ql 32 3 1 7, qb 33 3 .eql 31 32, qm 34 33, qh 35 0 11 34 true, qk 36 29 1 35 34 true, qk 37 3 1 6 34 true, qg 38 (.call 76 [qt 36, qt 37]) 34 true, qq 39 34 38]
def Xn47_16 : C := regL [] none [ql 40 2 1 9, qf 41 2 11, ql 42 2 1 41, qo 43 (.mx [qt 40, qt 42]), qs 2 1 9 43]
def Xn47_15 : C := .cond (.tmp 39) Xn47_16 .skip
def Xn47_13 : C := .seq Xn47_14 Xn47_15
def Xn47_11 : C := .seq Xn47_12 Xn47_13
def Xn47_10 : C := .block 1 Xn47_11
def Xn47_8 : C := .rfn (.tmp 22) [23] Xn47_9 Xn47_10
def Xn47_7 : C := .block 0 Xn47_8
def Xn47_5 : C := .seq Xn47_6 Xn47_7
def Xn47_19 : C := regL [8] none [ql 44 2 1 9, qm 8 44]
def Xn47_18 : C := .seq Xn47_19 .ret
def Xn47_4 : C := seqL [9] Xn47_5 Xn47_18
def Xn47_2 : C := .seq Xn47_3 Xn47_4
def Xn47_0 : C := .seq Xn47_1 Xn47_2
theorem Xt47 : Text Tryz.prog 47 Xn47_0 45 4 [.t 8] := txA [4, 6, 7] Tryz.func47
def Xn48_1 : C := regL [0, 3, 4, 5, 6] none [qx 3 125 1, qo 4 (.alc 61 (.int .u64 0)), qo 5 (.alc 2 (.int .i64 0)), qo 6 (.alc 4 (.bool false))]
def Xn48_4 : C := regL [3, 4, 5, 6, 10] none [qm 10 0]
def Xn48_7 : C := regL [3, 4, 5, 6, 7] none [qm 7 11]
def Xn48_10 : C := regL [4, 5, 6, 7, 8, 9] none [ql 13 125 1 3, qm 14 7, qo 15 (.callv (qt 13) [qt 14]), qm 12 15, qe 16 0 12, qe 17 1 12, qm 8 16, qm 9 17]
def Xn48_12 : C := regL [4, 5, 6, 7, 8, 27] none [qm 18 9, qm 19 18, qk 20 4 1 6 19 true, qg 21 (.un .not (qt 20)) 19 true, qM 22 21 19 true, qM 23 8 22 false, qk 24 2 1 5 22 false, qg 25 (.bin 2 .lss (qt 23) (qt 24)) 22 false, qg 26 (.pick 22 (.const (.bool true)) (qt 25)) 19 true, qq 27 19 26]
def Xn48_14 : C := regL [] none [qm 28 7, qm 29 8, qs 61 1 4 28, qs 2 1 5 29, ⟨none, .st 4 1 (qt 6) (.const (.bool true)), none⟩]
def Xn48_13 : C := .cond (.tmp 27) Xn48_14 .skip
def Xn48_11 : C := .seq Xn48_12 Xn48_13
def Xn48_9 : C := .seq Xn48_10 Xn48_11
def Xn48_8 : C := .block 1 Xn48_9
def Xn48_6 : C := .rfn (.tmp 10) [11] Xn48_7 Xn48_8
def Xn48_5 : C := .block 0 Xn48_6
def Xn48_3 : C := .seq Xn48_4 Xn48_5
def Xn48_17 : C := regL [4, 5, 6] (some [0, 0, 0, 1, 11, 31]) [ql 30 61 1 4, ql 31 2 1 5, ql 32 4 1 6, qs 61 1 4 30, qs 2 1 5 31, qs 4 1 6 32]
def Xn48_16 : C := .seq Xn48_17 .ret
def Xn48_2 : C := seqL [4, 5, 6] Xn48_3 Xn48_16
def Xn48_0 : C := .seq Xn48_1 Xn48_2
theorem Xt48 : Text Tryz.prog 48 Xn48_0 33 2 [.c 4 1 false, .c 5 1 false, .c 6 1 false] := txA [3] Tryz.func48
def Xn49_1 : C := regL [1] none [qx 1 3 0, qo 2 (.mv (.const (.nilFunc)))]
def Xn49_3 : C := regL [2] none [qo 3 (.mkf 77 [] [qt 1]), qm 2 3]
def Xn49_2 : C := .seq Xn49_3 .ret
def Xn49_0 : C := .seq Xn49_1 Xn49_2
theorem Xt49 : Text Tryz.prog 49 Xn49_0 4 1 [.t 2] := txA [1] Tryz.func49
def Xn50_1 : C := regL [0, 1, 2, 3] none [qo 5 (.mv (qi 0)), qo 6 (.mv (.const (.bool false)))]
def Xn50_3 : C := regL [0, 1, 7] (some [0, 0, 0, 0, 12, 31, 0, 127, 255, 511]) [qL 8 57 9 1, ql 9 3 1 2, qL 10 57 9 1, qm 11 0, qo 12 (.call 52 [qt 10, qt 11]), qo 13 (.call 51 [qt 8, qt 9, .const (.bool true), qt 12]), ql 14 3 1 3, qa 15 1 13 14, ql 16 2 1 15, qm 7 16]
def Xn50_5 : C := regL [5, 6] none [qm 17 7, qL 18 57 9 1, qm 19 0, qo 20 (.call 53 [qt 18, qt 19]), qb 21 2 .add 17 20, qm 22 7, qc 23 2 .lss 22 1125899906842624, qm 5 21, qm 6 23]
def Xn50_4 : C := .seq Xn50_5 .ret
def Xn50_2 : C := .seq Xn50_3 Xn50_4
def Xn50_0 : C := .seq Xn50_1 Xn50_2
theorem Xt50 : Text Tryz.prog 50 Xn50_0 24 4 [.t 5, .t 6] := txA [] Tryz.func50
def Xn51_1 : C := regL [1, 2, 3, 4] none [qx 4 57 0, qo 8 (.mv (.const (.slice none 0 0)))]
def Xn51_3 : C := regL [1, 2, 3, 4, 9] none [qf 19 0 4, qf 20 0 19, ql 21 3 1 20, qo 22 (.mks 2 1 8 (.int .i64 0) (qt 21) (qt 21)), qm 9 22]
def Xn51_6 : C := regL [1, 2, 3, 4, 9, 24, 25] none [qm 23 9, qw 24 23, qo 25 (.mv (qi 0))]
def Xn51_10 : C := regL [1, 2, 3, 4, 9, 24, 25, 26] none [qb 26 3 .lss 25 24]
def Xn51_12 : C := .cond (.tmp 26) .skip (.exit 0)
def Xn51_18 : C := regL [1, 2, 3, 4, 9, 10, 24, 25] none [qm 27 25, qm 10 27]
def Xn51_19 : C := regL [1, 2, 3, 4, 9, 24, 25] none [qm 28 9, qm 29 10, qa 30 1 28 29, ⟨none, .st 2 1 (qt 30) (qi 1125899906842624), none⟩]
def Xn51_17 : C := .seq Xn51_18 Xn51_19
def Xn51_16 : C := .block 1 Xn51_17
def Xn51_20 : C := regL [1, 2, 3, 4, 9, 24, 25] none [qc 31 3 .add 25 1, qm 25 31]
def Xn51_15 : C := seqL [1, 2, 3, 4, 9, 24, 25] Xn51_16 Xn51_20
def Xn51_11 : C := seqL [1, 2, 3, 4, 9, 24, 25] Xn51_12 Xn51_15
def Xn51_9 : C := .seq Xn51_10 Xn51_11
def Xn51_8 : C := loopL [1, 2, 3, 4, 9, 24, 25] Xn51_9
def Xn51_7 : C := .block 0 Xn51_8
def Xn51_5 : C := .seq Xn51_6 Xn51_7
def Xn51_22 : C := regL [2, 3, 4, 9] none [qm 32 9, qm 33 1, qa 34 1 32 33, ⟨none, .st 2 1 (qt 34) (qi 0), none⟩]
def Xn51_24 : C := regL [2, 3, 4, 9, 11] none [qf 35 0 4, qf 36 1 35, ql 37 24 1 36, qw 38 37, qo 39 (.mks 2 1 8 (.int .i64 0) (qt 38) (qt 38)), qm 11 39]
def Xn51_27 : C := regL [2, 3, 4, 9, 11, 41, 42] none [qm 40 11, qw 41 40, qo 42 (.mv (qi 0))]
def Xn51_31 : C := regL [2, 3, 4, 9, 11, 41, 42, 43] none [qb 43 3 .lss 42 41]
def Xn51_33 : C := .cond (.tmp 43) .skip (.exit 2)
def Xn51_39 : C := regL [2, 3, 4, 9, 11, 12, 41, 42] none [qm 44 42, qm 12 44]
def Xn51_40 : C := regL [2, 3, 4, 9, 11, 41, 42] none [qm 45 11, qm 46 12, qm 47 3, qm 48 12, qo 49 (.callv (qt 47) [qt 48]), qa 50 1 45 46, qs 2 1 50 49]
def Xn51_38 : C := .seq Xn51_39 Xn51_40
def Xn51_37 : C := .block 3 Xn51_38
def Xn51_41 : C := regL [2, 3, 4, 9, 11, 41, 42] none [qc 51 3 .add 42 1, qm 42 51]
def Xn51_36 : C := seqL [2, 3, 4, 9, 11, 41, 42] Xn51_37 Xn51_41
def Xn51_32 : C := seqL [2, 3, 4, 9, 11, 41, 42] Xn51_33 Xn51_36
def Xn51_30 : C := .seq Xn51_31 Xn51_32
def Xn51_29 : C := loopL [2, 3, 4, 9, 11, 41, 42] Xn51_30
def Xn51_28 : C := .block 2 Xn51_29
def Xn51_26 : C := .seq Xn51_27 Xn51_28
def Xn51_44 : C := regL [2, 4, 9, 11, 13] none [qo 13 (.mv (.const (.bool true)))]
def Xn51_49 : C := regL [2, 4, 9, 11, 52] none [qm 52 13]
def Xn51_50 : C := .cond (.tmp 52) .skip (.exit 4)
def Xn51_48 : C := .seq Xn51_49 Xn51_50
def Xn51_56 : C := regL [2, 4, 9, 11, 13] none [qo 13 (.mv (.const (.bool false)))]
def Xn51_60 : C := regL [2, 4, 9, 11, 13, 55, 56, 57] none [qf 53 0 4, qf 54 1 53, ql 55 24 1 54, qw 56 55, qo 57 (.mv (qi 0))]
def Xn51_64 : C := regL [2, 4, 9, 11, 13, 55, 56, 57, 58] none [qb 58 3 .lss 57 56]
def Xn51_66 : C := .cond (.tmp 58) .skip (.exit 6)
def Xn51_72 : C := regL [2, 4, 9, 11, 13, 14, 15, 55, 56, 57] none [qm 59 57, qa 60 12 55 57, qL 61 37 12 60, qo 15 (.alc 37 (.agg #[.int .i64 0, .int .i64 0, .int .i64 0, .int .i64 0, .int .i64 0, .int .i64 0, .int .i64 0, .int .i64 0, .int .i64 0, .int .i64 0, .int .i64 0, .int .i64 0])), qm 14 59, qs 37 12 15 61]
def Xn51_75 : C := regL [2, 4, 9, 11, 13, 14, 15, 55, 56, 57, 66] none [qm 62 11, qm 63 14, qa 64 1 62 63, ql 65 2 1 64, qc 66 2 .lss 65 0]
def Xn51_76 : C := .cond (.tmp 66) (.exit 7) .skip
def Xn51_74 : C := .seq Xn51_75 Xn51_76
def Xn51_80 : C := regL [2, 4, 9, 11, 13, 14, 16, 17, 55, 56, 57] (some [0, 1, 0, 4, 3, 31]) [qf 67 0 15, ql 68 3 1 67, qf 69 1 15, ql 70 3 1 69, qm 16 68, qm 17 70]
def Xn51_83 : C := regL [2, 4, 9, 11, 13, 14, 16, 17, 55, 56, 57, 71] none [qm 71 2]
def Xn51_85 : C := regL [2, 4, 9, 11, 13, 14, 16, 17, 55, 56, 57] none [qm 72 17, qm 73 16, qm 16 72, qm 17 73]
def Xn51_84 : C := .cond (.tmp 71) Xn51_85 .skip
def Xn51_82 : C := .seq Xn51_83 Xn51_84
def Xn51_88 : C := regL [2, 4, 9, 11, 13, 16, 17, 18, 55, 56, 57] (some [0, 0, 3, 7, 0, 0, 48, 112, 255, 511]) [qm 74 9, qm 75 16, qa 76 1 74 75, ql 77 2 1 76, qm 78 11, qm 79 14, qa 80 1 78 79, ql 81 2 1 80, qb 82 2 .add 77 81, qm 18 82]
def Xn51_90 : C := regL [2, 4, 9, 11, 13, 17, 18, 55, 56, 57, 95] none [qm 83 9, qm 84 16, qa 85 1 83 84, ql 86 2 1 85, qc 87 2 .lss 86 1125899906842624, qm 88 87, qM 89 18 88 true, qM 90 9 88 true, qM 91 17 88 true, qg 92 (.ia 1 (qt 90) (qt 91)) 88 true, qk 93 2 1 92 88 true, qg 94 (.bin 2 .lss (qt 89) (qt 93)) 88 true, qq 95 88 94]
def Xn51_92 : C := regL [2, 4, 9, 11, 13, 55, 56, 57] none [qm 96 9, qm 97 17, qm 98 18, qa 99 1 96 97, qs 2 1 99 98, qo 13 (.mv (.const (.bool true)))]
def Xn51_91 : C := .cond (.tmp 95) Xn51_92 .skip
def Xn51_89 : C := .seq Xn51_90 Xn51_91
def Xn51_87 : C := .seq Xn51_88 Xn51_89
def Xn51_81 : C := seqL [2, 4, 9, 11, 13, 14, 16, 17, 55, 56, 57] Xn51_82 Xn51_87
def Xn51_79 : C := .seq Xn51_80 Xn51_81
def Xn51_73 : C := seqL [2, 4, 9, 11, 13, 14, 15, 55, 56, 57] Xn51_74 Xn51_79
def Xn51_71 : C := .seq Xn51_72 Xn51_73
def Xn51_70 : C := .block 7 Xn51_71
def Xn51_94 : C := regL [2, 4, 9, 11, 13, 55, 56, 57] none [qc 100 3 .add 57 1, qm 57 100]
def Xn51_69 : C := seqL [2, 4, 9, 11, 13, 55, 56, 57] Xn51_70 Xn51_94
def Xn51_65 : C := seqL [2, 4, 9, 11, 13, 55, 56, 57] Xn51_66 Xn51_69
def Xn51_63 : C := .seq Xn51_64 Xn51_65
def Xn51_62 : C := loopL [2, 4, 9, 11, 13, 55, 56, 57] Xn51_63
def Xn51_61 : C := .block 6 Xn51_62
def Xn51_59 : C := .seq Xn51_60 Xn51_61
def Xn51_57 : C := seqL [2, 4, 9, 11, 13] .skip Xn51_59
def Xn51_55 : C := .seq Xn51_56 Xn51_57
def Xn51_54 : C := .scp Xn51_55
def Xn51_53 : C := .block 5 Xn51_54
def Xn51_47 : C := seqL [2, 4, 9, 11] Xn51_48 Xn51_53
def Xn51_46 : C := loopL [2, 4, 9, 11, 13] Xn51_47
def Xn51_45 : C := .block 4 Xn51_46
def Xn51_43 : C := .seq Xn51_44 Xn51_45
def Xn51_96 : C := regL [8] none [qm 101 9, qm 8 101]
def Xn51_95 : C := .seq Xn51_96 .ret
def Xn51_42 : C := seqL [9] Xn51_43 Xn51_95
def Xn51_25 : C := seqL [2, 4, 9, 11] Xn51_26 Xn51_42
def Xn51_23 : C := .seq Xn51_24 Xn51_25
def Xn51_21 : C := .seq Xn51_22 Xn51_23
def Xn51_4 : C := seqL [1, 2, 3, 4, 9] Xn51_5 Xn51_21
def Xn51_2 : C := .seq Xn51_3 Xn51_4
def Xn51_0 : C := .seq Xn51_1 Xn51_2
theorem Xt51 : Text Tryz.prog 51 Xn51_0 102 4 [.t 8] := txA [4] Tryz.func51
def Xn52_1 : C := regL [2, 3] none [qx 2 57 0, qx 3 61 1, qo 4 (.mv (.const (.nilFunc)))]
def Xn52_3 : C := regL [4] none [qo 5 (.mkf 79 [] [qt 2, qt 3]), qm 4 5]
def Xn52_2 : C := .seq Xn52_3 .ret
def Xn52_0 : C := .seq Xn52_1 Xn52_2
theorem Xt52 : Text Tryz.prog 52 Xn52_0 6 2 [.t 4] := txA [2, 3] Tryz.func52
def Xn53_1 : C := regL [1, 2] none [qx 2 57 0, qo 4 (.mv (qi 0))]
def Xn53_3 : C := regL [1, 2, 5] none [qo 5 (.alc 2 (.int .i64 0)), ⟨none, .st 2 1 (qt 5) (qi 0), none⟩]
def Xn53_6 : C := regL [2, 5, 8] none [qm 7 1, qo 8 (.call 55 [qt 7])]
def Xn53_9 : C := regL [2, 5, 6] none [qm 6 9]
def Xn53_11 : C := regL [] (some [0, 0, 2, 6, 0, 30, 62, 126, 255, 511]) [ql 10 2 1 5, qf 11 0 2, qf 12 2 11, ql 13 25 1 12, qm 14 6, qa 15 4 13 14, qf 16 3 15, ql 17 2 1 16, qb 18 2 .add 10 17, qs 2 1 5 18]
def Xn53_10 : C := .block 1 Xn53_11
def Xn53_8 : C := .rfn (.tmp 8) [9] Xn53_9 Xn53_10
def Xn53_7 : C := .block 0 Xn53_8
def Xn53_5 : C := .seq Xn53_6 Xn53_7
def Xn53_13 : C := regL [4] none [ql 19 2 1 5, qm 4 19]
def Xn53_12 : C := .seq Xn53_13 .ret
def Xn53_4 : C := seqL [5] Xn53_5 Xn53_12
def Xn53_2 : C := .seq Xn53_3 Xn53_4
def Xn53_0 : C := .seq Xn53_1 Xn53_2
theorem Xt53 : Text Tryz.prog 53 Xn53_0 20 2 [.t 4] := txA [2] Tryz.func53
def Xn54_1 : C := regL [0] none [qo 2 (.mv (.const (.slice none 0 0)))]
def Xn54_3 : C := regL [2] none [qm 3 0, qo 4 (.call 80 [.const (.slice none 0 0), qt 3]), qm 2 4]
def Xn54_2 : C := .seq Xn54_3 .ret
def Xn54_0 : C := .seq Xn54_1 Xn54_2
theorem Xt54 : Text Tryz.prog 54 Xn54_0 5 1 [.t 2] := txA [] Tryz.func54
def Xn55_1 : C := regL [1] none [qx 1 61 0, qo 2 (.mv (.const (.nilFunc)))]
def Xn55_3 : C := regL [2] none [qo 3 (.mkf 81 [] [qt 1]), qm 2 3]
def Xn55_2 : C := .seq Xn55_3 .ret
def Xn55_0 : C := .seq Xn55_1 Xn55_2
theorem Xt55 : Text Tryz.prog 55 Xn55_0 4 1 [.t 2] := txA [1] Tryz.func55
def Xn56_1 : C := regL [0, 1] none [qo 4 (.mv (qi 0))]
def Xn56_4 : C := regL [0, 1, 7, 8] none [qm 6 0, qw 7 6, qo 8 (.mv (qi 0))]
def Xn56_8 : C := regL [0, 1, 7, 8, 9] none [qb 9 3 .lss 8 7]
def Xn56_10 : C := .cond (.tmp 9) .skip (.exit 0)
def Xn56_16 : C := regL [0, 1, 5, 7, 8] none [qm 10 8, qm 5 10]
def Xn56_18 : C := regL [0, 1, 5, 7, 8, 16] none [qm 11 1, qm 12 0, qm 13 5, qa 14 12 12 13, qL 15 37 12 14, qo 16 (.callv (qt 11) [qt 15])]
def Xn56_21 : C := regL [4] none [qm 17 5, qm 4 17]
def Xn56_20 : C := .seq Xn56_21 .ret
def Xn56_19 : C := .cond (.tmp 16) Xn56_20 .skip
def Xn56_17 : C := .seq Xn56_18 Xn56_19
def Xn56_15 : C := .seq Xn56_16 Xn56_17
def Xn56_14 : C := .block 1 Xn56_15
def Xn56_24 : C := regL [0, 1, 7, 8] none [qc 18 3 .add 8 1, qm 8 18]
def Xn56_13 : C := seqL [0, 1, 7, 8] Xn56_14 Xn56_24
def Xn56_9 : C := seqL [0, 1, 7, 8] Xn56_10 Xn56_13
def Xn56_7 : C := .seq Xn56_8 Xn56_9
def Xn56_6 : C := loopL [0, 1, 7, 8] Xn56_7
def Xn56_5 : C := .block 0 Xn56_6
def Xn56_3 : C := .seq Xn56_4 Xn56_5
def Xn56_26 : C := regL [4] none [qo 4 (.mv (qi (-1)))]
def Xn56_25 : C := .seq Xn56_26 .ret
def Xn56_2 : C := seqL [] Xn56_3 Xn56_25
def Xn56_0 : C := .seq Xn56_1 Xn56_2
theorem Xt56 : Text Tryz.prog 56 Xn56_0 19 2 [.t 4] := txA [] Tryz.func56
def Xn57_1 : C := regL [1, 2, 3] none [qx 3 37 0, qo 4 (.mv (.const (.bool false)))]
def Xn57_3 : C := regL [4] (some [0, 1, 0, 7, 15, 31, 31, 127, 255, 31, 543, 31, 31, 4127, 14367, 30751, 65055, 131071, 262143, 524287]) [qf 5 0 3, ql 6 3 1 5, ql 7 3 1 1, qb 8 3 .eql 6 7, qm 9 8, qk 10 43 1 2 9 true, qk 11 3 1 1 9 true, qg 12 (.ia 1 (qt 10) (qt 11)) 9 true, qk 13 2 1 12 9 true, qh 14 2 3 9 true, qk 15 2 1 14 9 true, qk 16 43 1 2 9 true, qh 17 1 3 9 true, qk 18 3 1 17 9 true, qg 19 (.ia 1 (qt 16) (qt 18)) 9 true, qk 20 2 1 19 9 true, qg 21 (.bin 2 .add (qt 15) (qt 20)) 9 true, qg 22 (.bin 2 .eql (qt 13) (qt 21)) 9 true, qq 23 9 22, qm 4 23]
def Xn57_2 : C := .seq Xn57_3 .ret
def Xn57_0 : C := .seq Xn57_1 Xn57_2
theorem Xt57 : Text Tryz.prog 57 Xn57_0 24 3 [.t 4] := txA [3] Tryz.func57
def Xn58_1 : C := regL [1, 2, 3] none [qx 3 37 0, qo 4 (.mv (.const (.bool false)))]
def Xn58_3 : C := regL [4] (some [0, 1, 0, 7, 15, 31, 31, 127, 255, 31, 543, 31, 31, 4127, 14367, 30751, 65055, 131071, 262143, 524287]) [qf 5 0 3, ql 6 3 1 5, ql 7 3 1 1, qb 8 3 .eql 6 7, qm 9 8, qk 10 43 1 2 9 true, qk 11 3 1 1 9 true, qg 12 (.ia 1 (qt 10) (qt 11)) 9 true, qk 13 2 1 12 9 true, qh 14 2 3 9 true, qk 15 2 1 14 9 true, qk 16 43 1 2 9 true, qh 17 1 3 9 true, qk 18 3 1 17 9 true, qg 19 (.ia 1 (qt 16) (qt 18)) 9 true, qk 20 2 1 19 9 true, qg 21 (.bin 2 .add (qt 15) (qt 20)) 9 true, qg 22 (.bin 2 .eql (qt 13) (qt 21)) 9 true, qq 23 9 22, qm 4 23]
def Xn58_2 : C := .seq Xn58_3 .ret
def Xn58_0 : C := .seq Xn58_1 Xn58_2
theorem Xt58 : Text Tryz.prog 58 Xn58_0 24 3 [.t 4] := txA [3] Tryz.func58
def Xn59_1 : C := regL [3, 4, 5, 6] none [qx 3 141 0, qx 4 133 1, qx 5 133 2, qo 6 (.alc 136 (.agg #[.int .i64 0, .int .i64 0, .slice none 0 0])), qo 7 (.mv (qi 0))]
def Xn59_4 : C := regL [3, 4, 5, 6, 8] none [qL 20 141 4 3, qo 21 (.call 82 [qt 20]), qm 8 21]
def Xn59_6 : C := regL [3, 4, 5, 6, 8, 23] none [qm 22 8, qc 23 30 .neq 22 0]
def Xn59_9 : C := regL [6, 7] none [qo 24 (.bld (.agg #[.int .i64 0, .int .i64 0, .slice none 0 0]) []), qm 25 8, qs 136 3 6 24, qm 7 25]
def Xn59_8 : C := .seq Xn59_9 .ret
def Xn59_7 : C := .cond (.tmp 23) Xn59_8 .skip
def Xn59_5 : C := .seq Xn59_6 Xn59_7
def Xn59_3 : C := .seq Xn59_4 Xn59_5
def Xn59_14 : C := regL [3, 4, 5, 6, 33] none [qL 26 133 2 4, qo 27 (.call 83 [qt 26]), qc 28 30 .neq 27 0, qm 29 28, qg 30 (.ld 133 2 true (qt 5)) 29 false, qg 31 (.call 83 [qt 30]) 29 false, qg 32 (.bin 30 .neq (qt 31) (qi 0)) 29 false, qp 33 29 32]
def Xn59_17 : C := regL [6, 7] none [qo 34 (.bld (.agg #[.int .i64 0, .int .i64 0, .slice none 0 0]) []), qs 136 3 6 34, qo 7 (.mv (qi 2))]
def Xn59_16 : C := .seq Xn59_17 .ret
def Xn59_15 : C := .cond (.tmp 33) Xn59_16 .skip
def Xn59_13 : C := .seq Xn59_14 Xn59_15
def Xn59_21 : C := regL [3, 4, 5, 6, 9] none [qL 35 133 2 4, qo 36 (.bld (.agg #[.int .i64 0, .int .i64 0, .slice none 0 0]) [(0, 2, qt 35)]), qo 9 (.alc 136 (.agg #[.int .i64 0, .int .i64 0, .slice none 0 0])), qs 136 3 9 36]
def Xn59_23 : C := regL [3, 4, 5, 6, 9, 10] none [qf 37 1 3, ql 38 139 1 37, qo 39 (.ia 11 (qt 38) (qi 0)), qL 40 169 11 39, qo 41 (.bld (.agg #[.int .i64 0, .int .i64 0, .int .i64 0, .int .i64 0, .int .i64 0, .int .i64 0, .int .i64 0, .int .i64 0, .int .i64 0, .int .i64 0, .slice none 0 0]) [(0, 11, qt 40)]), qo 10 (.alc 171 (.agg #[.int .i64 0, .int .i64 0, .int .i64 0, .int .i64 0, .int .i64 0, .int .i64 0, .int .i64 0, .int .i64 0, .int .i64 0, .int .i64 0, .slice none 0 0])), qs 171 11 10 41]
def Xn59_25 : C := regL [3, 4, 6, 9, 10, 11, 12] (some [0, 0, 0, 4, 15, 31, 63, 63, 0, 383, 1023]) [qL 43 133 2 4, qL 44 133 2 5, qL 45 171 11 10, qo 46 (.call 85 [qt 45]), qo 47 (.call 84 [qt 43, qt 44, qt 46]), qm 42 47, qe 48 0 42, qe 49 1 42, qo 11 (.alc 133 (.agg #[.int .i64 0, .int .i64 0])), qs 133 2 11 48, qm 12 49]
def Xn59_28 : C := regL [3, 4, 6, 9, 10, 11, 12, 51] none [qm 50 12, qc 51 30 .neq 50 0]
def Xn59_31 : C := regL [6, 7] none [qo 52 (.bld (.agg #[.int .i64 0, .int .i64 0, .slice none 0 0]) []), qm 53 12, qs 136 3 6 52, qm 7 53]
def Xn59_30 : C := .seq Xn59_31 .ret
def Xn59_29 : C := .cond (.tmp 51) Xn59_30 .skip
def Xn59_27 : C := .seq Xn59_28 Xn59_29
def Xn59_35 : C := regL [3, 4, 6, 9, 10, 11] none [qf 54 2 9, ql 55 134 1 54, qL 56 133 2 11, qo 57 (.bls 133 2 1 (.agg #[.int .i64 0, .int .i64 0]) [(0, 2, qt 56)]), qo 58 (.app 133 2 16 (qt 55) (qt 57)), qf 59 2 9, qs 134 1 59 58]
def Xn59_37 : C := regL [3, 6, 9, 13] none [qL 60 171 11 10, qL 61 133 2 4, qL 62 133 2 11, qo 63 (.bld (.agg #[.int .i64 0, .int .i64 0, .int .i64 0, .int .i64 0, .int .i64 0, .int .i64 0, .int .i64 0, .int .i64 0, .int .i64 0, .int .i64 0, .slice none 0 0, .int .i64 0, .int .i64 0, .int .i64 0, .int .i64 0]) [(0, 11, qt 60), (11, 2, qt 61), (13, 2, qt 62)]), qo 13 (.alc 176 (.agg #[.int .i64 0, .int .i64 0, .int .i64 0, .int .i64 0, .int .i64 0, .int .i64 0, .int .i64 0, .int .i64 0, .int .i64 0, .int .i64 0, .slice none 0 0, .int .i64 0, .int .i64 0, .int .i64 0, .int .i64 0])), qs 176 15 13 63]
def Xn59_40 : C := regL [3, 6, 9, 13, 66, 67, 68] none [qf 64 1 3, ql 65 139 1 64, qo 66 (.slc 139 11 (qt 65) (some (qi 1)) none), qw 67 66, qo 68 (.mv (qi 0))]
def Xn59_44 : C := regL [3, 6, 9, 13, 66, 67, 68, 69] none [qb 69 3 .lss 68 67]
def Xn59_46 : C := .cond (.tmp 69) .skip (.exit 0)
def Xn59_52 : C := regL [3, 6, 9, 13, 15, 66, 67, 68] none [qa 70 11 66 68, qL 71 169 11 70, qo 15 (.alc 169 (.agg #[.int .i64 0, .int .i64 0, .int .i64 0, .int .i64 0, .int .i64 0, .int .i64 0, .int .i64 0, .int .i64 0, .int .i64 0, .int .i64 0, .slice none 0 0])), qs 169 11 15 71]
def Xn59_54 : C := regL [3, 6, 9, 13, 16, 66, 67, 68] none [qL 72 169 11 15, qo 73 (.bld (.agg #[.int .i64 0, .int .i64 0, .int .i64 0, .int .i64 0, .int .i64 0, .int .i64 0, .int .i64 0, .int .i64 0, .int .i64 0, .int .i64 0, .slice none 0 0]) [(0, 11, qt 72)]), qo 16 (.alc 171 (.agg #[.int .i64 0, .int .i64 0, .int .i64 0, .int .i64 0, .int .i64 0, .int .i64 0, .int .i64 0, .int .i64 0, .int .i64 0, .int .i64 0, .slice none 0 0])), qs 171 11 16 73]
def Xn59_56 : C := regL [3, 6, 9, 13, 16, 17, 18, 66, 67, 68] (some [0, 0, 2, 6, 15, 31, 63, 63, 0, 383, 1023]) [qL 75 176 15 13, qf 76 0 13, qL 77 171 11 76, qo 78 (.call 87 [qt 77]), qo 79 (.call 86 [qt 75, qt 78, qi 0]), qm 74 79, qe 80 0 74, qe 81 1 74, qo 17 (.alc 133 (.agg #[.int .i64 0, .int .i64 0])), qs 133 2 17 80, qm 18 81]
def Xn59_59 : C := regL [3, 6, 9, 13, 16, 17, 18, 66, 67, 68, 83] none [qm 82 18, qc 83 30 .neq 82 0]
def Xn59_62 : C := regL [6, 7] none [qo 84 (.bld (.agg #[.int .i64 0, .int .i64 0, .slice none 0 0]) []), qm 85 18, qs 136 3 6 84, qm 7 85]
def Xn59_61 : C := .seq Xn59_62 .ret
def Xn59_60 : C := .cond (.tmp 83) Xn59_61 .skip
def Xn59_58 : C := .seq Xn59_59 Xn59_60
def Xn59_66 : C := regL [3, 6, 9, 13, 16, 17, 18, 19, 66, 67, 68] (some [0, 0, 2, 6, 0, 30, 62, 127, 255, 511, 511, 0, 3071, 8191]) [qL 87 176 15 13, qf 88 0 13, qL 89 171 11 88, qo 90 (.call 87 [qt 89]), qL 91 171 11 16, qo 92 (.call 85 [qt 91]), qb 93 2 .sub 90 92, qo 94 (.call 86 [qt 87, qt 93, qi 0]), qm 86 94, qe 95 0 86, qe 96 1 86, qo 19 (.alc 133 (.agg #[.int .i64 0, .int .i64 0])), qs 133 2 19 95, qm 18 96]
def Xn59_69 : C := regL [3, 6, 9, 13, 16, 17, 18, 19, 66, 67, 68, 98] none [qm 97 18, qc 98 30 .neq 97 0]
def Xn59_72 : C := regL [6, 7] none [qo 99 (.bld (.agg #[.int .i64 0, .int .i64 0, .slice none 0 0]) []), qm 100 18, qs 136 3 6 99, qm 7 100]
def Xn59_71 : C := .seq Xn59_72 .ret
def Xn59_70 : C := .cond (.tmp 98) Xn59_71 .skip
def Xn59_68 : C := .seq Xn59_69 Xn59_70
def Xn59_76 : C := regL [3, 6, 9, 13, 16, 17, 19, 66, 67, 68] none [qf 101 2 9, ql 102 134 1 101, qL 103 133 2 19, qo 104 (.bls 133 2 1 (.agg #[.int .i64 0, .int .i64 0]) [(0, 2, qt 103)]), qo 105 (.app 133 2 16 (qt 102) (qt 104)), qf 106 2 9, qs 134 1 106 105]
def Xn59_77 : C := regL [3, 6, 9, 13, 66, 67, 68] none [qL 107 171 11 16, qL 108 133 2 17, qL 109 133 2 19, qo 110 (.bld (.agg #[.int .i64 0, .int .i64 0, .int .i64 0, .int .i64 0, .int .i64 0, .int .i64 0, .int .i64 0, .int .i64 0, .int .i64 0, .int .i64 0, .slice none 0 0, .int .i64 0, .int .i64 0, .int .i64 0, .int .i64 0]) [(0, 11, qt 107), (11, 2, qt 108), (13, 2, qt 109)]), qs 176 15 13 110]
def Xn59_75 : C := .seq Xn59_76 Xn59_77
def Xn59_67 : C := seqL [3, 6, 9, 13, 16, 17, 19, 66, 67, 68] Xn59_68 Xn59_75
def Xn59_65 : C := .seq Xn59_66 Xn59_67
def Xn59_57 : C := seqL [3, 6, 9, 13, 16, 17, 66, 67, 68] Xn59_58 Xn59_65
def Xn59_55 : C := .seq Xn59_56 Xn59_57
def Xn59_53 : C := .seq Xn59_54 Xn59_55
def Xn59_51 : C := .seq Xn59_52 Xn59_53
def Xn59_50 : C := .block 1 Xn59_51
def Xn59_78 : C := regL [3, 6, 9, 13, 66, 67, 68] none [qc 111 3 .add 68 1, qm 68 111]
def Xn59_49 : C := seqL [3, 6, 9, 13, 66, 67, 68] Xn59_50 Xn59_78
def Xn59_45 : C := seqL [3, 6, 9, 13, 66, 67, 68] Xn59_46 Xn59_49
def Xn59_43 : C := .seq Xn59_44 Xn59_45
def Xn59_42 : C := loopL [3, 6, 9, 13, 66, 67, 68] Xn59_43
def Xn59_41 : C := .block 0 Xn59_42
def Xn59_39 : C := .seq Xn59_40 Xn59_41
def Xn59_80 : C := regL [6, 7] none [qL 112 141 4 3, qL 113 136 3 9, qo 114 (.call 88 [qt 112, qt 113]), qe 115 0 114, qe 116 1 114, qs 136 3 6 115, qm 7 116]
def Xn59_79 : C := .seq Xn59_80 .ret
def Xn59_38 : C := seqL [3, 6, 9] Xn59_39 Xn59_79
def Xn59_36 : C := .seq Xn59_37 Xn59_38
def Xn59_34 : C := .seq Xn59_35 Xn59_36
def Xn59_26 : C := seqL [3, 4, 6, 9, 10, 11] Xn59_27 Xn59_34
def Xn59_24 : C := .seq Xn59_25 Xn59_26
def Xn59_22 : C := .seq Xn59_23 Xn59_24
def Xn59_20 : C := .seq Xn59_21 Xn59_22
def Xn59_12 : C := seqL [3, 4, 5, 6] Xn59_13 Xn59_20
def Xn59_2 : C := seqL [3, 4, 5, 6] Xn59_3 Xn59_12
def Xn59_0 : C := .seq Xn59_1 Xn59_2
theorem Xt59 : Text Tryz.prog 59 Xn59_0 117 3 [.c 6 3 true, .t 7] := txA [3, 4, 5] Tryz.func59
def Xn60_1 : C := regL [0] none [⟨some 0, .alc 141 (.agg #[.string ⟨#[]⟩, .slice none 0 0, .int .i64 0, .int .i64 0]), none⟩]
def Xn60_3 : C := regL [0] none [qo 1 (.bld (.agg #[.int .i64 0, .int .i64 0, .int .i64 0]) [(0, 1, qi 0), (1, 1, qi 8000), (2, 1, qi 2)]), qo 2 (.bld (.agg #[.int .i64 0, .int .i64 0, .int .i64 0]) [(0, 1, qi 3000), (1, 1, qi 12000), (2, 1, qi 4)]), qo 3 (.bls 180 3 2 (.agg #[.int .i64 0, .int .i64 0, .int .i64 0]) [(0, 3, qt 1), (3, 3, qt 2)]), qo 4 (.bld (.agg #[.int .i64 0, .int .i64 0, .int .i64 0, .int .i64 0, .int .i64 0, .int .i64 0, .int .i64 0, .int .i64 0, .int .i64 0, .int .i64 0, .slice none 0 0]) [(0, 1, qi 0), (1, 1, qi 3000), (3, 1, qi 1000), (4, 1, qi 500), (5, 1, qi 1200), (6, 1, qi 2500), (7, 1, qi 9000), (10, 1, qt 3)]), qo 5 (.bld (.agg #[.int .i64 0, .int .i64 0, .int .i64 0]) [(0, 1, qi 5000), (1, 1, qi 12000), (2, 1, qi 8)]), qo 6 (.bld (.agg #[.int .i64 0, .int .i64 0, .int .i64 0]) [(0, 1, qi 6000), (1, 1, qi 12000), (2, 1, qi 8)]), qo 7 (.bld (.agg #[.int .i64 0, .int .i64 0, .int .i64 0]) [(0, 1, qi 7000), (1, 1, qi 12000), (2, 1, qi 8)]), qo 8 (.bls 180 3 3 (.agg #[.int .i64 0, .int .i64 0, .int .i64 0]) [(0, 3, qt 5), (3, 3, qt 6), (6, 3, qt 7)]), qo 9 (.bld (.agg #[.int .i64 0, .int .i64 0, .int .i64 0, .int .i64 0, .int .i64 0, .int .i64 0, .int .i64 0, .int .i64 0, .int .i64 0, .int .i64 0, .slice none 0 0]) [(0, 1, qi 2), (1, 1, qi 6000), (3, 1, qi 500), (4, 1, qi 1500), (5, 1, qi 1250), (6, 1, qi 1200), (7, 1, qi 7000), (10, 1, qt 8)]), qo 10 (.bls 169 11 2 (.agg #[.int .i64 0, .int .i64 0, .int .i64 0, .int .i64 0, .int .i64 0, .int .i64 0, .int .i64 0, .int .i64 0, .int .i64 0, .int .i64 0, .slice none 0 0]) [(0, 11, qt 4), (11, 11, qt 9)]), ⟨some 11, .bld (.agg #[.string ⟨#[]⟩, .slice none 0 0, .int .i64 0, .int .i64 0]) [(0, 1, .const (.string ⟨#[99, 97, 114, 114, 105, 101, 114]⟩)), (2, 1, .const (.int .i64 1)), (3, 1, .const (.int .i64 1)), (1, 1, .tmp 10)], none⟩, qs 141 4 0 11]
def Xn60_2 : C := .seq Xn60_3 .ret
def Xn60_0 : C := .seq Xn60_1 Xn60_2
theorem Xt60 : Text Tryz.prog 60 Xn60_0 12 0 [.c 0 4 true] := txA [] Tryz.func60
def Xn61_1 : C := regL [1] none [qx 1 147 0, qo 2 (.mv (qi 0)), qo 3 (.mv (qi 0))]
def Xn61_4 : C := regL [1, 4] none [qL 5 147 4 1, qo 6 (.call 89 [qt 5]), qm 4 6]
def Xn61_6 : C := regL [1, 4, 8] none [qm 7 4, qc 8 30 .neq 7 0]
def Xn61_9 : C := regL [2, 3] none [qm 9 4, qo 2 (.mv (qi 0)), qm 3 9]
def Xn61_8 : C := .seq Xn61_9 .ret
def Xn61_7 : C := .cond (.tmp 8) Xn61_8 .skip
def Xn61_5 : C := .seq Xn61_6 Xn61_7
def Xn61_3 : C := .seq Xn61_4 Xn61_5
def Xn61_13 : C := regL [2, 3] none [qf 10 1 1, ql 11 144 1 10, qo 12 (.call 90 [qt 11]), qo 13 (.fl 0 1 false (qt 12)), qm 2 13, qo 3 (.mv (qi 0))]
def Xn61_12 : C := .seq Xn61_13 .ret
def Xn61_2 : C := seqL [1] Xn61_3 Xn61_12
def Xn61_0 : C := .seq Xn61_1 Xn61_2
theorem Xt61 : Text Tryz.prog 61 Xn61_0 14 1 [.t 2, .t 3] := txA [1] Tryz.func61
def Xn62_1 : C := regL [0, 2] none [⟨some 2, .alc 147 (.agg #[.string ⟨#[]⟩, .slice none 0 0, .slice none 0 0, .int .i64 0]), none⟩]
def Xn62_3 : C := regL [0, 2, 3] none [⟨some 6, .bld (.agg #[.string ⟨#[]⟩, .slice none 0 0, .slice none 0 0, .int .i64 0]) [(0, 1, .const (.string ⟨#[99, 97, 114, 103, 111]⟩)), (3, 1, .const (.int .i64 300))], none⟩, ⟨some 3, .alc 147 (.agg #[.string ⟨#[]⟩, .slice none 0 0, .slice none 0 0, .int .i64 0]), none⟩, qs 147 4 3 6]
def Xn62_6 : C := regL [0, 2, 3, 4] none [qo 4 (.mv (qi 0))]
def Xn62_11 : C := regL [0, 2, 3, 4, 14] none [qm 7 4, qm 8 0, qw 9 8, qb 10 3 .lss 7 9, qm 11 10, qM 12 4 11 true, qg 13 (.bin 3 .lss (qt 12) (qi 4)) 11 true, qq 14 11 13]
def Xn62_12 : C := .cond (.tmp 14) .skip (.exit 0)
def Xn62_10 : C := .seq Xn62_11 Xn62_12
def Xn62_18 : C := regL [0, 2, 3, 4, 5] none [qm 17 0, qm 18 4, qa 19 7 17 18, qL 20 150 7 19, qo 5 (.alc 150 (.agg #[.int .u8 0, .int .u8 0, .int .u8 0, .int .u8 0, .int .u8 0, .int .u8 0, .int .u16 0])), qs 150 7 5 20]
def Xn62_19 : C := regL [0, 2, 3, 4] none [qf 21 1 3, ql 22 144 1 21, qf 23 0 5, ql 24 5 1 23, qo 25 (.cvt .i64 (qt 24)), qo 26 (.bin 2 .mul (qi 20) (qt 25)), qf 27 1 5, ql 28 5 1 27, qo 29 (.cvt .i64 (qt 28)), qo 30 (.bin 2 .mul (qi 10) (qt 29)), qc 31 2 .sub 30 1280, qf 32 2 5, ql 33 5 1 32, qo 34 (.cvt .i64 (qt 33)), qo 35 (.bin 2 .mul (qi 10) (qt 34)), qf 36 3 5, ql 37 5 1 36, qo 38 (.cvt .i64 (qt 37)), qo 39 (.bin 2 .mul (qi 20) (qt 38)), qo 40 (.bin 2 .add (qi 1) (qt 39)), qf 41 4 5, ql 42 5 1 41, qo 43 (.cvt .i64 (qt 42)), qo 44 (.bin 2 .mul (qi 10) (qt 43)), qo 45 (.bin 2 .add (qi 1) (qt 44)), qf 46 5 5, ql 47 5 1 46, qo 48 (.cvt .i64 (qt 47)), qo 49 (.bin 2 .mul (qi 10) (qt 48)), qo 50 (.bin 2 .add (qi 1) (qt 49)), qf 51 6 5, ql 52 23 1 51, qo 53 (.cvt .i64 (qt 52)), qc 54 2 .rem 53 8000, qo 55 (.bin 2 .add (qi 1) (qt 54)), qo 56 (.bld (.agg #[.int .i64 0, .int .i64 0, .int .i64 0, .int .i64 0, .int .i64 0, .int .i64 0, .int .i64 0]) [(0, 1, qt 26), (1, 1, qt 31), (2, 1, qt 35), (3, 1, qt 40), (4, 1, qt 45), (5, 1, qt 50), (6, 1, qt 55)]), qo 57 (.bls 186 7 1 (.agg #[.int .i64 0, .int .i64 0, .int .i64 0, .int .i64 0, .int .i64 0, .int .i64 0, .int .i64 0]) [(0, 7, qt 56)]), qo 58 (.app 186 7 56 (qt 22) (qt 57)), qf 59 1 3, qs 144 1 59 58]
def Xn62_17 : C := .seq Xn62_18 Xn62_19
def Xn62_16 : C := .block 1 Xn62_17
def Xn62_20 : C := regL [0, 2, 3, 4] none [qm 15 4, qc 16 3 .add 15 1, qm 4 16]
def Xn62_15 : C := seqL [0, 2, 3, 4] Xn62_16 Xn62_20
def Xn62_9 : C := seqL [0, 2, 3, 4] Xn62_10 Xn62_15
def Xn62_8 : C := loopL [0, 2, 3, 4] Xn62_9
def Xn62_7 : C := .block 0 Xn62_8
def Xn62_5 : C := .seq Xn62_6 Xn62_7
def Xn62_22 : C := regL [2] none [qL 60 147 4 3, qs 147 4 2 60]
def Xn62_21 : C := .seq Xn62_22 .ret
def Xn62_4 : C := seqL [2, 3] Xn62_5 Xn62_21
def Xn62_2 : C := .seq Xn62_3 Xn62_4
def Xn62_0 : C := .seq Xn62_1 Xn62_2
theorem Xt62 : Text Tryz.prog 62 Xn62_0 61 1 [.c 2 4 true] := txA [] Tryz.func62
def Xn63_1 : C := regL [0, 1, 2, 3] none [qo 8 (.mv (qi 0)), qo 9 (.mv (qi 0)), qo 10 (.mv (qi 0))]
def Xn63_3 : C := regL [0, 1, 2, 3, 11] none [qo 11 (.mv (.func 91))]
def Xn63_7 : C := regL [0, 1, 2, 3, 12] none [qm 13 0, qo 14 (.call 93 [qt 13]), qn 15 14, qm 16 15, qM 17 11 16 false, qM 18 1 16 false, qg 19 (.callv (qt 17) [qt 18]) 16 false, qg 20 (.un .not (qt 19)) 16 false, qp 21 16 20, qm 22 21, qM 23 11 22 false, qM 24 2 22 false, qg 25 (.callv (qt 23) [qt 24]) 22 false, qg 26 (.un .not (qt 25)) 22 false, qp 27 22 26, qm 28 27, qM 29 11 28 false, qM 30 3 28 false, qg 31 (.callv (qt 29) [qt 30]) 28 false, qg 32 (.un .not (qt 31)) 28 false, qp 33 28 32, qm 12 33]
def Xn63_10 : C := regL [8, 9, 10] none [qo 8 (.mv (qi 0)), qo 9 (.mv (qi 0)), qo 10 (.mv (qi 3))]
def Xn63_9 : C := .seq Xn63_10 .ret
def Xn63_13 : C := regL [0, 1, 2, 3, 34] none [qm 35 1, qm 36 2, qb 37 2 .geq 35 36, qm 34 37]
def Xn63_16 : C := regL [8, 9, 10] none [qo 8 (.mv (qi 0)), qo 9 (.mv (qi 0)), qo 10 (.mv (qi 9))]
def Xn63_15 : C := .seq Xn63_16 .ret
def Xn63_19 : C := regL [0, 1, 2, 3, 38] none [qm 39 3, qm 40 1, qm 41 2, qo 42 (.call 92 [qt 39, qt 40, qt 41]), qn 43 42, qm 38 43]
def Xn63_22 : C := regL [8, 9, 10] none [qo 8 (.mv (qi 0)), qo 9 (.mv (qi 0)), qo 10 (.mv (qi 19))]
def Xn63_21 : C := .seq Xn63_22 .ret
def Xn63_20 : C := .cond (.tmp 38) Xn63_21 .skip
def Xn63_18 : C := .seq Xn63_19 Xn63_20
def Xn63_14 : C := .cond (.tmp 34) Xn63_15 Xn63_18
def Xn63_12 : C := .seq Xn63_13 Xn63_14
def Xn63_8 : C := .cond (.tmp 12) Xn63_9 Xn63_12
def Xn63_6 : C := .seq Xn63_7 Xn63_8
def Xn63_5 : C := .block 0 Xn63_6
def Xn63_26 : C := regL [8, 9, 10] none [qm 44 0, qm 45 2, qm 46 3, qb 47 2 .sub 45 46, qm 48 2, qm 49 1, qb 50 2 .sub 48 49, qo 51 (.bld (.agg #[.int .i64 0, .int .i64 0, .int .i64 0]) [(0, 1, qt 44), (1, 1, qt 47), (2, 1, qt 50)]), qo 52 (.call 94 [qt 51]), qm 53 0, qm 54 3, qm 55 1, qb 56 2 .sub 54 55, qm 57 2, qm 58 1, qb 59 2 .sub 57 58, qo 60 (.bld (.agg #[.int .i64 0, .int .i64 0, .int .i64 0]) [(0, 1, qt 53), (1, 1, qt 56), (2, 1, qt 59)]), qo 61 (.call 94 [qt 60]), qm 8 52, qm 9 61, qo 10 (.mv (qi 0))]
def Xn63_25 : C := .seq Xn63_26 .ret
def Xn63_4 : C := seqL [0, 1, 2, 3] Xn63_5 Xn63_25
def Xn63_2 : C := .seq Xn63_3 Xn63_4
def Xn63_0 : C := .seq Xn63_1 Xn63_2
theorem Xt63 : Text Tryz.prog 63 Xn63_0 62 4 [.t 8, .t 9, .t 10] := txA [] Tryz.func63
def Xn64_1 : C := regL [0] none [qo 2 (.mv (.const (.slice none 0 0))), qo 3 (.mv (qi 0))]
def Xn64_4 : C := regL [0, 4] none [qm 5 0, qo 6 (.bls 134 1 1 (.slice none 0 0) [(0, 1, qt 5)]), qo 7 (.call 95 [qt 6]), qm 4 7]
def Xn64_6 : C := regL [0, 4, 9] none [qm 8 4, qc 9 30 .neq 8 0]
def Xn64_9 : C := regL [2, 3] none [qm 10 4, qo 2 (.mv (.const (.slice none 0 0))), qm 3 10]
def Xn64_8 : C := .seq Xn64_9 .ret
def Xn64_7 : C := .cond (.tmp 9) Xn64_8 .skip
def Xn64_5 : C := .seq Xn64_6 Xn64_7
def Xn64_3 : C := .seq Xn64_4 Xn64_5
def Xn64_14 : C := regL [0, 13] none [qm 11 0, qw 12 11, qc 13 3 .eql 12 0]
def Xn64_17 : C := regL [2, 3] none [qo 2 (.mv (.const (.slice none 0 0))), qo 3 (.mv (qi 5))]
def Xn64_16 : C := .seq Xn64_17 .ret
def Xn64_15 : C := .cond (.tmp 13) Xn64_16 .skip
def Xn64_13 : C := .seq Xn64_14 Xn64_15
def Xn64_21 : C := regL [2, 3] none [qm 14 0, qo 15 (.call 96 [qt 14]), qm 2 15, qo 3 (.mv (qi 0))]
def Xn64_20 : C := .seq Xn64_21 .ret
def Xn64_12 : C := seqL [0] Xn64_13 Xn64_20
def Xn64_2 : C := seqL [0] Xn64_3 Xn64_12
def Xn64_0 : C := .seq Xn64_1 Xn64_2
theorem Xt64 : Text Tryz.prog 64 Xn64_0 16 1 [.t 2, .t 3] := txA [] Tryz.func64
def Xn65_1 : C := regL [0, 1] none [qo 4 (.mv (qi 0))]
def Xn65_4 : C := regL [0, 1, 7, 8] none [qm 6 0, qw 7 6, qo 8 (.mv (qi 0))]
def Xn65_8 : C := regL [0, 1, 7, 8, 9] none [qb 9 3 .lss 8 7]
def Xn65_10 : C := .cond (.tmp 9) .skip (.exit 0)
def Xn65_16 : C := regL [0, 1, 5, 7, 8] none [qm 10 8, qm 5 10]
def Xn65_18 : C := regL [0, 1, 5, 7, 8, 16] none [qm 11 1, qm 12 0, qm 13 5, qa 14 2 12 13, qL 15 40 2 14, qo 16 (.callv (qt 11) [qt 15])]
def Xn65_21 : C := regL [4] none [qm 17 5, qm 4 17]
def Xn65_20 : C := .seq Xn65_21 .ret
def Xn65_19 : C := .cond (.tmp 16) Xn65_20 .skip
def Xn65_17 : C := .seq Xn65_18 Xn65_19
def Xn65_15 : C := .seq Xn65_16 Xn65_17
def Xn65_14 : C := .block 1 Xn65_15
def Xn65_24 : C := regL [0, 1, 7, 8] none [qc 18 3 .add 8 1, qm 8 18]
def Xn65_13 : C := seqL [0, 1, 7, 8] Xn65_14 Xn65_24
def Xn65_9 : C := seqL [0, 1, 7, 8] Xn65_10 Xn65_13
def Xn65_7 : C := .seq Xn65_8 Xn65_9
def Xn65_6 : C := loopL [0, 1, 7, 8] Xn65_7
def Xn65_5 : C := .block 0 Xn65_6
def Xn65_3 : C := .seq Xn65_4 Xn65_5
def Xn65_26 : C := regL [4] none [qo 4 (.mv (qi (-1)))]
def Xn65_25 : C := .seq Xn65_26 .ret
def Xn65_2 : C := seqL [] Xn65_3 Xn65_25
def Xn65_0 : C := .seq Xn65_1 Xn65_2
theorem Xt65 : Text Tryz.prog 65 Xn65_0 19 2 [.t 4] := txA [] Tryz.func65
def Xn66_1 : C := regL [0] none [qo 2 (.mv (.const (.bool false)))]
def Xn66_3 : C := regL [2] none [qm 3 0, qm 4 0, qb 5 2 .neq 3 4, qm 2 5]
def Xn66_2 : C := .seq Xn66_3 .ret
def Xn66_0 : C := .seq Xn66_1 Xn66_2
theorem Xt66 : Text Tryz.prog 66 Xn66_0 6 1 [.t 2] := txA [] Tryz.func66
def Xn67_1 : C := regL [0, 1] none [qo 4 (.mv (.const (.bool false)))]
def Xn67_3 : C := regL [4] none [qm 5 0, qm 6 1, qo 7 (.call 97 [qt 5, qt 6]), qc 8 3 .geq 7 0, qm 4 8]
def Xn67_2 : C := .seq Xn67_3 .ret
def Xn67_0 : C := .seq Xn67_1 Xn67_2
theorem Xt67 : Text Tryz.prog 67 Xn67_0 9 2 [.t 4] := txA [] Tryz.func67
def Xn68_1 : C := regL [1] none [qx 1 55 0, qo 2 (.mv (.const (.bool false)))]
def Xn68_3 : C := regL [2] none [qf 3 0 1, ql 4 29 1 3, qw 5 4, qc 6 3 .gtr 5 16, qm 2 6]
def Xn68_2 : C := .seq Xn68_3 .ret
def Xn68_0 : C := .seq Xn68_1 Xn68_2
theorem Xt68 : Text Tryz.prog 68 Xn68_0 7 1 [.t 2] := txA [1] Tryz.func68
def Xn69_1 : C := regL [0, 1] none [qo 3 (.mv (.const (.bool false)))]
def Xn69_3 : C := regL [3] none [qm 4 0, qc 5 3 .geq 4 0, qm 6 5, qM 7 0 6 true, qh 8 0 1 6 true, qk 9 3 1 8 6 true, qg 10 (.bin 3 .lss (qt 7) (qt 9)) 6 true, qq 11 6 10, qm 3 11]
def Xn69_2 : C := .seq Xn69_3 .ret
def Xn69_0 : C := .seq Xn69_1 Xn69_2
theorem Xt69 : Text Tryz.prog 69 Xn69_0 12 2 [.t 3] := txA [] Tryz.func69
def Xn70_1 : C := regL [1, 2] none [qx 2 37 0, qo 3 (.mv (.const (.bool false)))]
def Xn70_3 : C := regL [1, 2, 4] none [qf 5 4 2, ql 6 2 1 5, qc 7 2 .geq 6 0, qm 8 7, qh 9 4 2 8 true, qk 10 2 1 9 8 true, qh 11 5 2 8 true, qk 12 2 1 11 8 true, qg 13 (.bin 2 .lss (qt 10) (qt 12)) 8 true, qq 14 8 13, qm 15 14, qh 16 5 2 15 true, qk 17 2 1 16 15 true, qg 18 (.bin 2 .leq (qt 17) (qi 1440)) 15 true, qq 19 15 18, qm 20 19, qh 21 3 2 20 true, qk 22 2 1 21 20 true, qh 23 5 2 20 true, qk 24 2 1 23 20 true, qh 25 4 2 20 true, qk 26 2 1 25 20 true, qg 27 (.bin 2 .sub (qt 24) (qt 26)) 20 true, qg 28 (.mn [qi 1440, qt 27]) 20 true, qg 29 (.call 24 [qt 22, qi 1, qt 28]) 20 true, qq 30 20 29, qm 4 30]
def Xn70_5 : C := regL [3] none [ql 31 107 1 1, qf 32 0 2, ql 33 3 1 32, qo 34 (.callv (qt 31) [qt 33]), qn 35 34, qm 36 35, qk 37 107 1 1 36 false, qh 38 1 2 36 false, qk 39 3 1 38 36 false, qg 40 (.callv (qt 37) [qt 39]) 36 false, qg 41 (.un .not (qt 40)) 36 false, qp 42 36 41, qm 43 42, qh 44 0 2 43 false, qk 45 3 1 44 43 false, qh 46 1 2 43 false, qk 47 3 1 46 43 false, qg 48 (.bin 3 .eql (qt 45) (qt 47)) 43 false, qp 49 43 48, qm 50 49, qh 51 2 2 50 false, qk 52 2 1 51 50 false, qg 53 (.call 24 [qt 52, qi 1, qi 1073741824]) 50 false, qg 54 (.un .not (qt 53)) 50 false, qp 55 50 54, qm 56 55, qM 57 4 56 false, qg 58 (.un .not (qt 57)) 56 false, qp 59 56 58, qm 60 59, qh 61 6 2 60 false, qg 62 (.ld 33 6 true (qt 61)) 60 false, qg 63 (.call 39 [qt 62]) 60 false, qg 64 (.bin 30 .neq (qt 63) (qi 0)) 60 false, qp 65 60 64, qm 3 65]
def Xn70_4 : C := .seq Xn70_5 .ret
def Xn70_2 : C := .seq Xn70_3 Xn70_4
def Xn70_0 : C := .seq Xn70_1 Xn70_2
theorem Xt70 : Text Tryz.prog 70 Xn70_0 66 2 [.t 3] := txA [2] Tryz.func70
def Xn71_1 : C := regL [1, 2] none [qx 2 55 0, qo 3 (.mv (.const (.bool false)))]
def Xn71_3 : C := regL [3] none [qf 4 0 2, ql 5 29 1 4, qw 6 5, qc 7 3 .eql 6 0, qm 8 7, qh 9 0 2 8 false, qk 10 29 1 9 8 false, qh 11 1 1 8 false, qk 12 24 1 11 8 false, qg 13 (.len (qt 12)) 8 false, qg 14 (.call 22 [qt 10, qt 13]) 8 false, qg 15 (.un .not (qt 14)) 8 false, qp 16 8 15, qm 17 16, qh 18 1 2 17 false, qk 19 3 1 18 17 false, qg 20 (.bin 3 .lss (qt 19) (qi 0)) 17 false, qp 21 17 20, qm 22 21, qh 23 1 2 22 false, qk 24 3 1 23 22 false, qg 25 (.bin 3 .gtr (qt 24) (qi 5)) 22 false, qp 26 22 25, qm 27 26, qh 28 2 2 27 false, qk 29 2 1 28 27 false, qg 30 (.call 24 [qt 29, qi 0, qi 1073741824]) 27 false, qg 31 (.un .not (qt 30)) 27 false, qp 32 27 31, qm 33 32, qh 34 3 2 33 false, qk 35 2 1 34 33 false, qg 36 (.call 24 [qt 35, qi 1, qi 1073741824]) 33 false, qg 37 (.un .not (qt 36)) 33 false, qp 38 33 37, qm 3 38]
def Xn71_2 : C := .seq Xn71_3 .ret
def Xn71_0 : C := .seq Xn71_1 Xn71_2
theorem Xt71 : Text Tryz.prog 71 Xn71_0 39 2 [.t 3] := txA [2] Tryz.func71
def Xn72_1 : C := regL [0, 1] none [qo 4 (.mv (.const (.bool false)))]
def Xn72_3 : C := regL [4] none [qm 5 0, qm 6 1, qo 7 (.call 56 [qt 5, qt 6]), qc 8 3 .geq 7 0, qm 4 8]
def Xn72_2 : C := .seq Xn72_3 .ret
def Xn72_0 : C := .seq Xn72_1 Xn72_2
theorem Xt72 : Text Tryz.prog 72 Xn72_0 9 2 [.t 4] := txA [] Tryz.func72
def Xn73_1 : C := regL [0, 1] none [qo 4 (.mv (.const (.bool false)))]
def Xn73_3 : C := regL [4] none [qm 5 0, qm 6 1, qo 7 (.call 98 [qt 5, qt 6]), qc 8 3 .geq 7 0, qm 4 8]
def Xn73_2 : C := .seq Xn73_3 .ret
def Xn73_0 : C := .seq Xn73_1 Xn73_2
theorem Xt73 : Text Tryz.prog 73 Xn73_0 9 2 [.t 4] := txA [] Tryz.func73
def Xn74_1 : C := regL [0] none [qo 2 (.mv (.const (.bool false)))]
def Xn74_3 : C := regL [2] none [qm 3 0, qo 4 (.call 24 [qt 3, qi 0, qi 1073741824]), qn 5 4, qm 2 5]
def Xn74_2 : C := .seq Xn74_3 .ret
def Xn74_0 : C := .seq Xn74_1 Xn74_2
theorem Xt74 : Text Tryz.prog 74 Xn74_0 6 1 [.t 2] := txA [] Tryz.func74
def Xn75_1 : C := regL [0, 1] none [qo 4 (.mv (qi 0))]
def Xn75_4 : C := regL [0, 1, 7, 8] none [qm 6 0, qw 7 6, qo 8 (.mv (qi 0))]
def Xn75_8 : C := regL [0, 1, 7, 8, 9] none [qb 9 3 .lss 8 7]
def Xn75_10 : C := .cond (.tmp 9) .skip (.exit 0)
def Xn75_16 : C := regL [0, 1, 5, 7, 8] none [qm 10 8, qm 5 10]
def Xn75_18 : C := regL [0, 1, 5, 7, 8, 16] none [qm 11 1, qm 12 0, qm 13 5, qa 14 1 12 13, ql 15 3 1 14, qo 16 (.callv (qt 11) [qt 15])]
def Xn75_21 : C := regL [4] none [qm 17 5, qm 4 17]
def Xn75_20 : C := .seq Xn75_21 .ret
def Xn75_19 : C := .cond (.tmp 16) Xn75_20 .skip
def Xn75_17 : C := .seq Xn75_18 Xn75_19
def Xn75_15 : C := .seq Xn75_16 Xn75_17
def Xn75_14 : C := .block 1 Xn75_15
def Xn75_24 : C := regL [0, 1, 7, 8] none [qc 18 3 .add 8 1, qm 8 18]
def Xn75_13 : C := seqL [0, 1, 7, 8] Xn75_14 Xn75_24
def Xn75_9 : C := seqL [0, 1, 7, 8] Xn75_10 Xn75_13
def Xn75_7 : C := .seq Xn75_8 Xn75_9
def Xn75_6 : C := loopL [0, 1, 7, 8] Xn75_7
def Xn75_5 : C := .block 0 Xn75_6
def Xn75_3 : C := .seq Xn75_4 Xn75_5
def Xn75_26 : C := regL [4] none [qo 4 (.mv (qi (-1)))]
def Xn75_25 : C := .seq Xn75_26 .ret
def Xn75_2 : C := seqL [] Xn75_3 Xn75_25
def Xn75_0 : C := .seq Xn75_1 Xn75_2
theorem Xt75 : Text Tryz.prog 75 Xn75_0 19 2 [.t 4] := txA [] Tryz.func75
def Xn76_1 : C := regL [0, 1] none [qo 4 (.mv (.const (.bool false)))]
def Xn76_3 : C := regL [4] none [qm 5 0, qm 6 1, qo 7 (.call 99 [qt 5, qt 6]), qc 8 3 .geq 7 0, qm 4 8]
def Xn76_2 : C := .seq Xn76_3 .ret
def Xn76_0 : C := .seq Xn76_1 Xn76_2
theorem Xt76 : Text Tryz.prog 76 Xn76_0 9 2 [.t 4] := txA [] Tryz.func76
def Xn77_1 : C := regL [1, 2] none [qx 2 163 0]
def Xn77_3 : C := regL [1, 2, 3] none [qo 3 (.alc 65 (.nilFunc))]
def Xn77_5 : C := regL [3] none [qo 4 (.mkf 78 [] [qt 2, qt 1, qt 3]), qs 65 1 3 4]
def Xn77_6 : C := regL [] none [ql 5 65 1 3, qo 6 (.callv (qt 5) [.const (.int .u64 0), qi 0])]
def Xn77_4 : C := .seq Xn77_5 Xn77_6
def Xn77_2 : C := .seq Xn77_3 Xn77_4
def Xn77_0 : C := .seq Xn77_1 Xn77_2
theorem Xt77 : Text Tryz.prog 77 Xn77_0 7 2 [] := txA [2] Tryz.func77
def Xn78_1 : C := regL [0, 1, 2, 3, 4] none [qo 7 (.mv (.const (.bool false)))]
def Xn78_4 : C := regL [0, 1, 3, 4, 12] none [ql 9 163 1 2, qm 10 0, qo 11 (.callv (qt 9) [qt 10]), qn 12 11]
def Xn78_7 : C := regL [7] none [qo 7 (.mv (.const (.bool false)))]
def Xn78_6 : C := .seq Xn78_7 .ret
def Xn78_5 : C := .cond (.tmp 12) Xn78_6 .skip
def Xn78_3 : C := .seq Xn78_4 Xn78_5
def Xn78_12 : C := regL [0, 3, 4, 8] none [qm 13 1, qm 8 13]
def Xn78_17 : C := regL [0, 3, 4, 8, 16] none [qm 14 8, ql 15 3 1 3, qb 16 3 .lss 14 15]
def Xn78_18 : C := .cond (.tmp 16) .skip (.exit 0)
def Xn78_16 : C := .seq Xn78_17 Xn78_18
def Xn78_24 : C := regL [0, 3, 4, 8, 27] (some [0, 0, 0, 4, 14, 0, 32, 127, 255]) [ql 19 65 1 4, qm 20 0, qm 21 8, qo 22 (.bin 61 .shl (.const (.int .u64 1)) (qt 21)), qb 23 61 .or 20 22, qm 24 8, qc 25 3 .add 24 1, qo 26 (.callv (qt 19) [qt 23, qt 25]), qn 27 26]
def Xn78_27 : C := regL [7] none [qo 7 (.mv (.const (.bool false)))]
def Xn78_26 : C := .seq Xn78_27 .ret
def Xn78_25 : C := .cond (.tmp 27) Xn78_26 .skip
def Xn78_23 : C := .seq Xn78_24 Xn78_25
def Xn78_22 : C := .block 1 Xn78_23
def Xn78_30 : C := regL [0, 3, 4, 8] none [qm 17 8, qc 18 3 .add 17 1, qm 8 18]
def Xn78_21 : C := seqL [0, 3, 4, 8] Xn78_22 Xn78_30
def Xn78_15 : C := seqL [0, 3, 4, 8] Xn78_16 Xn78_21
def Xn78_14 : C := loopL [0, 3, 4, 8] Xn78_15
def Xn78_13 : C := .block 0 Xn78_14
def Xn78_11 : C := .seq Xn78_12 Xn78_13
def Xn78_32 : C := regL [7] none [qo 7 (.mv (.const (.bool true)))]
def Xn78_31 : C := .seq Xn78_32 .ret
def Xn78_10 : C := seqL [] Xn78_11 Xn78_31
def Xn78_2 : C := seqL [0, 1, 3, 4] Xn78_3 Xn78_10
def Xn78_0 : C := .seq Xn78_1 Xn78_2
theorem Xt78 : Text Tryz.prog 78 Xn78_0 28 5 [.t 7] := txA [] Tryz.func78
def Xn79_1 : C := regL [0, 1, 2] none [qo 4 (.mv (qi 0))]
def Xn79_4 : C := regL [0, 1, 9] none [qL 5 57 9 1, ql 6 61 1 2, qm 7 0, qo 8 (.call 11 [qt 5, qt 6, qt 7]), qn 9 8]
def Xn79_7 : C := regL [4] none [qo 4 (.mv (qi (-1)))]
def Xn79_6 : C := .seq Xn79_7 .ret
def Xn79_5 : C := .cond (.tmp 9) Xn79_6 .skip
def Xn79_3 : C := .seq Xn79_4 Xn79_5
def Xn79_11 : C := regL [4] none [qf 10 0 1, qf 11 1 10, ql 12 24 1 11, qm 13 0, qa 14 12 12 13, qf 15 2 14, ql 16 2 1 15, qm 4 16]
def Xn79_10 : C := .seq Xn79_11 .ret
def Xn79_2 : C := seqL [0, 1] Xn79_3 Xn79_10
def Xn79_0 : C := .seq Xn79_1 Xn79_2
theorem Xt79 : Text Tryz.prog 79 Xn79_0 17 3 [.t 4] := txA [] Tryz.func79
def Xn80_1 : C := regL [1, 2] none [qo 2 (.box false 29 (qt 0)), qo 4 (.mv (.const (.slice none 0 0)))]
def Xn80_4 : C := regL [2, 6] none [qm 6 1]
def Xn80_7 : C := regL [2, 5] none [qm 5 7]
def Xn80_9 : C := regL [] none [ql 8 29 1 2, qm 9 5, qo 10 (.bls 3 1 1 (.int .i64 0) [(0, 1, qt 9)]), qo 11 (.app 3 1 8 (qt 8) (qt 10)), qs 29 1 2 11]
def Xn80_8 : C := .block 1 Xn80_9
def Xn80_6 : C := .rfn (.tmp 6) [7] Xn80_7 Xn80_8
def Xn80_5 : C := .block 0 Xn80_6
def Xn80_3 : C := .seq Xn80_4 Xn80_5
def Xn80_11 : C := regL [4] none [ql 12 29 1 2, qm 4 12]
def Xn80_10 : C := .seq Xn80_11 .ret
def Xn80_2 : C := seqL [2] Xn80_3 Xn80_10
def Xn80_0 : C := .seq Xn80_1 Xn80_2
theorem Xt80 : Text Tryz.prog 80 Xn80_0 13 2 [.t 4] := txA [] Tryz.func80
def Xn81_1 : C := regL [0, 1, 3] none [qo 3 (.mv (qi 0))]
def Xn81_6 : C := regL [0, 1, 3, 7] none [ql 4 61 1 1, qm 5 3, qb 6 61 .shr 4 5, qo 7 (.bin 61 .neq (qt 6) (.const (.int .u64 0)))]
def Xn81_7 : C := .cond (.tmp 7) .skip (.exit 0)
def Xn81_5 : C := .seq Xn81_6 Xn81_7
def Xn81_13 : C := regL [0, 1, 3, 20] none [ql 10 61 1 1, qm 11 3, qb 12 61 .shr 10 11, qo 13 (.bin 61 .and (qt 12) (.const (.int .u64 1))), qo 14 (.bin 61 .eql (qt 13) (.const (.int .u64 1))), qm 15 14, qM 16 0 15 true, qM 17 3 15 true, qg 18 (.callv (qt 16) [qt 17]) 15 true, qg 19 (.un .not (qt 18)) 15 true, qq 20 15 19]
def Xn81_14 : C := .cond (.tmp 20) .ret .skip
def Xn81_12 : C := .seq Xn81_13 Xn81_14
def Xn81_11 : C := .block 1 Xn81_12
def Xn81_17 : C := regL [0, 1, 3] none [qm 8 3, qc 9 3 .add 8 1, qm 3 9]
def Xn81_10 : C := seqL [0, 1, 3] Xn81_11 Xn81_17
def Xn81_4 : C := seqL [0, 1, 3] Xn81_5 Xn81_10
def Xn81_3 : C := loopL [0, 1, 3] Xn81_4
def Xn81_2 : C := .block 0 Xn81_3
def Xn81_0 : C := .seq Xn81_1 Xn81_2
theorem Xt81 : Text Tryz.prog 81 Xn81_0 21 2 [] := txA [] Tryz.func81
def Xn82_1 : C := regL [1] none [qx 1 141 0, qo 2 (.mv (qi 0))]
def Xn82_4 : C := regL [1, 11] none [qf 3 1 1, ql 4 139 1 3, qw 5 4, qc 6 3 .gtr 5 12, qm 7 6, qh 8 1 1 7 false, qk 9 139 1 8 7 false, qg 10 (.call 100 [qt 9, .func 101]) 7 false, qp 11 7 10]
def Xn82_7 : C := regL [2] none [qo 2 (.mv (qi 6))]
def Xn82_6 : C := .seq Xn82_7 .ret
def Xn82_5 : C := .cond (.tmp 11) Xn82_6 .skip
def Xn82_3 : C := .seq Xn82_4 Xn82_5
def Xn82_12 : C := regL [1, 49] none [qf 12 0 1, ql 13 9 1 12, qo 14 (.call 102 [qt 13]), qn 15 14, qm 16 15, qh 17 1 1 16 false, qk 18 139 1 17 16 false, qg 19 (.len (qt 18)) 16 false, qg 20 (.bin 3 .eql (qt 19) (qi 0)) 16 false, qp 21 16 20, qm 22 21, qh 23 1 1 22 false, qk 24 139 1 23 22 false, qg 25 (.ia 11 (qt 24) (qi 0)) 22 false, qh 26 0 25 22 false, qk 27 3 1 26 22 false, qg 28 (.bin 3 .neq (qt 27) (qi 0)) 22 false, qp 29 22 28, qm 30 29, qh 31 2 1 30 false, qk 32 3 1 31 30 false, qg 33 (.bin 3 .lss (qt 32) (qi 0)) 30 false, qp 34 30 33, qm 35 34, qh 36 2 1 35 false, qk 37 3 1 36 35 false, qh 38 3 1 35 false, qk 39 3 1 38 35 false, qg 40 (.bin 3 .gtr (qt 37) (qt 39)) 35 false, qp 41 35 40, qm 42 41, qh 43 3 1 42 false, qk 44 3 1 43 42 false, qh 45 1 1 42 false, qk 46 139 1 45 42 false, qg 47 (.len (qt 46)) 42 false, qg 48 (.bin 3 .geq (qt 44) (qt 47)) 42 false, qp 49 42 48]
def Xn82_15 : C := regL [2] none [qo 2 (.mv (qi 2))]
def Xn82_14 : C := .seq Xn82_15 .ret
def Xn82_13 : C := .cond (.tmp 49) Xn82_14 .skip
def Xn82_11 : C := .seq Xn82_12 Xn82_13
def Xn82_20 : C := regL [52] none [qf 50 1 1, ql 51 139 1 50, qo 52 (.call 100 [qt 51, .func 103])]
def Xn82_23 : C := regL [2] none [qo 2 (.mv (qi 2))]
def Xn82_22 : C := .seq Xn82_23 .ret
def Xn82_21 : C := .cond (.tmp 52) Xn82_22 .skip
def Xn82_19 : C := .seq Xn82_20 Xn82_21
def Xn82_27 : C := regL [2] none [qo 2 (.mv (qi 0))]
def Xn82_26 : C := .seq Xn82_27 .ret
def Xn82_18 : C := seqL [] Xn82_19 Xn82_26
def Xn82_10 : C := seqL [1] Xn82_11 Xn82_18
def Xn82_2 : C := seqL [1] Xn82_3 Xn82_10
def Xn82_0 : C := .seq Xn82_1 Xn82_2
theorem Xt82 : Text Tryz.prog 82 Xn82_0 53 1 [.t 2] := txA [1] Tryz.func82
def Xn83_1 : C := regL [1] none [qx 1 133 0, qo 2 (.mv (qi 0))]
def Xn83_4 : C := regL [6] none [qL 3 133 2 1, qo 4 (.bls 133 2 1 (.agg #[.int .i64 0, .int .i64 0]) [(0, 2, qt 3)]), qo 5 (.call 105 [qt 4]), qn 6 5]
def Xn83_7 : C := regL [2] none [qo 2 (.mv (qi 2))]
def Xn83_6 : C := .seq Xn83_7 .ret
def Xn83_5 : C := .cond (.tmp 6) Xn83_6 .skip
def Xn83_3 : C := .seq Xn83_4 Xn83_5
def Xn83_11 : C := regL [2] none [qo 2 (.mv (qi 0))]
def Xn83_10 : C := .seq Xn83_11 .ret
def Xn83_2 : C := seqL [] Xn83_3 Xn83_10
def Xn83_0 : C := .seq Xn83_1 Xn83_2
theorem Xt83 : Text Tryz.prog 83 Xn83_0 7 1 [.t 2] := txA [1] Tryz.func83
def Xn84_1 : C := regL [2, 3, 4, 6] none [qx 3 133 0, qx 4 133 1, qo 6 (.alc 133 (.agg #[.int .i64 0, .int .i64 0])), qo 7 (.mv (qi 0))]
def Xn84_4 : C := regL [2, 3, 4, 6, 12] none [qL 8 133 2 4, qL 9 133 2 3, qo 10 (.bls 133 2 2 (.agg #[.int .i64 0, .int .i64 0]) [(0, 2, qt 8), (2, 2, qt 9)]), qo 11 (.call 105 [qt 10]), qn 12 11]
def Xn84_7 : C := regL [6, 7] none [qo 13 (.bld (.agg #[.int .i64 0, .int .i64 0]) []), qs 133 2 6 13, qo 7 (.mv (qi 2))]
def Xn84_6 : C := .seq Xn84_7 .ret
def Xn84_5 : C := .cond (.tmp 12) Xn84_6 .skip
def Xn84_3 : C := .seq Xn84_4 Xn84_5
def Xn84_12 : C := regL [2, 3, 4, 6, 16] none [qm 14 2, qo 15 (.call 106 [qt 14, qi 1, qi 16777216]), qn 16 15]
def Xn84_15 : C := regL [6, 7] none [qo 17 (.bld (.agg #[.int .i64 0, .int .i64 0]) []), qs 133 2 6 17, qo 7 (.mv (qi 3))]
def Xn84_14 : C := .seq Xn84_15 .ret
def Xn84_13 : C := .cond (.tmp 16) Xn84_14 .skip
def Xn84_11 : C := .seq Xn84_12 Xn84_13
def Xn84_19 : C := regL [6, 7] none [qL 18 133 2 3, qL 19 133 2 4, qm 20 2, qo 21 (.call 107 [qt 18, qt 19, qt 20, qi 0]), qe 22 0 21, qe 23 1 21, qs 133 2 6 22, qm 7 23]
def Xn84_18 : C := .seq Xn84_19 .ret
def Xn84_10 : C := seqL [2, 3, 4, 6] Xn84_11 Xn84_18
def Xn84_2 : C := seqL [2, 3, 4, 6] Xn84_3 Xn84_10
def Xn84_0 : C := .seq Xn84_1 Xn84_2
theorem Xt84 : Text Tryz.prog 84 Xn84_0 24 3 [.c 6 2 true, .t 7] := txA [3, 4] Tryz.func84
def Xn85_1 : C := regL [1] none [qx 1 171 0, qo 2 (.mv (qi 0))]
def Xn85_3 : C := regL [2] none [qf 3 0 1, qf 4 1 3, ql 5 2 1 4, qf 6 0 1, qf 7 8 6, ql 8 2 1 7, qo 9 (.bin 2 .sub (qi 1000) (qt 8)), qb 10 2 .mul 5 9, qc 11 2 .quo 10 1000, qm 2 11]
def Xn85_2 : C := .seq Xn85_3 .ret
def Xn85_0 : C := .seq Xn85_1 Xn85_2
theorem Xt85 : Text Tryz.prog 85 Xn85_0 12 1 [.t 2] := txA [1] Tryz.func85
def Xn86_1 : C := regL [1, 2, 3, 6] none [qx 3 176 0, qo 6 (.alc 133 (.agg #[.int .i64 0, .int .i64 0])), qo 7 (.mv (qi 0))]
def Xn86_3 : C := regL [6, 7] none [qf 8 13 3, qL 9 133 2 8, qf 10 11 3, qL 11 133 2 10, qm 12 1, qm 13 2, qo 14 (.call 108 [qt 9, qt 11, qt 12, qt 13]), qe 15 0 14, qe 16 1 14, qs 133 2 6 15, qm 7 16]
def Xn86_2 : C := .seq Xn86_3 .ret
def Xn86_0 : C := .seq Xn86_1 Xn86_2
theorem Xt86 : Text Tryz.prog 86 Xn86_0 17 3 [.c 6 2 true, .t 7] := txA [3] Tryz.func86
def Xn87_1 : C := regL [1] none [qx 1 171 0, qo 2 (.mv (qi 0))]
def Xn87_3 : C := regL [2] (some [0, 1, 0, 4, 12, 31, 0, 64, 192, 511, 1023]) [qL 3 171 11 1, qo 4 (.call 85 [qt 3]), qf 5 0 1, qf 6 1 5, ql 7 2 1 6, qb 8 2 .sub 4 7, qf 9 0 1, qf 10 2 9, ql 11 2 1 10, qb 12 2 .sub 8 11, qm 2 12]
def Xn87_2 : C := .seq Xn87_3 .ret
def Xn87_0 : C := .seq Xn87_1 Xn87_2
theorem Xt87 : Text Tryz.prog 87 Xn87_0 13 1 [.t 2] := txA [1] Tryz.func87
def Xn88_1 : C := regL [2, 3, 4] none [qx 2 141 0, qx 3 136 1, qo 4 (.alc 136 (.agg #[.int .i64 0, .int .i64 0, .slice none 0 0])), qo 5 (.mv (qi 0))]
def Xn88_4 : C := regL [3, 4, 7] none [qL 9 141 4 2, qL 10 136 3 3, qo 11 (.call 109 [qt 9, qt 10]), qm 8 11, qe 12 0 8, qe 13 1 8, qm 6 12, qm 7 13]
def Xn88_6 : C := regL [3, 4, 15] none [qm 14 7, qc 15 30 .neq 14 0]
def Xn88_9 : C := regL [4, 5] none [qo 16 (.bld (.agg #[.int .i64 0, .int .i64 0, .slice none 0 0]) []), qs 136 3 4 16, qo 5 (.mv (qi 9))]
def Xn88_8 : C := .seq Xn88_9 .ret
def Xn88_7 : C := .cond (.tmp 15) Xn88_8 .skip
def Xn88_5 : C := .seq Xn88_6 Xn88_7
def Xn88_3 : C := .seq Xn88_4 Xn88_5
def Xn88_13 : C := regL [4, 5] none [qL 17 136 3 3, qs 136 3 4 17, qo 5 (.mv (qi 0))]
def Xn88_12 : C := .seq Xn88_13 .ret
def Xn88_2 : C := seqL [3, 4] Xn88_3 Xn88_12
def Xn88_0 : C := .seq Xn88_1 Xn88_2
theorem Xt88 : Text Tryz.prog 88 Xn88_0 18 2 [.c 4 3 true, .t 5] := txA [2, 3] Tryz.func88
def Xn89_1 : C := regL [1] none [qx 1 147 0, qo 2 (.mv (qi 0))]
def Xn89_4 : C := regL [1, 22] none [qf 7 1 1, ql 8 144 1 7, qw 9 8, qc 10 3 .lss 9 1, qm 11 10, qh 12 1 1 11 false, qk 13 144 1 12 11 false, qg 14 (.len (qt 13)) 11 false, qg 15 (.bin 3 .gtr (qt 14) (qi 32)) 11 false, qp 16 11 15, qm 17 16, qh 18 2 1 17 false, qk 19 145 1 18 17 false, qg 20 (.len (qt 19)) 17 false, qg 21 (.bin 3 .gtr (qt 20) (qi 32)) 17 false, qp 22 17 21]
def Xn89_7 : C := regL [2] none [qo 2 (.mv (qi 6))]
def Xn89_6 : C := .seq Xn89_7 .ret
def Xn89_5 : C := .cond (.tmp 22) Xn89_6 .skip
def Xn89_3 : C := .seq Xn89_4 Xn89_5
def Xn89_12 : C := regL [1, 32] none [qf 23 0 1, ql 24 9 1 23, qo 25 (.call 110 [qt 24]), qn 26 25, qm 27 26, qh 28 3 1 27 false, qk 29 2 1 28 27 false, qg 30 (.call 111 [qt 29, qi 0, qi 1000]) 27 false, qg 31 (.un .not (qt 30)) 27 false, qp 32 27 31]
def Xn89_15 : C := regL [2] none [qo 2 (.mv (qi 2))]
def Xn89_14 : C := .seq Xn89_15 .ret
def Xn89_13 : C := .cond (.tmp 32) Xn89_14 .skip
def Xn89_11 : C := .seq Xn89_12 Xn89_13
def Xn89_20 : C := regL [1, 34, 35, 36] none [qf 33 1 1, ql 34 144 1 33, qw 35 34, qo 36 (.mv (qi 0))]
def Xn89_24 : C := regL [1, 34, 35, 36, 37] none [qb 37 3 .lss 36 35]
def Xn89_26 : C := .cond (.tmp 37) .skip (.exit 0)
def Xn89_32 : C := regL [1, 4, 34, 35, 36] none [qa 38 7 34 36, qL 39 186 7 38, qo 4 (.alc 186 (.agg #[.int .i64 0, .int .i64 0, .int .i64 0, .int .i64 0, .int .i64 0, .int .i64 0, .int .i64 0])), qs 186 7 4 39]
def Xn89_34 : C := regL [1, 34, 35, 36, 42] none [qL 40 186 7 4, qo 41 (.call 112 [qt 40]), qn 42 41]
def Xn89_37 : C := regL [2] none [qo 2 (.mv (qi 2))]
def Xn89_36 : C := .seq Xn89_37 .ret
def Xn89_35 : C := .cond (.tmp 42) Xn89_36 .skip
def Xn89_33 : C := .seq Xn89_34 Xn89_35
def Xn89_31 : C := .seq Xn89_32 Xn89_33
def Xn89_30 : C := .block 1 Xn89_31
def Xn89_40 : C := regL [1, 34, 35, 36] none [qc 43 3 .add 36 1, qm 36 43]
def Xn89_29 : C := seqL [1, 34, 35, 36] Xn89_30 Xn89_40
def Xn89_25 : C := seqL [1, 34, 35, 36] Xn89_26 Xn89_29
def Xn89_23 : C := .seq Xn89_24 Xn89_25
def Xn89_22 : C := loopL [1, 34, 35, 36] Xn89_23
def Xn89_21 : C := .block 0 Xn89_22
def Xn89_19 : C := .seq Xn89_20 Xn89_21
def Xn89_43 : C := regL [1, 45, 46, 47] none [qf 44 2 1, ql 45 145 1 44, qw 46 45, qo 47 (.mv (qi 0))]
def Xn89_47 : C := regL [1, 45, 46, 47, 48] none [qb 48 3 .lss 47 46]
def Xn89_49 : C := .cond (.tmp 48) .skip (.exit 2)
def Xn89_55 : C := regL [1, 6, 45, 46, 47] none [qa 49 4 45 47, qL 50 204 4 49, qo 6 (.alc 204 (.agg #[.int .i64 0, .int .i64 0, .int .i64 0, .int .i64 0])), qs 204 4 6 50]
def Xn89_57 : C := regL [1, 45, 46, 47, 53] none [qL 51 204 4 6, qo 52 (.call 113 [qt 51]), qn 53 52]
def Xn89_60 : C := regL [2] none [qo 2 (.mv (qi 2))]
def Xn89_59 : C := .seq Xn89_60 .ret
def Xn89_58 : C := .cond (.tmp 53) Xn89_59 .skip
def Xn89_56 : C := .seq Xn89_57 Xn89_58
def Xn89_54 : C := .seq Xn89_55 Xn89_56
def Xn89_53 : C := .block 3 Xn89_54
def Xn89_63 : C := regL [1, 45, 46, 47] none [qc 54 3 .add 47 1, qm 47 54]
def Xn89_52 : C := seqL [1, 45, 46, 47] Xn89_53 Xn89_63
def Xn89_48 : C := seqL [1, 45, 46, 47] Xn89_49 Xn89_52
def Xn89_46 : C := .seq Xn89_47 Xn89_48
def Xn89_45 : C := loopL [1, 45, 46, 47] Xn89_46
def Xn89_44 : C := .block 2 Xn89_45
def Xn89_42 : C := .seq Xn89_43 Xn89_44
def Xn89_66 : C := regL [60] none [qf 55 1 1, ql 56 144 1 55, qo 57 (.call 90 [qt 56]), qo 58 (.fl 0 1 false (qt 57)), qo 59 (.call 111 [qt 58, qi 1, qi 16777216]), qn 60 59]
def Xn89_69 : C := regL [2] none [qo 2 (.mv (qi 2))]
def Xn89_68 : C := .seq Xn89_69 .ret
def Xn89_67 : C := .cond (.tmp 60) Xn89_68 .skip
def Xn89_65 : C := .seq Xn89_66 Xn89_67
def Xn89_73 : C := regL [2] none [qo 2 (.mv (qi 0))]
def Xn89_72 : C := .seq Xn89_73 .ret
def Xn89_64 : C := seqL [] Xn89_65 Xn89_72
def Xn89_41 : C := seqL [1] Xn89_42 Xn89_64
def Xn89_18 : C := seqL [1] Xn89_19 Xn89_41
def Xn89_10 : C := seqL [1] Xn89_11 Xn89_18
def Xn89_2 : C := seqL [1] Xn89_3 Xn89_10
def Xn89_0 : C := .seq Xn89_1 Xn89_2
theorem Xt89 : Text Tryz.prog 89 Xn89_0 61 1 [.t 2] := txA [1] Tryz.func89
def Xn90_1 : C := regL [0, 2] none [qo 2 (.alc 183 (.agg #[.int .i64 0, .int .i64 0, .int .i64 0, .int .i64 0]))]
def Xn90_4 : C := regL [2, 5, 6, 7] none [qm 5 0, qw 6 5, qo 7 (.mv (qi 0))]
def Xn90_8 : C := regL [2, 5, 6, 7, 8] none [qb 8 3 .lss 7 6]
def Xn90_10 : C := .cond (.tmp 8) .skip (.exit 0)
def Xn90_16 : C := regL [2, 4, 5, 6, 7] none [qa 9 7 5 7, qL 10 186 7 9, qo 4 (.alc 186 (.agg #[.int .i64 0, .int .i64 0, .int .i64 0, .int .i64 0, .int .i64 0, .int .i64 0, .int .i64 0])), qs 186 7 4 10]
def Xn90_17 : C := regL [2, 5, 6, 7] none [qL 11 186 7 4, qo 12 (.call 114 [qt 2, qt 11])]
def Xn90_15 : C := .seq Xn90_16 Xn90_17
def Xn90_14 : C := .block 1 Xn90_15
def Xn90_18 : C := regL [2, 5, 6, 7] none [qc 13 3 .add 7 1, qm 7 13]
def Xn90_13 : C := seqL [2, 5, 6, 7] Xn90_14 Xn90_18
def Xn90_9 : C := seqL [2, 5, 6, 7] Xn90_10 Xn90_13
def Xn90_7 : C := .seq Xn90_8 Xn90_9
def Xn90_6 : C := loopL [2, 5, 6, 7] Xn90_7
def Xn90_5 : C := .block 0 Xn90_6
def Xn90_3 : C := .seq Xn90_4 Xn90_5
def Xn90_20 : C := regL [2] none [qL 14 183 4 2, qs 183 4 2 14]
def Xn90_19 : C := .seq Xn90_20 .ret
def Xn90_2 : C := seqL [2] Xn90_3 Xn90_19
def Xn90_0 : C := .seq Xn90_1 Xn90_2
theorem Xt90 : Text Tryz.prog 90 Xn90_0 15 1 [.c 2 4 true] := txA [] Tryz.func90
def Xn91_1 : C := regL [0] none [qo 2 (.mv (.const (.bool false)))]
def Xn91_3 : C := regL [2] none [qm 3 0, qo 4 (.call 92 [qt 3, qi (-16777216), qi 16777216]), qm 2 4]
def Xn91_2 : C := .seq Xn91_3 .ret
def Xn91_0 : C := .seq Xn91_1 Xn91_2
theorem Xt91 : Text Tryz.prog 91 Xn91_0 5 1 [.t 2] := txA [] Tryz.func91
def Xn92_1 : C := regL [0, 1, 2] none [qo 6 (.mv (.const (.bool false)))]
def Xn92_3 : C := regL [6] none [qm 7 0, qm 8 1, qb 9 2 .geq 7 8, qm 10 9, qM 11 0 10 true, qM 12 2 10 true, qg 13 (.bin 2 .leq (qt 11) (qt 12)) 10 true, qq 14 10 13, qm 6 14]
def Xn92_2 : C := .seq Xn92_3 .ret
def Xn92_0 : C := .seq Xn92_1 Xn92_2
theorem Xt92 : Text Tryz.prog 92 Xn92_0 15 3 [.t 6] := txA [] Tryz.func92
def Xn93_1 : C := regL [0] none [qo 2 (.mv (.const (.bool false)))]
def Xn93_3 : C := regL [2] none [qm 3 0, qo 4 (.call 92 [qt 3, qi 1, qi 16777216]), qm 2 4]
def Xn93_2 : C := .seq Xn93_3 .ret
def Xn93_0 : C := .seq Xn93_1 Xn93_2
theorem Xt93 : Text Tryz.prog 93 Xn93_0 5 1 [.t 2] := txA [] Tryz.func93
def Xn94_1 : C := regL [1] none [qx 1 188 0, qo 2 (.mv (qi 0))]
def Xn94_3 : C := regL [2] none [qf 3 0 1, ql 4 2 1 3, qo 5 (.un .neg (qt 4)), qf 6 1 1, ql 7 2 1 6, qf 8 2 1, ql 9 2 1 8, qo 10 (.bld (.agg #[.int .i64 0, .int .i64 0, .int .i64 0]) [(0, 1, qt 5), (1, 1, qt 7), (2, 1, qt 9)]), qo 11 (.call 115 [qt 10]), qo 12 (.un .neg (qt 11)), qm 2 12]
def Xn94_2 : C := .seq Xn94_3 .ret
def Xn94_0 : C := .seq Xn94_1 Xn94_2
theorem Xt94 : Text Tryz.prog 94 Xn94_0 13 1 [.t 2] := txA [1] Tryz.func94
def Xn95_1 : C := regL [0] none [qo 2 (.mv (qi 0))]
def Xn95_4 : C := regL [0, 7, 8, 9] none [qm 7 0, qw 8 7, qo 9 (.mv (qi 0))]
def Xn95_8 : C := regL [0, 7, 8, 9, 10] none [qb 10 3 .lss 9 8]
def Xn95_10 : C := .cond (.tmp 10) .skip (.exit 0)
def Xn95_16 : C := regL [0, 4, 7, 8, 9] none [qa 11 1 7 9, ql 12 134 1 11, qm 4 12]
def Xn95_18 : C := regL [0, 7, 8, 9, 15] none [qm 13 4, qw 14 13, qc 15 3 .gtr 14 256]
def Xn95_21 : C := regL [2] none [qo 2 (.mv (qi 6))]
def Xn95_20 : C := .seq Xn95_21 .ret
def Xn95_19 : C := .cond (.tmp 15) Xn95_20 .skip
def Xn95_17 : C := .seq Xn95_18 Xn95_19
def Xn95_15 : C := .seq Xn95_16 Xn95_17
def Xn95_14 : C := .block 1 Xn95_15
def Xn95_24 : C := regL [0, 7, 8, 9] none [qc 16 3 .add 9 1, qm 9 16]
def Xn95_13 : C := seqL [0, 7, 8, 9] Xn95_14 Xn95_24
def Xn95_9 : C := seqL [0, 7, 8, 9] Xn95_10 Xn95_13
def Xn95_7 : C := .seq Xn95_8 Xn95_9
def Xn95_6 : C := loopL [0, 7, 8, 9] Xn95_7
def Xn95_5 : C := .block 0 Xn95_6
def Xn95_3 : C := .seq Xn95_4 Xn95_5
def Xn95_27 : C := regL [17, 18, 19] none [qm 17 0, qw 18 17, qo 19 (.mv (qi 0))]
def Xn95_31 : C := regL [17, 18, 19, 20] none [qb 20 3 .lss 19 18]
def Xn95_33 : C := .cond (.tmp 20) .skip (.exit 2)
def Xn95_39 : C := regL [6, 17, 18, 19] none [qa 21 1 17 19, ql 22 134 1 21, qm 6 22]
def Xn95_41 : C := regL [17, 18, 19, 25] none [qm 23 6, qo 24 (.call 105 [qt 23]), qn 25 24]
def Xn95_44 : C := regL [2] none [qo 2 (.mv (qi 2))]
def Xn95_43 : C := .seq Xn95_44 .ret
def Xn95_42 : C := .cond (.tmp 25) Xn95_43 .skip
def Xn95_40 : C := .seq Xn95_41 Xn95_42
def Xn95_38 : C := .seq Xn95_39 Xn95_40
def Xn95_37 : C := .block 3 Xn95_38
def Xn95_47 : C := regL [17, 18, 19] none [qc 26 3 .add 19 1, qm 19 26]
def Xn95_36 : C := seqL [17, 18, 19] Xn95_37 Xn95_47
def Xn95_32 : C := seqL [17, 18, 19] Xn95_33 Xn95_36
def Xn95_30 : C := .seq Xn95_31 Xn95_32
def Xn95_29 : C := loopL [17, 18, 19] Xn95_30
def Xn95_28 : C := .block 2 Xn95_29
def Xn95_26 : C := .seq Xn95_27 Xn95_28
def Xn95_49 : C := regL [2] none [qo 2 (.mv (qi 0))]
def Xn95_48 : C := .seq Xn95_49 .ret
def Xn95_25 : C := seqL [] Xn95_26 Xn95_48
def Xn95_2 : C := seqL [0] Xn95_3 Xn95_25
def Xn95_0 : C := .seq Xn95_1 Xn95_2
theorem Xt95 : Text Tryz.prog 95 Xn95_0 27 1 [.t 2] := txA [] Tryz.func95
def Xn96_1 : C := regL [0] none [qo 2 (.mv (.const (.slice none 0 0)))]
def Xn96_3 : C := regL [3] none [qm 7 0, qo 8 (.call 116 [qt 7]), qm 3 8]
def Xn96_5 : C := regL [3] none [qm 9 3, qo 10 (.call 117 [qt 9, .func 118])]
def Xn96_7 : C := regL [3] none [qm 11 3, qo 12 (.call 119 [qt 11]), qm 3 12]
def Xn96_10 : C := regL [3, 15] none [qm 13 3, qw 14 13, qc 15 3 .lss 14 2]
def Xn96_13 : C := regL [2] none [qm 16 3, qm 2 16]
def Xn96_12 : C := .seq Xn96_13 .ret
def Xn96_11 : C := .cond (.tmp 15) Xn96_12 .skip
def Xn96_9 : C := .seq Xn96_10 Xn96_11
def Xn96_17 : C := regL [3, 4] none [qo 4 (.mv (.func 120))]
def Xn96_19 : C := regL [3, 4, 5] none [qm 17 3, qo 18 (.call 123 [qt 17]), qm 19 4, qo 20 (.call 122 [qt 18, qt 19]), qm 5 20]
def Xn96_21 : C := regL [3, 4, 5] none [qm 21 3, qo 22 (.call 124 [qt 21])]
def Xn96_23 : C := regL [5, 6] none [qm 23 3, qo 24 (.call 123 [qt 23]), qm 25 4, qo 26 (.call 122 [qt 24, qt 25]), qm 6 26]
def Xn96_25 : C := regL [2] (some [0, 0, 2, 6, 15, 0, 0, 64, 192, 480, 1023, 2047]) [qm 27 5, qm 28 5, qw 29 28, qc 30 3 .sub 29 1, qo 31 (.slc 134 2 (qt 27) none (some (qt 30))), qm 32 6, qm 33 6, qw 34 33, qc 35 3 .sub 34 1, qo 36 (.slc 134 2 (qt 32) none (some (qt 35))), qo 37 (.app 133 2 16 (qt 31) (qt 36)), qm 2 37]
def Xn96_24 : C := .seq Xn96_25 .ret
def Xn96_22 : C := .seq Xn96_23 Xn96_24
def Xn96_20 : C := .seq Xn96_21 Xn96_22
def Xn96_18 : C := .seq Xn96_19 Xn96_20
def Xn96_16 : C := .seq Xn96_17 Xn96_18
def Xn96_8 : C := seqL [3] Xn96_9 Xn96_16
def Xn96_6 : C := .seq Xn96_7 Xn96_8
def Xn96_4 : C := .seq Xn96_5 Xn96_6
def Xn96_2 : C := .seq Xn96_3 Xn96_4
def Xn96_0 : C := .seq Xn96_1 Xn96_2
theorem Xt96 : Text Tryz.prog 96 Xn96_0 38 1 [.t 2] := txA [] Tryz.func96
def Xn97_1 : C := regL [0, 1] none [qo 4 (.mv (qi 0))]
def Xn97_4 : C := regL [0, 1, 7, 8] none [qm 6 0, qw 7 6, qo 8 (.mv (qi 0))]
def Xn97_8 : C := regL [0, 1, 7, 8, 9] none [qb 9 3 .lss 8 7]
def Xn97_10 : C := .cond (.tmp 9) .skip (.exit 0)
def Xn97_16 : C := regL [0, 1, 5, 7, 8] none [qm 10 8, qm 5 10]
def Xn97_18 : C := regL [0, 1, 5, 7, 8, 16] none [qm 11 1, qm 12 0, qm 13 5, qa 14 4 12 13, qL 15 55 4 14, qo 16 (.callv (qt 11) [qt 15])]
def Xn97_21 : C := regL [4] none [qm 17 5, qm 4 17]
def Xn97_20 : C := .seq Xn97_21 .ret
def Xn97_19 : C := .cond (.tmp 16) Xn97_20 .skip
def Xn97_17 : C := .seq Xn97_18 Xn97_19
def Xn97_15 : C := .seq Xn97_16 Xn97_17
def Xn97_14 : C := .block 1 Xn97_15
def Xn97_24 : C := regL [0, 1, 7, 8] none [qc 18 3 .add 8 1, qm 8 18]
def Xn97_13 : C := seqL [0, 1, 7, 8] Xn97_14 Xn97_24
def Xn97_9 : C := seqL [0, 1, 7, 8] Xn97_10 Xn97_13
def Xn97_7 : C := .seq Xn97_8 Xn97_9
def Xn97_6 : C := loopL [0, 1, 7, 8] Xn97_7
def Xn97_5 : C := .block 0 Xn97_6
def Xn97_3 : C := .seq Xn97_4 Xn97_5
def Xn97_26 : C := regL [4] none [qo 4 (.mv (qi (-1)))]
def Xn97_25 : C := .seq Xn97_26 .ret
def Xn97_2 : C := seqL [] Xn97_3 Xn97_25
def Xn97_0 : C := .seq Xn97_1 Xn97_2
theorem Xt97 : Text Tryz.prog 97 Xn97_0 19 2 [.t 4] := txA [] Tryz.func97
def Xn98_1 : C := regL [0, 1] none [qo 4 (.mv (qi 0))]
def Xn98_4 : C := regL [0, 1, 7, 8] none [qm 6 0, qw 7 6, qo 8 (.mv (qi 0))]
def Xn98_8 : C := regL [0, 1, 7, 8, 9] none [qb 9 3 .lss 8 7]
def Xn98_10 : C := .cond (.tmp 9) .skip (.exit 0)
def Xn98_16 : C := regL [0, 1, 5, 7, 8] none [qm 10 8, qm 5 10]
def Xn98_18 : C := regL [0, 1, 5, 7, 8, 16] none [qm 11 1, qm 12 0, qm 13 5, qa 14 1 12 13, ql 15 2 1 14, qo 16 (.callv (qt 11) [qt 15])]
def Xn98_21 : C := regL [4] none [qm 17 5, qm 4 17]
def Xn98_20 : C := .seq Xn98_21 .ret
def Xn98_19 : C := .cond (.tmp 16) Xn98_20 .skip
def Xn98_17 : C := .seq Xn98_18 Xn98_19
def Xn98_15 : C := .seq Xn98_16 Xn98_17
def Xn98_14 : C := .block 1 Xn98_15
def Xn98_24 : C := regL [0, 1, 7, 8] none [qc 18 3 .add 8 1, qm 8 18]
def Xn98_13 : C := seqL [0, 1, 7, 8] Xn98_14 Xn98_24
def Xn98_9 : C := seqL [0, 1, 7, 8] Xn98_10 Xn98_13
def Xn98_7 : C := .seq Xn98_8 Xn98_9
def Xn98_6 : C := loopL [0, 1, 7, 8] Xn98_7
def Xn98_5 : C := .block 0 Xn98_6
def Xn98_3 : C := .seq Xn98_4 Xn98_5
def Xn98_26 : C := regL [4] none [qo 4 (.mv (qi (-1)))]
def Xn98_25 : C := .seq Xn98_26 .ret
def Xn98_2 : C := seqL [] Xn98_3 Xn98_25
def Xn98_0 : C := .seq Xn98_1 Xn98_2
theorem Xt98 : Text Tryz.prog 98 Xn98_0 19 2 [.t 4] := txA [] Tryz.func98
def Xn99_1 : C := regL [0, 1] none [qo 4 (.mv (qi 0))]
def Xn99_4 : C := regL [0, 1, 7, 8] none [qm 6 0, qw 7 6, qo 8 (.mv (qi 0))]
def Xn99_8 : C := regL [0, 1, 7, 8, 9] none [qb 9 3 .lss 8 7]
def Xn99_10 : C := .cond (.tmp 9) .skip (.exit 0)
def Xn99_16 : C := regL [0, 1, 5, 7, 8] none [qm 10 8, qm 5 10]
def Xn99_18 : C := regL [0, 1, 5, 7, 8, 16] none [qm 11 1, qm 12 0, qm 13 5, qa 14 1 12 13, ql 15 3 1 14, qb 16 3 .eql 11 15]
def Xn99_21 : C := regL [4] none [qm 17 5, qm 4 17]
def Xn99_20 : C := .seq Xn99_21 .ret
def Xn99_19 : C := .cond (.tmp 16) Xn99_20 .skip
def Xn99_17 : C := .seq Xn99_18 Xn99_19
def Xn99_15 : C := .seq Xn99_16 Xn99_17
def Xn99_14 : C := .block 1 Xn99_15
def Xn99_24 : C := regL [0, 1, 7, 8] none [qc 18 3 .add 8 1, qm 8 18]
def Xn99_13 : C := seqL [0, 1, 7, 8] Xn99_14 Xn99_24
def Xn99_9 : C := seqL [0, 1, 7, 8] Xn99_10 Xn99_13
def Xn99_7 : C := .seq Xn99_8 Xn99_9
def Xn99_6 : C := loopL [0, 1, 7, 8] Xn99_7
def Xn99_5 : C := .block 0 Xn99_6
def Xn99_3 : C := .seq Xn99_4 Xn99_5
def Xn99_26 : C := regL [4] none [qo 4 (.mv (qi (-1)))]
def Xn99_25 : C := .seq Xn99_26 .ret
def Xn99_2 : C := seqL [] Xn99_3 Xn99_25
def Xn99_0 : C := .seq Xn99_1 Xn99_2
theorem Xt99 : Text Tryz.prog 99 Xn99_0 19 2 [.t 4] := txA [] Tryz.func99
def Xn100_1 : C := regL [0, 1] none [qo 4 (.mv (.const (.bool false)))]
def Xn100_3 : C := regL [4] none [qm 5 0, qm 6 1, qo 7 (.call 125 [qt 5, qt 6]), qc 8 3 .geq 7 0, qm 4 8]
def Xn100_2 : C := .seq Xn100_3 .ret
def Xn100_0 : C := .seq Xn100_1 Xn100_2
theorem Xt100 : Text Tryz.prog 100 Xn100_0 9 2 [.t 4] := txA [] Tryz.func100
def Xn101_1 : C := regL [1] none [qx 1 169 0, qo 2 (.mv (.const (.bool false)))]
def Xn101_3 : C := regL [2] none [qf 3 10 1, ql 4 167 1 3, qw 5 4, qc 6 3 .gtr 5 24, qm 2 6]
def Xn101_2 : C := .seq Xn101_3 .ret
def Xn101_0 : C := .seq Xn101_1 Xn101_2
theorem Xt101 : Text Tryz.prog 101 Xn101_0 7 1 [.t 2] := txA [1] Tryz.func101
def Xn102_1 : C := regL [0] none [qo 2 (.mv (.const (.bool false)))]
def Xn102_4 : C := regL [0, 10] none [qm 3 0, qo 4 (.slen (qt 3)), qc 5 3 .eql 4 0, qm 6 5, qM 7 0 6 false, qg 8 (.slen (qt 7)) 6 false, qg 9 (.bin 3 .gtr (qt 8) (qi 20)) 6 false, qp 10 6 9]
def Xn102_7 : C := regL [2] none [qo 2 (.mv (.const (.bool false)))]
def Xn102_6 : C := .seq Xn102_7 .ret
def Xn102_5 : C := .cond (.tmp 10) Xn102_6 .skip
def Xn102_3 : C := .seq Xn102_4 Xn102_5
def Xn102_11 : C := regL [2] none [qm 11 0, qo 12 (.call 126 [qt 11, .func 127]), qn 13 12, qm 2 13]
def Xn102_10 : C := .seq Xn102_11 .ret
def Xn102_2 : C := seqL [0] Xn102_3 Xn102_10
def Xn102_0 : C := .seq Xn102_1 Xn102_2
theorem Xt102 : Text Tryz.prog 102 Xn102_0 14 1 [.t 2] := txA [] Tryz.func102
def Xn103_1 : C := regL [1] none [qx 1 169 0, qo 2 (.mv (.const (.bool false)))]
def Xn103_3 : C := regL [2] none [qL 3 169 11 1, qo 4 (.call 104 [qt 3]), qn 5 4, qm 2 5]
def Xn103_2 : C := .seq Xn103_3 .ret
def Xn103_0 : C := .seq Xn103_1 Xn103_2
theorem Xt103 : Text Tryz.prog 103 Xn103_0 6 1 [.t 2] := txA [1] Tryz.func103
def Xn104_1 : C := regL [1] none [qx 1 169 0, qo 2 (.mv (.const (.bool false)))]
def Xn104_3 : C := regL [1, 3] none [qf 7 3 1, ql 8 2 1 7, qf 9 4 1, ql 10 2 1 9, qf 11 5 1, ql 12 2 1 11, qf 13 6 1, ql 14 2 1 13, qo 15 (.bls 2 1 4 (.int .i64 0) [(0, 1, qt 8), (1, 1, qt 10), (2, 1, qt 12), (3, 1, qt 14)]), qo 16 (.call 73 [qt 15, .func 128]), qn 17 16, qm 3 17]
def Xn104_6 : C := regL [1, 44] none [qm 18 3, qn 19 18, qm 20 19, qh 21 0 1 20 false, qk 22 3 1 21 20 false, qg 23 (.bin 3 .lss (qt 22) (qi 0)) 20 false, qp 24 20 23, qm 25 24, qh 26 0 1 25 false, qk 27 3 1 26 25 false, qg 28 (.bin 3 .geq (qt 27) (qi 4)) 25 false, qp 29 25 28, qm 30 29, qh 31 1 1 30 false, qk 32 2 1 31 30 false, qg 33 (.call 129 [qt 32, qi 100, qi 131072]) 30 false, qg 34 (.un .not (qt 33)) 30 false, qp 35 30 34, qm 36 35, qh 37 2 1 36 false, qk 38 2 1 37 36 false, qh 39 1 1 36 false, qk 40 2 1 39 36 false, qg 41 (.un .neg (qt 40)) 36 false, qg 42 (.call 129 [qt 38, qt 41, qi 131072]) 36 false, qg 43 (.un .not (qt 42)) 36 false, qp 44 36 43]
def Xn104_9 : C := regL [2] none [qo 2 (.mv (.const (.bool false)))]
def Xn104_8 : C := .seq Xn104_9 .ret
def Xn104_7 : C := .cond (.tmp 44) Xn104_8 .skip
def Xn104_5 : C := .seq Xn104_6 Xn104_7
def Xn104_14 : C := regL [1, 70] none [qf 45 7 1, ql 46 2 1 45, qo 47 (.call 129 [qt 46, qi 1, qi 1048576]), qn 48 47, qm 49 48, qh 50 8 1 49 false, qk 51 2 1 50 49 false, qg 52 (.call 129 [qt 51, qi 0, qi 900]) 49 false, qg 53 (.un .not (qt 52)) 49 false, qp 54 49 53, qm 55 54, qh 56 9 1 55 false, qk 57 3 1 56 55 false, qg 58 (.bin 3 .lss (qt 57) (qi 0)) 55 false, qp 59 55 58, qm 60 59, qh 61 9 1 60 false, qk 62 3 1 61 60 false, qg 63 (.bin 3 .gtr (qt 62) (qi 40)) 60 false, qp 64 60 63, qm 65 64, qh 66 10 1 65 false, qk 67 167 1 66 65 false, qg 68 (.len (qt 67)) 65 false, qg 69 (.bin 3 .eql (qt 68) (qi 0)) 65 false, qp 70 65 69]
def Xn104_17 : C := regL [2] none [qo 2 (.mv (.const (.bool false)))]
def Xn104_16 : C := .seq Xn104_17 .ret
def Xn104_15 : C := .cond (.tmp 70) Xn104_16 .skip
def Xn104_13 : C := .seq Xn104_14 Xn104_15
def Xn104_21 : C := regL [1, 4] none [qo 4 (.mv (qi 0))]
def Xn104_24 : C := regL [1, 4, 72, 73, 74] none [qf 71 10 1, ql 72 167 1 71, qw 73 72, qo 74 (.mv (qi 0))]
def Xn104_28 : C := regL [1, 4, 72, 73, 74, 75] none [qb 75 3 .lss 74 73]
def Xn104_30 : C := .cond (.tmp 75) .skip (.exit 0)
def Xn104_36 : C := regL [1, 4, 6, 72, 73, 74] none [qa 76 3 72 74, qL 77 180 3 76, qo 6 (.alc 180 (.agg #[.int .i64 0, .int .i64 0, .int .i64 0])), qs 180 3 6 77]
def Xn104_39 : C := regL [1, 6, 72, 73, 74, 103] none [qf 78 0 6, ql 79 2 1 78, qm 80 4, qf 81 1 1, ql 82 2 1 81, qf 83 4 1, ql 84 2 1 83, qb 85 2 .add 82 84, qo 86 (.call 129 [qt 79, qt 80, qt 85]), qn 87 86, qm 88 87, qh 89 1 6 88 false, qk 90 2 1 89 88 false, qg 91 (.call 129 [qt 90, qi 1, qi 1048576]) 88 false, qg 92 (.un .not (qt 91)) 88 false, qp 93 88 92, qm 94 93, qh 95 2 6 94 false, qk 96 3 1 95 94 false, qg 97 (.bin 3 .lss (qt 96) (qi 1)) 94 false, qp 98 94 97, qm 99 98, qh 100 2 6 99 false, qk 101 3 1 100 99 false, qg 102 (.bin 3 .gtr (qt 101) (qi 16)) 99 false, qp 103 99 102]
def Xn104_42 : C := regL [2] none [qo 2 (.mv (.const (.bool false)))]
def Xn104_41 : C := .seq Xn104_42 .ret
def Xn104_40 : C := .cond (.tmp 103) Xn104_41 .skip
def Xn104_38 : C := .seq Xn104_39 Xn104_40
def Xn104_45 : C := regL [1, 4, 72, 73, 74] none [qf 104 0 6, ql 105 2 1 104, qm 4 105]
def Xn104_37 : C := seqL [1, 6, 72, 73, 74] Xn104_38 Xn104_45
def Xn104_35 : C := .seq Xn104_36 Xn104_37
def Xn104_34 : C := .block 1 Xn104_35
def Xn104_46 : C := regL [1, 4, 72, 73, 74] none [qc 106 3 .add 74 1, qm 74 106]
def Xn104_33 : C := seqL [1, 4, 72, 73, 74] Xn104_34 Xn104_46
def Xn104_29 : C := seqL [1, 4, 72, 73, 74] Xn104_30 Xn104_33
def Xn104_27 : C := .seq Xn104_28 Xn104_29
def Xn104_26 : C := loopL [1, 4, 72, 73, 74] Xn104_27
def Xn104_25 : C := .block 0 Xn104_26
def Xn104_23 : C := .seq Xn104_24 Xn104_25
def Xn104_48 : C := regL [2] none [qo 2 (.mv (.const (.bool true)))]
def Xn104_47 : C := .seq Xn104_48 .ret
def Xn104_22 : C := seqL [] Xn104_23 Xn104_47
def Xn104_20 : C := .seq Xn104_21 Xn104_22
def Xn104_12 : C := seqL [1] Xn104_13 Xn104_20
def Xn104_4 : C := seqL [1] Xn104_5 Xn104_12
def Xn104_2 : C := .seq Xn104_3 Xn104_4
def Xn104_0 : C := .seq Xn104_1 Xn104_2
theorem Xt104 : Text Tryz.prog 104 Xn104_0 107 1 [.t 2] := txA [1] Tryz.func104
def Xn105_1 : C := regL [0] none [qo 2 (.mv (.const (.bool false)))]
def Xn105_4 : C := regL [5, 6, 7] none [qm 5 0, qw 6 5, qo 7 (.mv (qi 0))]
def Xn105_8 : C := regL [5, 6, 7, 8] none [qb 8 3 .lss 7 6]
def Xn105_10 : C := .cond (.tmp 8) .skip (.exit 0)
def Xn105_16 : C := regL [4, 5, 6, 7] none [qa 9 2 5 7, qL 10 133 2 9, qo 4 (.alc 133 (.agg #[.int .i64 0, .int .i64 0])), qs 133 2 4 10]
def Xn105_18 : C := regL [5, 6, 7, 20] none [qf 11 0 4, ql 12 2 1 11, qo 13 (.call 106 [qt 12, qi (-16777216), qi 16777216]), qn 14 13, qm 15 14, qh 16 1 4 15 false, qk 17 2 1 16 15 false, qg 18 (.call 106 [qt 17, qi (-16777216), qi 16777216]) 15 false, qg 19 (.un .not (qt 18)) 15 false, qp 20 15 19]
def Xn105_21 : C := regL [2] none [qo 2 (.mv (.const (.bool false)))]
def Xn105_20 : C := .seq Xn105_21 .ret
def Xn105_19 : C := .cond (.tmp 20) Xn105_20 .skip
def Xn105_17 : C := .seq Xn105_18 Xn105_19
def Xn105_15 : C := .seq Xn105_16 Xn105_17
def Xn105_14 : C := .block 1 Xn105_15
def Xn105_24 : C := regL [5, 6, 7] none [qc 21 3 .add 7 1, qm 7 21]
def Xn105_13 : C := seqL [5, 6, 7] Xn105_14 Xn105_24
def Xn105_9 : C := seqL [5, 6, 7] Xn105_10 Xn105_13
def Xn105_7 : C := .seq Xn105_8 Xn105_9
def Xn105_6 : C := loopL [5, 6, 7] Xn105_7
def Xn105_5 : C := .block 0 Xn105_6
def Xn105_3 : C := .seq Xn105_4 Xn105_5
def Xn105_26 : C := regL [2] none [qo 2 (.mv (.const (.bool true)))]
def Xn105_25 : C := .seq Xn105_26 .ret
def Xn105_2 : C := seqL [] Xn105_3 Xn105_25
def Xn105_0 : C := .seq Xn105_1 Xn105_2
theorem Xt105 : Text Tryz.prog 105 Xn105_0 22 1 [.t 2] := txA [] Tryz.func105
def Xn106_1 : C := regL [0, 1, 2] none [qo 6 (.mv (.const (.bool false)))]
def Xn106_3 : C := regL [6] none [qm 7 1, qm 8 0, qb 9 2 .leq 7 8, qm 10 9, qM 11 0 10 true, qM 12 2 10 true, qg 13 (.bin 2 .leq (qt 11) (qt 12)) 10 true, qq 14 10 13, qm 6 14]
def Xn106_2 : C := .seq Xn106_3 .ret
def Xn106_0 : C := .seq Xn106_1 Xn106_2
theorem Xt106 : Text Tryz.prog 106 Xn106_0 15 3 [.t 6] := txA [] Tryz.func106
def Xn107_1 : C := regL [2, 3, 4, 5, 8] none [qx 4 133 0, qx 5 133 1, qo 8 (.alc 133 (.agg #[.int .i64 0, .int .i64 0])), qo 9 (.mv (qi 0))]
def Xn107_3 : C := regL [2, 3, 4, 8, 10, 11] (some [0, 1, 0, 4, 15, 0, 32, 0, 128, 480, 31, 2047]) [qf 13 0 5, ql 14 2 1 13, qf 15 0 4, ql 16 2 1 15, qb 17 2 .sub 14 16, qf 18 1 5, ql 19 2 1 18, qf 20 1 4, ql 21 2 1 20, qb 22 2 .sub 19 21, qm 10 17, qm 11 22]
def Xn107_6 : C := regL [2, 3, 4, 8, 10, 11, 28] none [qm 23 10, qc 24 2 .eql 23 0, qm 25 24, qM 26 11 25 true, qg 27 (.bin 2 .eql (qt 26) (qi 0)) 25 true, qq 28 25 27]
def Xn107_9 : C := regL [8, 9] none [qo 29 (.bld (.agg #[.int .i64 0, .int .i64 0]) []), qs 133 2 8 29, qo 9 (.mv (qi 9))]
def Xn107_8 : C := .seq Xn107_9 .ret
def Xn107_7 : C := .cond (.tmp 28) Xn107_8 .skip
def Xn107_5 : C := .seq Xn107_6 Xn107_7
def Xn107_13 : C := regL [2, 3, 4, 8, 10, 11, 12] none [qm 30 10, qm 31 10, qb 32 2 .mul 30 31, qm 33 11, qm 34 11, qb 35 2 .mul 33 34, qb 36 2 .add 32 35, qo 37 (.bin 2 .mul (qi 1024) (qt 36)), qo 38 (.call 130 [qt 37]), qm 12 38]
def Xn107_15 : C := regL [8, 9] (some [0, 1, 0, 0, 12, 0, 0, 96, 252, 508, 0, 2044, 4095, 0, 8192, 0, 0, 98304, 0, 0, 786432, 2064384, 4161536, 0, 16748540, 33550332, 67108863, 134217727, 268435455, 268435455, 1073741823, 2147483647]) [qf 39 0 4, ql 40 2 1 39, qm 41 10, qm 42 2, qb 43 2 .mul 41 42, qm 44 11, qm 45 3, qb 46 2 .mul 44 45, qb 47 2 .sub 43 46, qo 48 (.bin 2 .mul (qi 32) (qt 47)), qm 49 12, qo 50 (.call 132 [qt 48, qt 49]), qb 51 2 .add 40 50, qf 52 1 4, ql 53 2 1 52, qm 54 11, qm 55 2, qb 56 2 .mul 54 55, qm 57 10, qm 58 3, qb 59 2 .mul 57 58, qb 60 2 .add 56 59, qo 61 (.bin 2 .mul (qi 32) (qt 60)), qm 62 12, qo 63 (.call 132 [qt 61, qt 62]), qb 64 2 .add 53 63, qo 65 (.bld (.agg #[.int .i64 0, .int .i64 0]) [(0, 1, qt 51), (1, 1, qt 64)]), qo 66 (.call 131 [qt 65]), qe 67 0 66, qe 68 1 66, qs 133 2 8 67, qm 9 68]
def Xn107_14 : C := .seq Xn107_15 .ret
def Xn107_12 : C := .seq Xn107_13 Xn107_14
def Xn107_4 : C := seqL [2, 3, 4, 8, 10, 11] Xn107_5 Xn107_12
def Xn107_2 : C := .seq Xn107_3 Xn107_4
def Xn107_0 : C := .seq Xn107_1 Xn107_2
theorem Xt107 : Text Tryz.prog 107 Xn107_0 69 4 [.c 8 2 true, .t 9] := txA [4, 5] Tryz.func107
def Xn108_1 : C := regL [2, 3, 4, 5, 8] none [qx 4 133 0, qx 5 133 1, qo 8 (.alc 133 (.agg #[.int .i64 0, .int .i64 0])), qo 9 (.mv (qi 0))]
def Xn108_4 : C := regL [2, 3, 4, 5, 8, 14] none [qL 10 133 2 4, qL 11 133 2 5, qo 12 (.bls 133 2 2 (.agg #[.int .i64 0, .int .i64 0]) [(0, 2, qt 10), (2, 2, qt 11)]), qo 13 (.call 105 [qt 12]), qn 14 13]
def Xn108_7 : C := regL [8, 9] none [qo 15 (.bld (.agg #[.int .i64 0, .int .i64 0]) []), qs 133 2 8 15, qo 9 (.mv (qi 2))]
def Xn108_6 : C := .seq Xn108_7 .ret
def Xn108_5 : C := .cond (.tmp 14) Xn108_6 .skip
def Xn108_3 : C := .seq Xn108_4 Xn108_5
def Xn108_12 : C := regL [2, 3, 4, 5, 8, 23] none [qm 16 2, qo 17 (.call 106 [qt 16, qi (-16777216), qi 16777216]), qn 18 17, qm 19 18, qM 20 3 19 false, qg 21 (.call 106 [qt 20, qi (-16777216), qi 16777216]) 19 false, qg 22 (.un .not (qt 21)) 19 false, qp 23 19 22]
def Xn108_15 : C := regL [8, 9] none [qo 24 (.bld (.agg #[.int .i64 0, .int .i64 0]) []), qs 133 2 8 24, qo 9 (.mv (qi 3))]
def Xn108_14 : C := .seq Xn108_15 .ret
def Xn108_13 : C := .cond (.tmp 23) Xn108_14 .skip
def Xn108_11 : C := .seq Xn108_12 Xn108_13
def Xn108_19 : C := regL [8, 9] none [qL 25 133 2 4, qL 26 133 2 5, qm 27 2, qm 28 3, qo 29 (.call 107 [qt 25, qt 26, qt 27, qt 28]), qe 30 0 29, qe 31 1 29, qs 133 2 8 30, qm 9 31]
def Xn108_18 : C := .seq Xn108_19 .ret
def Xn108_10 : C := seqL [2, 3, 4, 5, 8] Xn108_11 Xn108_18
def Xn108_2 : C := seqL [2, 3, 4, 5, 8] Xn108_3 Xn108_10
def Xn108_0 : C := .seq Xn108_1 Xn108_2
theorem Xt108 : Text Tryz.prog 108 Xn108_0 32 4 [.c 8 2 true, .t 9] := txA [4, 5] Tryz.func108
def Xn109_1 : C := regL [2, 3] none [qx 2 141 0, qx 3 136 1, qo 4 (.mv (.const (.slice none 0 0))), qo 5 (.mv (qi 0))]
def Xn109_4 : C := regL [2, 3, 6] none [qL 8 141 4 2, qo 9 (.call 82 [qt 8]), qm 6 9]
def Xn109_6 : C := regL [2, 3, 6, 11] none [qm 10 6, qc 11 30 .neq 10 0]
def Xn109_9 : C := regL [4, 5] none [qm 12 6, qo 4 (.mv (.const (.slice none 0 0))), qm 5 12]
def Xn109_8 : C := .seq Xn109_9 .ret
def Xn109_7 : C := .cond (.tmp 11) Xn109_8 .skip
def Xn109_5 : C := .seq Xn109_6 Xn109_7
def Xn109_3 : C := .seq Xn109_4 Xn109_5
def Xn109_14 : C := regL [2, 3, 25] none [qf 13 2 3, ql 14 134 1 13, qw 15 14, qf 16 1 2, ql 17 139 1 16, qw 18 17, qb 19 3 .neq 15 18, qm 20 19, qh 21 0 3 20 false, qg 22 (.ld 133 2 true (qt 21)) 20 false, qg 23 (.call 83 [qt 22]) 20 false, qg 24 (.bin 30 .neq (qt 23) (qi 0)) 20 false, qp 25 20 24]
def Xn109_17 : C := regL [4, 5] none [qo 4 (.mv (.const (.slice none 0 0))), qo 5 (.mv (qi 3))]
def Xn109_16 : C := .seq Xn109_17 .ret
def Xn109_15 : C := .cond (.tmp 25) Xn109_16 .skip
def Xn109_13 : C := .seq Xn109_14 Xn109_15
def Xn109_21 : C := regL [2, 7] none [qL 26 141 4 2, qL 27 136 3 3, ⟨some 28, .bld (.agg #[.string ⟨#[]⟩, .slice none 0 0, .int .i64 0, .int .i64 0, .int .i64 0, .int .i64 0, .slice none 0 0]) [(0, 4, .tmp 26), (4, 3, .tmp 27)], none⟩, qo 29 (.call 134 [qt 28]), qo 30 (.call 133 [qt 29]), qm 7 30]
def Xn109_24 : C := regL [7, 36] none [qm 31 7, qw 32 31, qf 33 1 2, ql 34 139 1 33, qw 35 34, qb 36 3 .neq 32 35]
def Xn109_27 : C := regL [4, 5] none [qo 4 (.mv (.const (.slice none 0 0))), qo 5 (.mv (qi 3))]
def Xn109_26 : C := .seq Xn109_27 .ret
def Xn109_25 : C := .cond (.tmp 36) Xn109_26 .skip
def Xn109_23 : C := .seq Xn109_24 Xn109_25
def Xn109_31 : C := regL [4, 5] none [qm 37 7, qm 4 37, qo 5 (.mv (qi 0))]
def Xn109_30 : C := .seq Xn109_31 .ret
def Xn109_22 : C := seqL [7] Xn109_23 Xn109_30
def Xn109_20 : C := .seq Xn109_21 Xn109_22
def Xn109_12 : C := seqL [2, 3] Xn109_13 Xn109_20
def Xn109_2 : C := seqL [2, 3] Xn109_3 Xn109_12
def Xn109_0 : C := .seq Xn109_1 Xn109_2
theorem Xt109 : Text Tryz.prog 109 Xn109_0 38 2 [.t 4, .t 5] := txA [2, 3] Tryz.func109
def Xn110_1 : C := regL [0] none [qo 2 (.mv (.const (.bool false)))]
def Xn110_4 : C := regL [0, 12] none [qm 5 0, qo 6 (.slen (qt 5)), qc 7 3 .lss 6 1, qm 8 7, qM 9 0 8 false, qg 10 (.slen (qt 9)) 8 false, qg 11 (.bin 3 .gtr (qt 10) (qi 20)) 8 false, qp 12 8 11]
def Xn110_7 : C := regL [2] none [qo 2 (.mv (.const (.bool false)))]
def Xn110_6 : C := .seq Xn110_7 .ret
def Xn110_5 : C := .cond (.tmp 12) Xn110_6 .skip
def Xn110_3 : C := .seq Xn110_4 Xn110_5
def Xn110_12 : C := regL [14] none [qm 13 0, qo 14 (.rgs (qt 13))]
def Xn110_16 : C := regL [14, 15, 16] none [qo 15 (.nxs (qt 14)), qe 16 0 15]
def Xn110_18 : C := .cond (.tmp 16) .skip (.exit 0)
def Xn110_23 : C := regL [4, 14] none [qe 17 2 15, qm 4 17]
def Xn110_25 : C := regL [14, 31] none [qm 18 4, qo 19 (.bin 21 .lss (qt 18) (.const (.int .i32 97))), qm 20 19, qM 21 4 20 false, qg 22 (.bin 21 .gtr (qt 21) (.const (.int .i32 122))) 20 false, qp 23 20 22, qm 24 23, qM 25 4 24 true, qg 26 (.bin 21 .lss (qt 25) (.const (.int .i32 48))) 24 true, qM 27 26 24 true, qM 28 4 27 false, qg 29 (.bin 21 .gtr (qt 28) (.const (.int .i32 57))) 27 false, qg 30 (.pick 27 (.const (.bool true)) (qt 29)) 24 true, qq 31 24 30]
def Xn110_28 : C := regL [2] none [qo 2 (.mv (.const (.bool false)))]
def Xn110_27 : C := .seq Xn110_28 .ret
def Xn110_26 : C := .cond (.tmp 31) Xn110_27 .skip
def Xn110_24 : C := .seq Xn110_25 Xn110_26
def Xn110_22 : C := .seq Xn110_23 Xn110_24
def Xn110_21 : C := .block 1 Xn110_22
def Xn110_17 : C := seqL [14, 15] Xn110_18 Xn110_21
def Xn110_15 : C := .seq Xn110_16 Xn110_17
def Xn110_14 : C := loopL [14] Xn110_15
def Xn110_13 : C := .block 0 Xn110_14
def Xn110_11 : C := .seq Xn110_12 Xn110_13
def Xn110_32 : C := regL [2] none [qo 2 (.mv (.const (.bool true)))]
def Xn110_31 : C := .seq Xn110_32 .ret
def Xn110_10 : C := seqL [] Xn110_11 Xn110_31
def Xn110_2 : C := seqL [0] Xn110_3 Xn110_10
def Xn110_0 : C := .seq Xn110_1 Xn110_2
theorem Xt110 : Text Tryz.prog 110 Xn110_0 32 1 [.t 2] := txA [] Tryz.func110
def Xn111_1 : C := regL [0, 1, 2] none [qo 6 (.mv (.const (.bool false)))]
def Xn111_3 : C := regL [6] none [qm 7 0, qm 8 1, qb 9 2 .geq 7 8, qm 10 9, qM 11 0 10 true, qM 12 2 10 true, qg 13 (.bin 2 .leq (qt 11) (qt 12)) 10 true, qq 14 10 13, qm 6 14]
def Xn111_2 : C := .seq Xn111_3 .ret
def Xn111_0 : C := .seq Xn111_1 Xn111_2
theorem Xt111 : Text Tryz.prog 111 Xn111_0 15 3 [.t 6] := txA [] Tryz.func111
def Xn112_1 : C := regL [1] none [qx 1 186 0, qo 2 (.mv (.const (.bool false)))]
def Xn112_3 : C := regL [1, 3, 4] (some [0, 1, 0, 4, 0, 16, 63, 0, 128, 0, 512, 0, 2048, 8064, 0, 0, 49279, 131071]) [qf 7 0 1, ql 8 2 1 7, qf 9 1 1, ql 10 2 1 9, qf 11 2 1, ql 12 2 1 11, qo 13 (.bld (.agg #[.int .i64 0, .int .i64 0, .int .i64 0]) [(0, 1, qt 8), (1, 1, qt 10), (2, 1, qt 12)]), qf 14 3 1, ql 15 2 1 14, qf 16 4 1, ql 17 2 1 16, qf 18 5 1, ql 19 2 1 18, qo 20 (.bld (.agg #[.int .i64 0, .int .i64 0, .int .i64 0]) [(0, 1, qt 15), (1, 1, qt 17), (2, 1, qt 19)]), qo 3 (.alc 53 (.agg #[.int .i64 0, .int .i64 0, .int .i64 0])), qo 4 (.alc 53 (.agg #[.int .i64 0, .int .i64 0, .int .i64 0])), qs 53 3 3 13, qs 53 3 4 20]
def Xn112_5 : C := regL [1, 3, 4, 5] none [qo 21 (.bld (.agg #[.int .i64 0, .int .i64 0, .int .i64 0]) [(0, 1, qi (-131072)), (1, 1, qi (-131072)), (2, 1, qi 0)]), qo 5 (.alc 53 (.agg #[.int .i64 0, .int .i64 0, .int .i64 0])), qs 53 3 5 21]
def Xn112_8 : C := regL [1, 3, 4, 5, 22] none [qo 22 (.mv (qi 0))]
def Xn112_12 : C := regL [1, 3, 4, 5, 22, 23] none [qc 23 3 .lss 22 3]
def Xn112_14 : C := .cond (.tmp 23) .skip (.exit 0)
def Xn112_20 : C := regL [1, 3, 4, 5, 6, 22] none [qm 24 22, qm 6 24]
def Xn112_22 : C := regL [1, 3, 4, 5, 22, 48] (some [0, 1, 3, 0, 8, 24, 63, 127, 255, 511, 1023, 2047, 4095, 8191, 16383, 32767, 65535, 131071, 32767, 294911, 819199, 1867775, 4194303, 8388607]) [qm 25 6, qo 26 (.iaa 3 1 (qt 3) (qt 25)), ql 27 2 1 26, qm 28 6, qo 29 (.iaa 3 1 (qt 5) (qt 28)), ql 30 2 1 29, qo 31 (.call 111 [qt 27, qt 30, qi 131072]), qn 32 31, qm 33 32, qM 34 6 33 false, qg 35 (.iaa 3 1 (qt 4) (qt 34)) 33 false, qk 36 2 1 35 33 false, qg 37 (.bin 2 .lss (qt 36) (qi 1)) 33 false, qp 38 33 37, qm 39 38, qM 40 6 39 false, qg 41 (.iaa 3 1 (qt 4) (qt 40)) 39 false, qk 42 2 1 41 39 false, qM 43 6 39 false, qg 44 (.iaa 3 1 (qt 3) (qt 43)) 39 false, qk 45 2 1 44 39 false, qg 46 (.bin 2 .sub (qi 131072) (qt 45)) 39 false, qg 47 (.bin 2 .gtr (qt 42) (qt 46)) 39 false, qp 48 39 47]
def Xn112_25 : C := regL [2] none [qo 2 (.mv (.const (.bool false)))]
def Xn112_24 : C := .seq Xn112_25 .ret
def Xn112_23 : C := .cond (.tmp 48) Xn112_24 .skip
def Xn112_21 : C := .seq Xn112_22 Xn112_23
def Xn112_19 : C := .seq Xn112_20 Xn112_21
def Xn112_18 : C := .block 1 Xn112_19
def Xn112_28 : C := regL [1, 3, 4, 5, 22] none [qc 49 3 .add 22 1, qm 22 49]
def Xn112_17 : C := seqL [1, 3, 4, 5, 22] Xn112_18 Xn112_28
def Xn112_13 : C := seqL [1, 3, 4, 5, 22] Xn112_14 Xn112_17
def Xn112_11 : C := .seq Xn112_12 Xn112_13
def Xn112_10 : C := loopL [1, 3, 4, 5, 22] Xn112_11
def Xn112_9 : C := .block 0 Xn112_10
def Xn112_7 : C := .seq Xn112_8 Xn112_9
def Xn112_30 : C := regL [2] none [qf 50 6 1, ql 51 2 1 50, qo 52 (.call 111 [qt 51, qi 0, qi 16777216]), qm 2 52]
def Xn112_29 : C := .seq Xn112_30 .ret
def Xn112_6 : C := seqL [1] Xn112_7 Xn112_29
def Xn112_4 : C := .seq Xn112_5 Xn112_6
def Xn112_2 : C := .seq Xn112_3 Xn112_4
def Xn112_0 : C := .seq Xn112_1 Xn112_2
theorem Xt112 : Text Tryz.prog 112 Xn112_0 53 1 [.t 2] := txA [1] Tryz.func112
def Xn113_1 : C := regL [1] none [qx 1 204 0, qo 2 (.mv (.const (.bool false)))]
def Xn113_3 : C := regL [2] none [qf 3 0 1, ql 4 2 1 3, qo 5 (.call 111 [qt 4, qi (-131072), qi 131072]), qm 6 5, qh 7 1 1 6 true, qk 8 2 1 7 6 true, qg 9 (.call 111 [qt 8, qi (-131072), qi 131072]) 6 true, qq 10 6 9, qm 11 10, qh 12 2 1 11 true, qk 13 2 1 12 11 true, qg 14 (.call 111 [qt 13, qi 0, qi 131072]) 11 true, qq 15 11 14, qm 16 15, qh 17 3 1 16 true, qk 18 2 1 17 16 true, qg 19 (.call 111 [qt 18, qi 0, qi 4194304]) 16 true, qq 20 16 19, qm 2 20]
def Xn113_2 : C := .seq Xn113_3 .ret
def Xn113_0 : C := .seq Xn113_1 Xn113_2
theorem Xt113 : Text Tryz.prog 113 Xn113_0 21 1 [.t 2] := txA [1] Tryz.func113
def Xn114_1 : C := regL [0, 3] none [qx 3 186 1]
def Xn114_3 : C := regL [0, 3, 4] none [qL 6 186 7 3, qo 7 (.call 135 [qt 6]), qo 4 (.alc 231 (.agg #[.int .i64 0, .int .i64 0, .int .i64 0, .int .i64 0, .int .i64 0, .int .i64 0])), qs 231 6 4 7]
def Xn114_5 : C := regL [0, 3, 4] (some [0, 1, 3, 7, 0, 16, 63, 127, 255, 511]) [qm 8 0, qo 9 (.nilc (qt 8)), qf 10 0 9, ql 11 2 1 10, qf 12 6 3, ql 13 2 1 12, qb 14 2 .add 11 13, qo 15 (.nilc (qt 8)), qf 16 0 15, qs 2 1 16 14]
def Xn114_7 : C := regL [0, 3, 4, 17] none [qo 17 (.mv (qi 0))]
def Xn114_11 : C := regL [0, 3, 4, 17, 18] none [qc 18 3 .lss 17 3]
def Xn114_13 : C := .cond (.tmp 18) .skip (.exit 0)
def Xn114_19 : C := regL [0, 3, 4, 5, 17] none [qm 19 17, qm 5 19]
def Xn114_20 : C := regL [0, 3, 4, 17] (some [0, 0, 1, 5, 15, 31, 0, 64, 0, 0, 768, 1792, 0, 0, 12288, 28672, 65280, 131008, 262143, 1, 524289, 2097151, 4194303]) [qm 20 0, qm 21 5, qo 22 (.nilc (qt 20)), qf 23 1 22, qo 24 (.iaa 3 1 (qt 23) (qt 21)), ql 25 2 1 24, qf 26 6 3, ql 27 2 1 26, qm 28 5, qf 29 0 4, qo 30 (.iaa 3 1 (qt 29) (qt 28)), ql 31 2 1 30, qm 32 5, qf 33 3 4, qo 34 (.iaa 3 1 (qt 33) (qt 32)), ql 35 2 1 34, qb 36 2 .add 31 35, qb 37 2 .mul 27 36, qb 38 2 .add 25 37, qo 39 (.nilc (qt 20)), qf 40 1 39, qo 41 (.iaa 3 1 (qt 40) (qt 21)), qs 2 1 41 38]
def Xn114_18 : C := .seq Xn114_19 Xn114_20
def Xn114_17 : C := .block 1 Xn114_18
def Xn114_21 : C := regL [0, 3, 4, 17] none [qc 42 3 .add 17 1, qm 17 42]
def Xn114_16 : C := seqL [0, 3, 4, 17] Xn114_17 Xn114_21
def Xn114_12 : C := seqL [0, 3, 4, 17] Xn114_13 Xn114_16
def Xn114_10 : C := .seq Xn114_11 Xn114_12
def Xn114_9 : C := loopL [0, 3, 4, 17] Xn114_10
def Xn114_8 : C := .block 0 Xn114_9
def Xn114_6 : C := .seq Xn114_7 Xn114_8
def Xn114_4 : C := .seq Xn114_5 Xn114_6
def Xn114_2 : C := .seq Xn114_3 Xn114_4
def Xn114_0 : C := .seq Xn114_1 Xn114_2
theorem Xt114 : Text Tryz.prog 114 Xn114_0 43 2 [] := txA [3] Tryz.func114
def Xn115_1 : C := regL [1] none [qx 1 188 0, qo 2 (.mv (qi 0))]
def Xn115_3 : C := regL [3, 4, 5] none [qL 7 188 3 1, qo 8 (.call 136 [qt 7]), qm 6 8, qe 9 0 6, qe 10 1 6, qe 11 2 6, qm 3 9, qm 4 10, qm 5 11]
def Xn115_6 : C := regL [3, 4, 13] none [qm 12 5, qn 13 12]
def Xn115_9 : C := regL [2] none [qm 14 3, qm 2 14]
def Xn115_8 : C := .seq Xn115_9 .ret
def Xn115_7 : C := .cond (.tmp 13) Xn115_8 .skip
def Xn115_5 : C := .seq Xn115_6 Xn115_7
def Xn115_14 : C := regL [3, 15] none [qm 15 4]
def Xn115_16 : C := regL [3] none [qm 16 3, qc 17 2 .add 16 1, qm 3 17]
def Xn115_15 : C := .cond (.tmp 15) Xn115_16 .skip
def Xn115_13 : C := .seq Xn115_14 Xn115_15
def Xn115_19 : C := regL [2] none [qm 18 3, qo 19 (.un .neg (qt 18)), qm 2 19]
def Xn115_18 : C := .seq Xn115_19 .ret
def Xn115_12 : C := seqL [3] Xn115_13 Xn115_18
def Xn115_4 : C := seqL [3, 4] Xn115_5 Xn115_12
def Xn115_2 : C := .seq Xn115_3 Xn115_4
def Xn115_0 : C := .seq Xn115_1 Xn115_2
theorem Xt115 : Text Tryz.prog 115 Xn115_0 20 1 [.t 2] := txA [1] Tryz.func115
def Xn116_1 : C := regL [0] none [qo 2 (.mv (.const (.slice none 0 0)))]
def Xn116_4 : C := regL [0, 4] none [qm 3 0, qo 4 (.isn false (qt 3))]
def Xn116_7 : C := regL [2] none [qo 2 (.mv (.const (.slice none 0 0)))]
def Xn116_6 : C := .seq Xn116_7 .ret
def Xn116_5 : C := .cond (.tmp 4) Xn116_6 .skip
def Xn116_3 : C := .seq Xn116_4 Xn116_5
def Xn116_11 : C := regL [2] none [qo 5 (.bls 133 2 0 (.agg #[.int .i64 0, .int .i64 0]) []), qm 6 0, qo 7 (.app 133 2 16 (qt 5) (qt 6)), qm 2 7]
def Xn116_10 : C := .seq Xn116_11 .ret
def Xn116_2 : C := seqL [0] Xn116_3 Xn116_10
def Xn116_0 : C := .seq Xn116_1 Xn116_2
theorem Xt116 : Text Tryz.prog 116 Xn116_0 8 1 [.t 2] := txA [] Tryz.func116
def Xn117_1 : C := regL [0, 1, 4] none [qm 5 0, qw 6 5, qm 4 6]
def Xn117_2 : C := regL [] none [qm 7 0, qm 8 4, qm 9 4, qo 10 (.cvt .u64 (qt 9)), qo 11 (.call 138 [qt 10]), qm 12 1, qo 13 (.call 137 [qt 7, qi 0, qt 8, qt 11, qt 12])]
def Xn117_0 : C := .seq Xn117_1 Xn117_2
theorem Xt117 : Text Tryz.prog 117 Xn117_0 14 2 [] := txA [] Tryz.func117
def Xn118_1 : C := regL [2, 3] none [qx 2 133 0, qx 3 133 1, qo 4 (.mv (qi 0))]
def Xn118_4 : C := regL [2, 3, 9] none [qf 5 0 2, ql 6 2 1 5, qf 7 0 3, ql 8 2 1 7, qb 9 2 .neq 6 8]
def Xn118_7 : C := regL [4] none [qf 10 0 2, ql 11 2 1 10, qf 12 0 3, ql 13 2 1 12, qo 14 (.call 36 [qt 11, qt 13]), qm 4 14]
def Xn118_6 : C := .seq Xn118_7 .ret
def Xn118_5 : C := .cond (.tmp 9) Xn118_6 .skip
def Xn118_3 : C := .seq Xn118_4 Xn118_5
def Xn118_11 : C := regL [4] none [qf 15 1 2, ql 16 2 1 15, qf 17 1 3, ql 18 2 1 17, qo 19 (.call 36 [qt 16, qt 18]), qm 4 19]
def Xn118_10 : C := .seq Xn118_11 .ret
def Xn118_2 : C := seqL [2, 3] Xn118_3 Xn118_10
def Xn118_0 : C := .seq Xn118_1 Xn118_2
theorem Xt118 : Text Tryz.prog 118 Xn118_0 20 2 [.t 4] := txA [2, 3] Tryz.func118
def Xn119_1 : C := regL [0] none [qo 2 (.mv (.const (.slice none 0 0)))]
def Xn119_4 : C := regL [0, 8] none [qm 6 0, qw 7 6, qc 8 3 .lss 7 2]
def Xn119_7 : C := regL [2] none [qm 9 0, qm 2 9]
def Xn119_6 : C := .seq Xn119_7 .ret
def Xn119_5 : C := .cond (.tmp 8) Xn119_6 .skip
def Xn119_3 : C := .seq Xn119_4 Xn119_5
def Xn119_12 : C := regL [0, 3] none [qo 3 (.mv (qi 1))]
def Xn119_17 : C := regL [0, 3, 13] none [qm 10 3, qm 11 0, qw 12 11, qb 13 3 .lss 10 12]
def Xn119_18 : C := .cond (.tmp 13) .skip (.exit 0)
def Xn119_16 : C := .seq Xn119_17 Xn119_18
def Xn119_24 : C := regL [0, 3, 25] (some [0, 0, 3, 7, 0, 0, 32, 112, 240, 511]) [qm 16 0, qm 17 3, qa 18 2 16 17, qL 19 133 2 18, qm 20 0, qm 21 3, qc 22 3 .sub 21 1, qa 23 2 20 22, qL 24 133 2 23, qo 25 (.eqb 5 false (qt 19) (qt 24))]
def Xn119_27 : C := regL [0, 3, 4] none [qm 26 0, qm 27 3, qo 28 (.slc 134 2 (qt 26) (some (qt 27)) none), qm 4 28]
def Xn119_30 : C := regL [0, 3, 4, 5] none [qo 5 (.mv (qi 1))]
def Xn119_35 : C := regL [0, 3, 4, 5, 32] none [qm 29 5, qm 30 4, qw 31 30, qb 32 3 .lss 29 31]
def Xn119_36 : C := .cond (.tmp 32) .skip (.exit 2)
def Xn119_34 : C := .seq Xn119_35 Xn119_36
def Xn119_42 : C := regL [0, 3, 4, 5, 44] (some [0, 0, 3, 7, 0, 0, 32, 112, 240, 511]) [qm 35 4, qm 36 5, qa 37 2 35 36, qL 38 133 2 37, qm 39 4, qm 40 5, qc 41 3 .sub 40 1, qa 42 2 39 41, qL 43 133 2 42, qo 44 (.eqb 5 true (qt 38) (qt 43))]
def Xn119_45 : C := regL [0, 3, 4, 5] none [qm 45 0, qm 46 3, qm 47 4, qm 48 5, qa 49 2 47 48, qL 50 133 2 49, qa 51 2 45 46, qs 133 2 51 50]
def Xn119_46 : C := regL [0, 3, 4, 5] none [qm 52 3, qc 53 3 .add 52 1, qm 3 53]
def Xn119_44 : C := .seq Xn119_45 Xn119_46
def Xn119_43 : C := .cond (.tmp 44) Xn119_44 .skip
def Xn119_41 : C := .seq Xn119_42 Xn119_43
def Xn119_40 : C := .block 3 Xn119_41
def Xn119_48 : C := regL [0, 3, 4, 5] none [qm 33 5, qc 34 3 .add 33 1, qm 5 34]
def Xn119_39 : C := seqL [0, 3, 4, 5] Xn119_40 Xn119_48
def Xn119_33 : C := seqL [0, 3, 4, 5] Xn119_34 Xn119_39
def Xn119_32 : C := loopL [0, 3, 4, 5] Xn119_33
def Xn119_31 : C := .block 2 Xn119_32
def Xn119_29 : C := .seq Xn119_30 Xn119_31
def Xn119_50 : C := regL [0, 3] none [qm 54 0, qm 55 3, qo 56 (.slc 134 2 (qt 54) (some (qt 55)) none), ⟨none, .dead, none⟩]
def Xn119_52 : C := regL [2] none [qm 57 0, qm 58 3, qo 59 (.slc 134 2 (qt 57) none (some (qt 58))), qm 2 59]
def Xn119_51 : C := .seq Xn119_52 .ret
def Xn119_49 : C := .seq Xn119_50 Xn119_51
def Xn119_28 : C := seqL [0, 3] Xn119_29 Xn119_49
def Xn119_26 : C := .seq Xn119_27 Xn119_28
def Xn119_25 : C := .cond (.tmp 25) Xn119_26 .skip
def Xn119_23 : C := .seq Xn119_24 Xn119_25
def Xn119_22 : C := .block 1 Xn119_23
def Xn119_55 : C := regL [0, 3] none [qm 14 3, qc 15 3 .add 14 1, qm 3 15]
def Xn119_21 : C := seqL [0, 3] Xn119_22 Xn119_55
def Xn119_15 : C := seqL [0, 3] Xn119_16 Xn119_21
def Xn119_14 : C := loopL [0, 3] Xn119_15
def Xn119_13 : C := .block 0 Xn119_14
def Xn119_11 : C := .seq Xn119_12 Xn119_13
def Xn119_57 : C := regL [2] none [qm 60 0, qm 2 60]
def Xn119_56 : C := .seq Xn119_57 .ret
def Xn119_10 : C := seqL [0] Xn119_11 Xn119_56
def Xn119_2 : C := seqL [0] Xn119_3 Xn119_10
def Xn119_0 : C := .seq Xn119_1 Xn119_2
theorem Xt119 : Text Tryz.prog 119 Xn119_0 61 1 [.t 2] := txA [] Tryz.func119
def Xn120_1 : C := regL [3, 4, 5] none [qx 3 133 0, qx 4 133 1, qx 5 133 2, qo 6 (.mv (.const (.bool false)))]
def Xn120_3 : C := regL [6] none [qL 7 133 2 3, qL 8 133 2 4, qL 9 133 2 5, qo 10 (.call 121 [qt 7, qt 8, qt 9]), qc 11 2 .leq 10 0, qm 6 11]
def Xn120_2 : C := .seq Xn120_3 .ret
def Xn120_0 : C := .seq Xn120_1 Xn120_2
theorem Xt120 : Text Tryz.prog 120 Xn120_0 12 3 [.t 6] := txA [3, 4, 5] Tryz.func120
def Xn121_1 : C := regL [3, 4, 5] none [qx 3 133 0, qx 4 133 1, qx 5 133 2, qo 6 (.mv (qi 0))]
def Xn121_3 : C := regL [6] none [qf 7 0 4, ql 8 2 1 7, qf 9 0 3, ql 10 2 1 9, qb 11 2 .sub 8 10, qf 12 1 5, ql 13 2 1 12, qf 14 1 3, ql 15 2 1 14, qb 16 2 .sub 13 15, qb 17 2 .mul 11 16, qf 18 1 4, ql 19 2 1 18, qf 20 1 3, ql 21 2 1 20, qb 22 2 .sub 19 21, qf 23 0 5, ql 24 2 1 23, qf 25 0 3, ql 26 2 1 25, qb 27 2 .sub 24 26, qb 28 2 .mul 22 27, qb 29 2 .sub 17 28, qm 6 29]
def Xn121_2 : C := .seq Xn121_3 .ret
def Xn121_0 : C := .seq Xn121_1 Xn121_2
theorem Xt121 : Text Tryz.prog 121 Xn121_0 30 3 [.t 6] := txA [3, 4, 5] Tryz.func121
def Xn122_1 : C := regL [0, 3] none [qx 3 211 1, qo 4 (.mv (.const (.slice none 0 0)))]
def Xn122_3 : C := regL [0, 3, 5] none [qo 5 (.alc 134 (.slice none 0 0))]
def Xn122_6 : C := regL [3, 5, 7] none [qm 7 0]
def Xn122_9 : C := regL [3, 5, 6] none [qo 6 (.alc 133 (.agg #[.int .i64 0, .int .i64 0])), qs 133 2 6 8]
def Xn122_16 : C := regL [3, 5, 6, 28] (some [0, 1, 3, 7, 15, 15, 15, 79, 207, 495, 1007, 15, 15, 4111, 12303, 30735, 63503, 15, 262143, 524287]) [ql 9 134 1 5, qw 10 9, qc 11 3 .geq 10 2, qm 12 11, qk 13 211 1 3 12 true, qk 14 134 1 5 12 true, qk 15 134 1 5 12 true, qg 16 (.len (qt 15)) 12 true, qg 17 (.bin 3 .sub (qt 16) (qi 2)) 12 true, qg 18 (.ia 2 (qt 14) (qt 17)) 12 true, qg 19 (.ld 133 2 true (qt 18)) 12 true, qk 20 134 1 5 12 true, qk 21 134 1 5 12 true, qg 22 (.len (qt 21)) 12 true, qg 23 (.bin 3 .sub (qt 22) (qi 1)) 12 true, qg 24 (.ia 2 (qt 20) (qt 23)) 12 true, qg 25 (.ld 133 2 true (qt 24)) 12 true, qg 26 (.ld 133 2 true (qt 6)) 12 true, qg 27 (.callv (qt 13) [qt 19, qt 25, qt 26]) 12 true, qq 28 12 27]
def Xn122_17 : C := .cond (.tmp 28) .skip (.exit 2)
def Xn122_15 : C := .seq Xn122_16 Xn122_17
def Xn122_21 : C := regL [3, 5, 6] none [ql 29 134 1 5, ql 30 134 1 5, qw 31 30, qc 32 3 .sub 31 1, qo 33 (.slc 134 2 (qt 29) none (some (qt 32))), qs 134 1 5 33]
def Xn122_20 : C := .block 3 Xn122_21
def Xn122_14 : C := seqL [3, 5, 6] Xn122_15 Xn122_20
def Xn122_13 : C := loopL [3, 5, 6] Xn122_14
def Xn122_12 : C := .block 2 Xn122_13
def Xn122_22 : C := regL [] none [ql 34 134 1 5, qL 35 133 2 6, qo 36 (.bls 133 2 1 (.agg #[.int .i64 0, .int .i64 0]) [(0, 2, qt 35)]), qo 37 (.app 133 2 16 (qt 34) (qt 36)), qs 134 1 5 37]
def Xn122_11 : C := seqL [5, 6] Xn122_12 Xn122_22
def Xn122_10 : C := .block 1 Xn122_11
def Xn122_8 : C := .rfn (.tmp 7) [8] Xn122_9 Xn122_10
def Xn122_7 : C := .block 0 Xn122_8
def Xn122_5 : C := .seq Xn122_6 Xn122_7
def Xn122_24 : C := regL [4] none [ql 38 134 1 5, qm 4 38]
def Xn122_23 : C := .seq Xn122_24 .ret
def Xn122_4 : C := seqL [5] Xn122_5 Xn122_23
def Xn122_2 : C := .seq Xn122_3 Xn122_4
def Xn122_0 : C := .seq Xn122_1 Xn122_2
theorem Xt122 : Text Tryz.prog 122 Xn122_0 39 2 [.t 4] := txA [3] Tryz.func122
def Xn123_1 : C := regL [1] none [qx 1 134 0, qo 2 (.mv (.const (.nilFunc)))]
def Xn123_3 : C := regL [2] none [qo 3 (.mkf 139 [] [qt 1]), qm 2 3]
def Xn123_2 : C := .seq Xn123_3 .ret
def Xn123_0 : C := .seq Xn123_1 Xn123_2
theorem Xt123 : Text Tryz.prog 123 Xn123_0 4 1 [.t 2] := txA [1] Tryz.func123
def Xn124_1 : C := regL [0, 2, 3] none [qm 4 0, qw 5 4, qc 6 3 .sub 5 1, qo 2 (.mv (qi 0)), qm 3 6]
def Xn124_6 : C := regL [0, 2, 3, 9] none [qm 7 2, qm 8 3, qb 9 3 .lss 7 8]
def Xn124_7 : C := .cond (.tmp 9) .skip (.exit 0)
def Xn124_5 : C := .seq Xn124_6 Xn124_7
def Xn124_12 : C := regL [0, 2, 3] (some [0, 0, 0, 0, 0, 0, 48, 112, 0, 0, 768, 1792, 4083, 8179, 16383, 32767]) [qm 14 0, qm 15 2, qm 16 0, qm 17 3, qm 18 0, qm 19 3, qa 20 2 18 19, qL 21 133 2 20, qm 22 0, qm 23 2, qa 24 2 22 23, qL 25 133 2 24, qa 26 2 14 15, qs 133 2 26 21, qa 27 2 16 17, qs 133 2 27 25]
def Xn124_11 : C := .block 1 Xn124_12
def Xn124_13 : C := regL [0, 2, 3] none [qm 10 2, qc 11 3 .add 10 1, qm 12 3, qc 13 3 .sub 12 1, qm 2 11, qm 3 13]
def Xn124_10 : C := seqL [0, 2, 3] Xn124_11 Xn124_13
def Xn124_4 : C := seqL [0, 2, 3] Xn124_5 Xn124_10
def Xn124_3 : C := loopL [0, 2, 3] Xn124_4
def Xn124_2 : C := .block 0 Xn124_3
def Xn124_0 : C := .seq Xn124_1 Xn124_2
theorem Xt124 : Text Tryz.prog 124 Xn124_0 28 1 [] := txA [] Tryz.func124
def Xn125_1 : C := regL [0, 1] none [qo 4 (.mv (qi 0))]
def Xn125_4 : C := regL [0, 1, 7, 8] none [qm 6 0, qw 7 6, qo 8 (.mv (qi 0))]
def Xn125_8 : C := regL [0, 1, 7, 8, 9] none [qb 9 3 .lss 8 7]
def Xn125_10 : C := .cond (.tmp 9) .skip (.exit 0)
def Xn125_16 : C := regL [0, 1, 5, 7, 8] none [qm 10 8, qm 5 10]
def Xn125_18 : C := regL [0, 1, 5, 7, 8, 16] none [qm 11 1, qm 12 0, qm 13 5, qa 14 11 12 13, qL 15 169 11 14, qo 16 (.callv (qt 11) [qt 15])]
def Xn125_21 : C := regL [4] none [qm 17 5, qm 4 17]
def Xn125_20 : C := .seq Xn125_21 .ret
def Xn125_19 : C := .cond (.tmp 16) Xn125_20 .skip
def Xn125_17 : C := .seq Xn125_18 Xn125_19
def Xn125_15 : C := .seq Xn125_16 Xn125_17
def Xn125_14 : C := .block 1 Xn125_15
def Xn125_24 : C := regL [0, 1, 7, 8] none [qc 18 3 .add 8 1, qm 8 18]
def Xn125_13 : C := seqL [0, 1, 7, 8] Xn125_14 Xn125_24
def Xn125_9 : C := seqL [0, 1, 7, 8] Xn125_10 Xn125_13
def Xn125_7 : C := .seq Xn125_8 Xn125_9
def Xn125_6 : C := loopL [0, 1, 7, 8] Xn125_7
def Xn125_5 : C := .block 0 Xn125_6
def Xn125_3 : C := .seq Xn125_4 Xn125_5
def Xn125_26 : C := regL [4] none [qo 4 (.mv (qi (-1)))]
def Xn125_25 : C := .seq Xn125_26 .ret
def Xn125_2 : C := seqL [] Xn125_3 Xn125_25
def Xn125_0 : C := .seq Xn125_1 Xn125_2
theorem Xt125 : Text Tryz.prog 125 Xn125_0 19 2 [.t 4] := txA [] Tryz.func125
def Xn126_1 : C := regL [0, 1] none [qo 4 (.mv (.const (.bool false)))]
def Xn126_3 : C := regL [4] none [qm 5 0, qm 6 1, qo 7 (.call 140 [qt 5, qt 6]), qc 8 3 .geq 7 0, qm 4 8]
def Xn126_2 : C := .seq Xn126_3 .ret
def Xn126_0 : C := .seq Xn126_1 Xn126_2
theorem Xt126 : Text Tryz.prog 126 Xn126_0 9 2 [.t 4] := txA [] Tryz.func126
def Xn127_1 : C := regL [0] none [qo 2 (.mv (.const (.bool false)))]
def Xn127_3 : C := regL [2] none [qm 3 0, qo 4 (.bin 21 .lss (qt 3) (.const (.int .i32 97))), qm 5 4, qM 6 0 5 false, qg 7 (.bin 21 .gtr (qt 6) (.const (.int .i32 122))) 5 false, qp 8 5 7, qm 9 8, qM 10 0 9 true, qg 11 (.bin 21 .lss (qt 10) (.const (.int .i32 48))) 9 true, qM 12 11 9 true, qM 13 0 12 false, qg 14 (.bin 21 .gtr (qt 13) (.const (.int .i32 57))) 12 false, qg 15 (.pick 12 (.const (.bool true)) (qt 14)) 9 true, qq 16 9 15, qm 2 16]
def Xn127_2 : C := .seq Xn127_3 .ret
def Xn127_0 : C := .seq Xn127_1 Xn127_2
theorem Xt127 : Text Tryz.prog 127 Xn127_0 17 1 [.t 2] := txA [] Tryz.func127
def Xn128_1 : C := regL [0] none [qo 2 (.mv (.const (.bool false)))]
def Xn128_3 : C := regL [2] none [qm 3 0, qo 4 (.call 129 [qt 3, qi 0, qi 131072]), qn 5 4, qm 2 5]
def Xn128_2 : C := .seq Xn128_3 .ret
def Xn128_0 : C := .seq Xn128_1 Xn128_2
theorem Xt128 : Text Tryz.prog 128 Xn128_0 6 1 [.t 2] := txA [] Tryz.func128
def Xn129_1 : C := regL [0, 1, 2] none [qo 6 (.mv (.const (.bool false)))]
def Xn129_3 : C := regL [6] none [qm 7 1, qm 8 0, qb 9 2 .leq 7 8, qm 10 9, qM 11 0 10 true, qM 12 2 10 true, qg 13 (.bin 2 .leq (qt 11) (qt 12)) 10 true, qq 14 10 13, qm 6 14]
def Xn129_2 : C := .seq Xn129_3 .ret
def Xn129_0 : C := .seq Xn129_1 Xn129_2
theorem Xt129 : Text Tryz.prog 129 Xn129_0 15 3 [.t 6] := txA [] Tryz.func129
def Xn130_1 : C := regL [0] none [qo 2 (.mv (qi 0))]
def Xn130_3 : C := regL [3, 4] none [qm 7 0, qo 8 (.cvt .u64 (qt 7)), qm 3 8, qo 4 (.mv (.const (.int .u64 0)))]
def Xn130_6 : C := regL [3, 4, 9] none [qo 9 (.mv (qi 0))]
def Xn130_10 : C := regL [3, 4, 9, 10] none [qc 10 3 .lss 9 32]
def Xn130_12 : C := .cond (.tmp 10) .skip (.exit 0)
def Xn130_18 : C := regL [3, 4, 5, 9] none [qm 11 9, qm 5 11]
def Xn130_20 : C := regL [3, 4, 6, 9] none [qm 12 5, qo 13 (.bin 3 .mul (qi 2) (qt 12)), qo 14 (.bin 3 .sub (qi 62) (qt 13)), qo 15 (.bin 239 .shl (.const (.int .u64 1)) (qt 14)), qm 6 15]
def Xn130_22 : C := regL [3, 4, 6, 9, 20] none [qm 16 3, qm 17 4, qm 18 6, qb 19 239 .add 17 18, qb 20 239 .geq 16 19]
def Xn130_25 : C := regL [3, 4, 6, 9] none [qm 21 3, qm 22 4, qm 23 6, qb 24 239 .add 22 23, qb 25 239 .sub 21 24, qm 3 25]
def Xn130_26 : C := regL [3, 4, 9] none [qm 26 4, qo 27 (.bin 239 .shr (qt 26) (.const (.int .u64 1))), qm 28 6, qb 29 239 .add 27 28, qm 4 29]
def Xn130_24 : C := .seq Xn130_25 Xn130_26
def Xn130_27 : C := regL [3, 4, 9] none [qm 30 4, qo 31 (.bin 239 .shr (qt 30) (.const (.int .u64 1))), qm 4 31]
def Xn130_23 : C := .cond (.tmp 20) Xn130_24 Xn130_27
def Xn130_21 : C := .seq Xn130_22 Xn130_23
def Xn130_19 : C := .seq Xn130_20 Xn130_21
def Xn130_17 : C := .seq Xn130_18 Xn130_19
def Xn130_16 : C := .block 1 Xn130_17
def Xn130_28 : C := regL [3, 4, 9] none [qc 32 3 .add 9 1, qm 9 32]
def Xn130_15 : C := seqL [3, 4, 9] Xn130_16 Xn130_28
def Xn130_11 : C := seqL [3, 4, 9] Xn130_12 Xn130_15
def Xn130_9 : C := .seq Xn130_10 Xn130_11
def Xn130_8 : C := loopL [3, 4, 9] Xn130_9
def Xn130_7 : C := .block 0 Xn130_8
def Xn130_5 : C := .seq Xn130_6 Xn130_7
def Xn130_30 : C := regL [2] none [qm 33 4, qo 34 (.cvt .i64 (qt 33)), qm 2 34]
def Xn130_29 : C := .seq Xn130_30 .ret
def Xn130_4 : C := seqL [4] Xn130_5 Xn130_29
def Xn130_2 : C := .seq Xn130_3 Xn130_4
def Xn130_0 : C := .seq Xn130_1 Xn130_2
theorem Xt130 : Text Tryz.prog 130 Xn130_0 35 1 [.t 2] := txA [] Tryz.func130
def Xn131_1 : C := regL [1, 2] none [qx 1 133 0, qo 2 (.alc 133 (.agg #[.int .i64 0, .int .i64 0])), qo 3 (.mv (qi 0))]
def Xn131_4 : C := regL [1, 2, 7] none [qL 4 133 2 1, qo 5 (.bls 133 2 1 (.agg #[.int .i64 0, .int .i64 0]) [(0, 2, qt 4)]), qo 6 (.call 105 [qt 5]), qn 7 6]
def Xn131_7 : C := regL [2, 3] none [qo 8 (.bld (.agg #[.int .i64 0, .int .i64 0]) []), qs 133 2 2 8, qo 3 (.mv (qi 4))]
def Xn131_6 : C := .seq Xn131_7 .ret
def Xn131_5 : C := .cond (.tmp 7) Xn131_6 .skip
def Xn131_3 : C := .seq Xn131_4 Xn131_5
def Xn131_11 : C := regL [2, 3] none [qL 9 133 2 1, qs 133 2 2 9, qo 3 (.mv (qi 0))]
def Xn131_10 : C := .seq Xn131_11 .ret
def Xn131_2 : C := seqL [1, 2] Xn131_3 Xn131_10
def Xn131_0 : C := .seq Xn131_1 Xn131_2
theorem Xt131 : Text Tryz.prog 131 Xn131_0 10 1 [.c 2 2 true, .t 3] := txA [1] Tryz.func131
def Xn132_1 : C := regL [0, 1] none [qo 4 (.mv (qi 0))]
def Xn132_3 : C := regL [0, 1, 5] none [qm 6 0, qm 7 1, qo 8 (.call 141 [qt 6, qt 7]), qm 5 8]
def Xn132_6 : C := regL [5, 21] none [qm 9 0, qm 10 5, qm 11 1, qb 12 2 .mul 10 11, qb 13 2 .sub 9 12, qm 14 1, qm 15 0, qm 16 5, qm 17 1, qb 18 2 .mul 16 17, qb 19 2 .sub 15 18, qb 20 2 .sub 14 19, qb 21 2 .geq 13 20]
def Xn132_8 : C := regL [5] none [qm 22 5, qc 23 2 .add 22 1, qm 5 23]
def Xn132_7 : C := .cond (.tmp 21) Xn132_8 .skip
def Xn132_5 : C := .seq Xn132_6 Xn132_7
def Xn132_11 : C := regL [4] none [qm 24 5, qm 4 24]
def Xn132_10 : C := .seq Xn132_11 .ret
def Xn132_4 : C := seqL [5] Xn132_5 Xn132_10
def Xn132_2 : C := .seq Xn132_3 Xn132_4
def Xn132_0 : C := .seq Xn132_1 Xn132_2
theorem Xt132 : Text Tryz.prog 132 Xn132_0 25 2 [.t 4] := txA [] Tryz.func132
def Xn133_1 : C := regL [0] none [qo 2 (.mv (.const (.slice none 0 0)))]
def Xn133_3 : C := regL [2] none [qm 3 0, qo 4 (.call 142 [.const (.slice none 0 0), qt 3]), qm 2 4]
def Xn133_2 : C := .seq Xn133_3 .ret
def Xn133_0 : C := .seq Xn133_1 Xn133_2
theorem Xt133 : Text Tryz.prog 133 Xn133_0 5 1 [.t 2] := txA [] Tryz.func133
def Xn134_1 : C := regL [1] none [qx 1 227 0, qo 2 (.mv (.const (.nilFunc)))]
def Xn134_3 : C := regL [2] none [qo 3 (.mkf 143 [] [qt 1]), qm 2 3]
def Xn134_2 : C := .seq Xn134_3 .ret
def Xn134_0 : C := .seq Xn134_1 Xn134_2
theorem Xt134 : Text Tryz.prog 134 Xn134_0 4 1 [.t 2] := txA [1] Tryz.func134
def Xn135_1 : C := regL [1, 2] none [qx 1 186 0, qo 2 (.alc 231 (.agg #[.int .i64 0, .int .i64 0, .int .i64 0, .int .i64 0, .int .i64 0, .int .i64 0]))]
def Xn135_3 : C := regL [2] none [qf 3 0 1, ql 4 2 1 3, qf 5 1 1, ql 6 2 1 5, qf 7 2 1, ql 8 2 1 7, qo 9 (.bld (.agg #[.int .i64 0, .int .i64 0, .int .i64 0]) [(0, 1, qt 4), (1, 1, qt 6), (2, 1, qt 8)]), qf 10 0 1, ql 11 2 1 10, qf 12 3 1, ql 13 2 1 12, qb 14 2 .add 11 13, qf 15 1 1, ql 16 2 1 15, qf 17 4 1, ql 18 2 1 17, qb 19 2 .add 16 18, qf 20 2 1, ql 21 2 1 20, qf 22 5 1, ql 23 2 1 22, qb 24 2 .add 21 23, qo 25 (.bld (.agg #[.int .i64 0, .int .i64 0, .int .i64 0]) [(0, 1, qt 14), (1, 1, qt 19), (2, 1, qt 24)]), qo 26 (.bld (.agg #[.int .i64 0, .int .i64 0, .int .i64 0, .int .i64 0, .int .i64 0, .int .i64 0]) [(0, 3, qt 9), (3, 3, qt 25)]), qs 231 6 2 26]
def Xn135_2 : C := .seq Xn135_3 .ret
def Xn135_0 : C := .seq Xn135_1 Xn135_2
theorem Xt135 : Text Tryz.prog 135 Xn135_0 27 1 [.c 2 6 true] := txA [1] Tryz.func135
def Xn136_1 : C := regL [1] none [qx 1 188 0, qo 2 (.mv (qi 0)), qo 3 (.mv (.const (.bool false))), qo 4 (.mv (.const (.bool false)))]
def Xn136_3 : C := regL [1, 4] none [qf 9 0 1, ql 10 2 1 9, qc 11 2 .lss 10 0, qf 12 1 1, ql 13 2 1 12, qc 14 2 .lss 13 0, qo 15 (.eqb 4 true (qt 11) (qt 14)), qm 4 15]
def Xn136_5 : C := regL [1, 4, 5, 6] none [qf 17 0 1, ql 18 2 1 17, qf 19 0 1, ql 20 2 1 19, qo 21 (.un .neg (qt 20)), qo 22 (.mx [qt 18, qt 21]), qo 23 (.cvt .u64 (qt 22)), qf 24 1 1, ql 25 2 1 24, qf 26 1 1, ql 27 2 1 26, qo 28 (.un .neg (qt 27)), qo 29 (.mx [qt 25, qt 28]), qo 30 (.cvt .u64 (qt 29)), qo 31 (.call 144 [qt 23, qt 30]), qm 16 31, qe 32 0 16, qe 33 1 16, qm 5 32, qm 6 33]
def Xn136_7 : C := regL [4, 7, 8] none [qm 35 5, qm 36 6, qf 37 2 1, ql 38 2 1 37, qo 39 (.cvt .u64 (qt 38)), qo 40 (.call 145 [qt 35, qt 36, qt 39]), qm 34 40, qe 41 0 34, qe 42 1 34, qm 7 41, qm 8 42]
def Xn136_9 : C := regL [2, 3, 4] none [qm 43 7, qo 44 (.cvt .i64 (qt 43)), qm 45 8, qo 46 (.bin 239 .gtr (qt 45) (.const (.int .u64 0))), qm 47 4, qm 2 44, qm 3 46, qm 4 47]
def Xn136_8 : C := .seq Xn136_9 .ret
def Xn136_6 : C := .seq Xn136_7 Xn136_8
def Xn136_4 : C := .seq Xn136_5 Xn136_6
def Xn136_2 : C := .seq Xn136_3 Xn136_4
def Xn136_0 : C := .seq Xn136_1 Xn136_2
theorem Xt136 : Text Tryz.prog 136 Xn136_0 48 1 [.t 2, .t 3, .t 4] := txA [1] Tryz.func136
def Xn137_1 : C := regL [0, 1, 2, 3, 4, 10] none [qo 10 (.mv (.const (.bool true)))]
def Xn137_3 : C := regL [0, 1, 2, 3, 4, 10, 11] none [qo 11 (.mv (.const (.bool true)))]
def Xn137_8 : C := regL [0, 1, 2, 3, 4, 10, 11, 12] none [qm 21 2, qm 22 1, qb 23 3 .sub 21 22, qm 12 23]
def Xn137_11 : C := regL [0, 1, 2, 3, 4, 10, 11, 12, 25] none [qm 24 12, qc 25 3 .leq 24 12]
def Xn137_14 : C := regL [] none [qm 26 0, qm 27 1, qm 28 2, qm 29 4, qo 30 (.call 146 [qt 26, qt 27, qt 28, qt 29])]
def Xn137_13 : C := .seq Xn137_14 .ret
def Xn137_12 : C := .cond (.tmp 25) Xn137_13 .skip
def Xn137_10 : C := .seq Xn137_11 Xn137_12
def Xn137_19 : C := regL [0, 1, 2, 3, 4, 10, 11, 12, 32] none [qm 31 3, qc 32 3 .eql 31 0]
def Xn137_22 : C := regL [] none [qm 33 0, qm 34 1, qm 35 2, qm 36 4, qo 37 (.call 147 [qt 33, qt 34, qt 35, qt 36])]
def Xn137_21 : C := .seq Xn137_22 .ret
def Xn137_20 : C := .cond (.tmp 32) Xn137_21 .skip
def Xn137_18 : C := .seq Xn137_19 Xn137_20
def Xn137_27 : C := regL [0, 1, 2, 3, 4, 10, 11, 12, 39] none [qm 38 10, qn 39 38]
def Xn137_30 : C := regL [0, 1, 2, 3, 4, 10, 11, 12] none [qm 40 0, qm 41 1, qm 42 2, qm 43 4, qo 44 (.call 148 [qt 40, qt 41, qt 42, qt 43])]
def Xn137_31 : C := regL [0, 1, 2, 3, 4, 10, 11, 12] none [qm 45 3, qc 46 3 .sub 45 1, qm 3 46]
def Xn137_29 : C := .seq Xn137_30 Xn137_31
def Xn137_28 : C := .cond (.tmp 39) Xn137_29 .skip
def Xn137_26 : C := .seq Xn137_27 Xn137_28
def Xn137_34 : C := regL [0, 1, 2, 3, 4, 10, 11, 12, 13, 14] none [qm 48 0, qm 49 1, qm 50 2, qm 51 4, qo 52 (.call 149 [qt 48, qt 49, qt 50, qt 51]), qm 47 52, qe 53 0 47, qe 54 1 47, qm 13 53, qm 14 54]
def Xn137_37 : C := regL [0, 1, 2, 3, 4, 10, 11, 12, 13, 14, 56] none [qm 55 14, qc 56 246 .eql 55 2]
def Xn137_40 : C := regL [0, 1, 2, 3, 4, 10, 11, 12, 13] none [qm 57 0, qm 58 1, qm 59 2, qm 60 4, qo 61 (.call 150 [qt 57, qt 58, qt 59, qt 60])]
def Xn137_42 : C := regL [0, 1, 2, 3, 4, 10, 11, 12, 13] none [qm 62 2, qc 63 3 .sub 62 1, qm 64 13, qm 65 1, qb 66 3 .sub 64 65, qb 67 3 .sub 63 66, qm 13 67]
def Xn137_43 : C := regL [0, 1, 2, 3, 4, 10, 11, 12, 13, 14] none [qo 14 (.mv (qi 1))]
def Xn137_41 : C := .seq Xn137_42 Xn137_43
def Xn137_39 : C := .seq Xn137_40 Xn137_41
def Xn137_38 : C := .cond (.tmp 56) Xn137_39 .skip
def Xn137_36 : C := .seq Xn137_37 Xn137_38
def Xn137_47 : C := regL [0, 1, 2, 3, 4, 10, 11, 12, 13, 75] none [qm 68 10, qm 69 68, qM 70 11 69 true, qq 71 69 70, qm 72 71, qM 73 14 72 true, qg 74 (.bin 246 .eql (qt 73) (qi 1)) 72 true, qq 75 72 74]
def Xn137_50 : C := regL [0, 1, 2, 3, 4, 10, 11, 12, 13, 80] none [qm 76 0, qm 77 1, qm 78 2, qm 79 4, qo 80 (.call 151 [qt 76, qt 77, qt 78, qt 79])]
def Xn137_51 : C := .cond (.tmp 80) .ret .skip
def Xn137_49 : C := .seq Xn137_50 Xn137_51
def Xn137_48 : C := .cond (.tmp 75) Xn137_49 .skip
def Xn137_46 : C := .seq Xn137_47 Xn137_48
def Xn137_57 : C := regL [0, 1, 2, 3, 4, 10, 11, 12, 13, 97] (some [0, 1, 3, 7, 7, 7, 39, 119, 247, 7, 7, 1543, 3591, 8191, 16383, 32767, 65535]) [qm 81 1, qc 82 3 .gtr 81 0, qm 83 82, qM 84 4 83 true, qM 85 0 83 true, qM 86 1 83 true, qg 87 (.bin 3 .sub (qt 86) (qi 1)) 83 true, qg 88 (.ia 2 (qt 85) (qt 87)) 83 true, qg 89 (.ld 133 2 true (qt 88)) 83 true, qM 90 0 83 true, qM 91 13 83 true, qg 92 (.ia 2 (qt 90) (qt 91)) 83 true, qg 93 (.ld 133 2 true (qt 92)) 83 true, qg 94 (.callv (qt 84) [qt 89, qt 93]) 83 true, qg 95 (.bin 3 .lss (qt 94) (qi 0)) 83 true, qg 96 (.un .not (qt 95)) 83 true, qq 97 83 96]
def Xn137_60 : C := regL [0, 2, 3, 4, 10, 11, 15] none [qm 98 0, qm 99 1, qm 100 2, qm 101 13, qm 102 4, qo 103 (.call 152 [qt 98, qt 99, qt 100, qt 101, qt 102]), qm 15 103]
def Xn137_62 : C := regL [0, 1, 2, 3, 4, 10, 11] none [qm 104 15, qm 1 104]
def Xn137_61 : C := .seq Xn137_62 (.exit 1)
def Xn137_59 : C := .seq Xn137_60 Xn137_61
def Xn137_58 : C := .cond (.tmp 97) Xn137_59 .skip
def Xn137_56 : C := .seq Xn137_57 Xn137_58
def Xn137_66 : C := regL [0, 1, 2, 3, 4, 12, 16, 17] none [qm 106 0, qm 107 1, qm 108 2, qm 109 13, qm 110 4, qo 111 (.call 153 [qt 106, qt 107, qt 108, qt 109, qt 110]), qm 105 111, qe 112 0 105, qe 113 1 105, qm 16 112, qm 17 113]
def Xn137_68 : C := regL [0, 1, 2, 3, 4, 11, 12, 16] none [qm 114 17, qm 11 114]
def Xn137_70 : C := regL [0, 1, 2, 3, 4, 11, 12, 16, 18, 19] none [qm 115 16, qm 116 1, qb 117 3 .sub 115 116, qm 118 2, qm 119 16, qb 120 3 .sub 118 119, qm 18 117, qm 19 120]
def Xn137_72 : C := regL [0, 1, 2, 3, 4, 11, 16, 18, 19, 20] none [qm 121 12, qc 122 3 .quo 121 8, qm 20 122]
def Xn137_74 : C := regL [0, 1, 2, 3, 4, 11, 16, 18, 19, 20, 125] none [qm 123 18, qm 124 19, qb 125 3 .lss 123 124]
def Xn137_77 : C := regL [0, 1, 2, 3, 4, 10, 11, 16] none [qm 126 18, qm 127 20, qb 128 3 .geq 126 127, qm 10 128]
def Xn137_79 : C := regL [0, 2, 3, 4, 10, 11, 16] none [qm 129 0, qm 130 1, qm 131 16, qm 132 3, qm 133 4, qo 134 (.call 137 [qt 129, qt 130, qt 131, qt 132, qt 133])]
def Xn137_80 : C := regL [0, 1, 2, 3, 4, 10, 11] none [qm 135 16, qc 136 3 .add 135 1, qm 1 136]
def Xn137_78 : C := .seq Xn137_79 Xn137_80
def Xn137_76 : C := .seq Xn137_77 Xn137_78
def Xn137_82 : C := regL [0, 1, 2, 3, 4, 10, 11, 16] none [qm 137 19, qm 138 20, qb 139 3 .geq 137 138, qm 10 139]
def Xn137_84 : C := regL [0, 1, 3, 4, 10, 11, 16] none [qm 140 0, qm 141 16, qc 142 3 .add 141 1, qm 143 2, qm 144 3, qm 145 4, qo 146 (.call 137 [qt 140, qt 142, qt 143, qt 144, qt 145])]
def Xn137_85 : C := regL [0, 1, 2, 3, 4, 10, 11] none [qm 147 16, qm 2 147]
def Xn137_83 : C := .seq Xn137_84 Xn137_85
def Xn137_81 : C := .seq Xn137_82 Xn137_83
def Xn137_75 : C := .cond (.tmp 125) Xn137_76 Xn137_81
def Xn137_73 : C := .seq Xn137_74 Xn137_75
def Xn137_71 : C := .seq Xn137_72 Xn137_73
def Xn137_69 : C := .seq Xn137_70 Xn137_71
def Xn137_67 : C := .seq Xn137_68 Xn137_69
def Xn137_65 : C := .seq Xn137_66 Xn137_67
def Xn137_55 : C := seqL [0, 1, 2, 3, 4, 12, 13] Xn137_56 Xn137_65
def Xn137_45 : C := seqL [0, 1, 2, 3, 4, 10, 11, 12, 13] Xn137_46 Xn137_55
def Xn137_35 : C := seqL [0, 1, 2, 3, 4, 10, 11, 12, 13, 14] Xn137_36 Xn137_45
def Xn137_33 : C := .seq Xn137_34 Xn137_35
def Xn137_25 : C := seqL [0, 1, 2, 3, 4, 10, 11, 12] Xn137_26 Xn137_33
def Xn137_17 : C := seqL [0, 1, 2, 3, 4, 10, 11, 12] Xn137_18 Xn137_25
def Xn137_9 : C := seqL [0, 1, 2, 3, 4, 10, 11, 12] Xn137_10 Xn137_17
def Xn137_7 : C := .seq Xn137_8 Xn137_9
def Xn137_6 : C := .block 1 Xn137_7
def Xn137_5 : C := loopL [0, 1, 2, 3, 4, 10, 11] Xn137_6
def Xn137_4 : C := .block 0 Xn137_5
def Xn137_2 : C := .seq Xn137_3 Xn137_4
def Xn137_0 : C := .seq Xn137_1 Xn137_2
theorem Xt137 : Text Tryz.prog 137 Xn137_0 148 5 [] := txA [] Tryz.func137
def Xn138_1 : C := regL [0] none [qo 2 (.mv (qi 0))]
def Xn138_5 : C := regL [2] none [qm 3 0, qo 4 (.cvt .u32 (qt 3)), qo 5 (.call 154 [qt 4]), qm 2 5]
def Xn138_4 : C := .seq Xn138_5 .ret
def Xn138_3 : C := .cond (.const (.bool false)) Xn138_4 .skip
def Xn138_9 : C := regL [2] none [qm 6 0, qo 7 (.call 155 [qt 6]), qm 2 7]
def Xn138_8 : C := .seq Xn138_9 .ret
def Xn138_2 : C := seqL [0] Xn138_3 Xn138_8
def Xn138_0 : C := .seq Xn138_1 Xn138_2
theorem Xt138 : Text Tryz.prog 138 Xn138_0 8 1 [.t 2] := txA [] Tryz.func138
def Xn139_1 : C := regL [0, 5, 6, 7] none [ql 5 134 1 1, qw 6 5, qo 7 (.mv (qi 0))]
def Xn139_5 : C := regL [0, 5, 6, 7, 8] none [qb 8 3 .lss 7 6]
def Xn139_7 : C := .cond (.tmp 8) .skip (.exit 0)
def Xn139_13 : C := regL [0, 4, 5, 6, 7] none [qa 9 2 5 7, qL 10 133 2 9, qo 4 (.alc 133 (.agg #[.int .i64 0, .int .i64 0])), qs 133 2 4 10]
def Xn139_15 : C := regL [0, 5, 6, 7, 14] none [qm 11 0, qL 12 133 2 4, qo 13 (.callv (qt 11) [qt 12]), qn 14 13]
def Xn139_16 : C := .cond (.tmp 14) .ret .skip
def Xn139_14 : C := .seq Xn139_15 Xn139_16
def Xn139_12 : C := .seq Xn139_13 Xn139_14
def Xn139_11 : C := .block 1 Xn139_12
def Xn139_19 : C := regL [0, 5, 6, 7] none [qc 15 3 .add 7 1, qm 7 15]
def Xn139_10 : C := seqL [0, 5, 6, 7] Xn139_11 Xn139_19
def Xn139_6 : C := seqL [0, 5, 6, 7] Xn139_7 Xn139_10
def Xn139_4 : C := .seq Xn139_5 Xn139_6
def Xn139_3 : C := loopL [0, 5, 6, 7] Xn139_4
def Xn139_2 : C := .block 0 Xn139_3
def Xn139_0 : C := .seq Xn139_1 Xn139_2
theorem Xt139 : Text Tryz.prog 139 Xn139_0 16 2 [] := txA [] Tryz.func139
def Xn140_1 : C := regL [0, 1] none [qo 4 (.mv (qi 0))]
def Xn140_3 : C := regL [4] none [qm 5 0, qm 6 1, qo 7 (.call 156 [qt 5, qt 6, .const (.bool true)]), qm 4 7]
def Xn140_2 : C := .seq Xn140_3 .ret
def Xn140_0 : C := .seq Xn140_1 Xn140_2
theorem Xt140 : Text Tryz.prog 140 Xn140_0 8 2 [.t 4] := txA [] Tryz.func140
def Xn141_1 : C := regL [0, 1] none [qo 4 (.mv (qi 0))]
def Xn141_3 : C := regL [0, 1, 5] none [qm 6 0, qm 7 1, qb 8 2 .quo 6 7, qm 5 8]
def Xn141_6 : C := regL [5, 12] none [qm 9 0, qm 10 1, qb 11 2 .rem 9 10, qc 12 2 .lss 11 0]
def Xn141_8 : C := regL [5] none [qm 13 5, qc 14 2 .sub 13 1, qm 5 14]
def Xn141_7 : C := .cond (.tmp 12) Xn141_8 .skip
def Xn141_5 : C := .seq Xn141_6 Xn141_7
def Xn141_11 : C := regL [4] none [qm 15 5, qm 4 15]
def Xn141_10 : C := .seq Xn141_11 .ret
def Xn141_4 : C := seqL [5] Xn141_5 Xn141_10
def Xn141_2 : C := .seq Xn141_3 Xn141_4
def Xn141_0 : C := .seq Xn141_1 Xn141_2
theorem Xt141 : Text Tryz.prog 141 Xn141_0 16 2 [.t 4] := txA [] Tryz.func141
def Xn142_1 : C := regL [1, 2] none [qo 2 (.box false 199 (qt 0)), qo 4 (.mv (.const (.slice none 0 0)))]
def Xn142_4 : C := regL [2, 6] none [qm 6 1]
def Xn142_7 : C := regL [2, 5] none [qo 5 (.alc 176 (.agg #[.int .i64 0, .int .i64 0, .int .i64 0, .int .i64 0, .int .i64 0, .int .i64 0, .int .i64 0, .int .i64 0, .int .i64 0, .int .i64 0, .slice none 0 0, .int .i64 0, .int .i64 0, .int .i64 0, .int .i64 0])), qs 176 15 5 7]
def Xn142_9 : C := regL [] none [ql 8 199 1 2, qL 9 176 15 5, qo 10 (.bls 176 15 1 (.agg #[.int .i64 0, .int .i64 0, .int .i64 0, .int .i64 0, .int .i64 0, .int .i64 0, .int .i64 0, .int .i64 0, .int .i64 0, .int .i64 0, .slice none 0 0, .int .i64 0, .int .i64 0, .int .i64 0, .int .i64 0]) [(0, 15, qt 9)]), qo 11 (.app 176 15 136 (qt 8) (qt 10)), qs 199 1 2 11]
def Xn142_8 : C := .block 1 Xn142_9
def Xn142_6 : C := .rfn (.tmp 6) [7] Xn142_7 Xn142_8
def Xn142_5 : C := .block 0 Xn142_6
def Xn142_3 : C := .seq Xn142_4 Xn142_5
def Xn142_11 : C := regL [4] none [ql 12 199 1 2, qm 4 12]
def Xn142_10 : C := .seq Xn142_11 .ret
def Xn142_2 : C := seqL [2] Xn142_3 Xn142_10
def Xn142_0 : C := .seq Xn142_1 Xn142_2
theorem Xt142 : Text Tryz.prog 142 Xn142_0 13 2 [.t 4] := txA [] Tryz.func142
def Xn143_1 : C := regL [0, 1, 3] none [qf 9 4 1, qf 10 0 9, qL 11 133 2 10, qo 3 (.alc 133 (.agg #[.int .i64 0, .int .i64 0])), qs 133 2 3 11]
def Xn143_3 : C := regL [0, 1, 3, 14, 15, 16] none [qf 12 0 1, qf 13 1 12, ql 14 139 1 13, qw 15 14, qo 16 (.mv (qi 0))]
def Xn143_7 : C := regL [0, 1, 3, 14, 15, 16, 17] none [qb 17 3 .lss 16 15]
def Xn143_9 : C := .cond (.tmp 17) .skip (.exit 0)
def Xn143_15 : C := regL [0, 1, 3, 4, 5, 14, 15, 16] none [qm 18 16, qa 19 11 14 16, qL 20 169 11 19, qo 5 (.alc 169 (.agg #[.int .i64 0, .int .i64 0, .int .i64 0, .int .i64 0, .int .i64 0, .int .i64 0, .int .i64 0, .int .i64 0, .int .i64 0, .int .i64 0, .slice none 0 0])), qm 4 18, qs 169 11 5 20]
def Xn143_17 : C := regL [0, 1, 3, 6, 14, 15, 16] (some [0, 1, 0, 0, 8, 24, 0, 120, 248, 511, 0, 2047]) [qL 21 169 11 5, qo 22 (.bld (.agg #[.int .i64 0, .int .i64 0, .int .i64 0, .int .i64 0, .int .i64 0, .int .i64 0, .int .i64 0, .int .i64 0, .int .i64 0, .int .i64 0, .slice none 0 0]) [(0, 11, qt 21)]), qL 23 133 2 3, qf 24 4 1, qf 25 2 24, ql 26 134 1 25, qm 27 4, qa 28 2 26 27, qL 29 133 2 28, qo 30 (.bld (.agg #[.int .i64 0, .int .i64 0, .int .i64 0, .int .i64 0, .int .i64 0, .int .i64 0, .int .i64 0, .int .i64 0, .int .i64 0, .int .i64 0, .slice none 0 0, .int .i64 0, .int .i64 0, .int .i64 0, .int .i64 0]) [(0, 11, qt 22), (11, 2, qt 23), (13, 2, qt 29)]), qo 6 (.alc 176 (.agg #[.int .i64 0, .int .i64 0, .int .i64 0, .int .i64 0, .int .i64 0, .int .i64 0, .int .i64 0, .int .i64 0, .int .i64 0, .int .i64 0, .slice none 0 0, .int .i64 0, .int .i64 0, .int .i64 0, .int .i64 0])), qs 176 15 6 30]
def Xn143_20 : C := regL [0, 1, 3, 6, 14, 15, 16, 46] none [qf 31 13 6, qL 32 133 2 31, qo 33 (.call 83 [qt 32]), qc 34 30 .neq 33 0, qm 35 34, qh 36 13 6 35 false, qg 37 (.ld 133 2 true (qt 36)) 35 false, qg 38 (.ld 133 2 true (qt 3)) 35 false, qg 39 (.eqb 5 false (qt 37) (qt 38)) 35 false, qp 40 35 39, qm 41 40, qM 42 0 41 false, qg 43 (.ld 176 15 true (qt 6)) 41 false, qg 44 (.callv (qt 42) [qt 43]) 41 false, qg 45 (.un .not (qt 44)) 41 false, qp 46 41 45]
def Xn143_21 : C := .cond (.tmp 46) .ret .skip
def Xn143_19 : C := .seq Xn143_20 Xn143_21
def Xn143_25 : C := regL [0, 1, 3, 7, 8, 14, 15, 16] (some [0, 0, 2, 6, 15, 31, 63, 63, 0, 383, 1023]) [qL 48 176 15 6, qf 49 0 6, qL 50 171 11 49, qo 51 (.call 87 [qt 50]), qo 52 (.call 86 [qt 48, qt 51, qi 0]), qm 47 52, qe 53 0 47, qe 54 1 47, qo 7 (.alc 133 (.agg #[.int .i64 0, .int .i64 0])), qs 133 2 7 53, qm 8 54]
def Xn143_28 : C := regL [0, 1, 3, 7, 14, 15, 16, 56] none [qm 55 8, qc 56 30 .neq 55 0]
def Xn143_29 : C := .cond (.tmp 56) .ret .skip
def Xn143_27 : C := .seq Xn143_28 Xn143_29
def Xn143_32 : C := regL [0, 1, 3, 14, 15, 16] none [qL 57 133 2 7, qs 133 2 3 57]
def Xn143_26 : C := seqL [0, 1, 3, 7, 14, 15, 16] Xn143_27 Xn143_32
def Xn143_24 : C := .seq Xn143_25 Xn143_26
def Xn143_18 : C := seqL [0, 1, 3, 6, 14, 15, 16] Xn143_19 Xn143_24
def Xn143_16 : C := .seq Xn143_17 Xn143_18
def Xn143_14 : C := .seq Xn143_15 Xn143_16
def Xn143_13 : C := .block 1 Xn143_14
def Xn143_33 : C := regL [0, 1, 3, 14, 15, 16] none [qc 58 3 .add 16 1, qm 16 58]
def Xn143_12 : C := seqL [0, 1, 3, 14, 15, 16] Xn143_13 Xn143_33
def Xn143_8 : C := seqL [0, 1, 3, 14, 15, 16] Xn143_9 Xn143_12
def Xn143_6 : C := .seq Xn143_7 Xn143_8
def Xn143_5 : C := loopL [0, 1, 3, 14, 15, 16] Xn143_6
def Xn143_4 : C := .block 0 Xn143_5
def Xn143_2 : C := .seq Xn143_3 Xn143_4
def Xn143_0 : C := .seq Xn143_1 Xn143_2
theorem Xt143 : Text Tryz.prog 143 Xn143_0 59 2 [] := txA [] Tryz.func143
def Xn144_1 : C := regL [0, 1] none [qo 4 (.mv (.const (.int .u64 0))), qo 5 (.mv (.const (.int .u64 0)))]
def Xn144_3 : C := regL [0, 1, 6] none [qm 14 0, qo 15 (.bin 239 .and (qt 14) (.const (.int .u64 4294967295))), qm 6 15]
def Xn144_5 : C := regL [0, 1, 6, 7] none [qm 16 0, qo 17 (.bin 239 .shr (qt 16) (.const (.int .u64 32))), qm 7 17]
def Xn144_7 : C := regL [0, 1, 6, 7, 8] none [qm 18 1, qo 19 (.bin 239 .and (qt 18) (.const (.int .u64 4294967295))), qm 8 19]
def Xn144_9 : C := regL [0, 1, 6, 7, 8, 9] none [qm 20 1, qo 21 (.bin 239 .shr (qt 20) (.const (.int .u64 32))), qm 9 21]
def Xn144_11 : C := regL [0, 1, 6, 7, 8, 9, 10] none [qm 22 6, qm 23 8, qb 24 239 .mul 22 23, qm 10 24]
def Xn144_13 : C := regL [0, 1, 6, 7, 9, 11] none [qm 25 7, qm 26 8, qb 27 239 .mul 25 26, qm 28 10, qo 29 (.bin 239 .shr (qt 28) (.const (.int .u64 32))), qb 30 239 .add 27 29, qm 11 30]
def Xn144_15 : C := regL [0, 1, 6, 7, 9, 11, 12] none [qm 31 11, qo 32 (.bin 239 .and (qt 31) (.const (.int .u64 4294967295))), qm 12 32]
def Xn144_17 : C := regL [0, 1, 6, 7, 9, 12, 13] none [qm 33 11, qo 34 (.bin 239 .shr (qt 33) (.const (.int .u64 32))), qm 13 34]
def Xn144_19 : C := regL [0, 1, 7, 9, 12, 13] none [qm 35 12, qm 36 6, qm 37 9, qb 38 239 .mul 36 37, qb 39 239 .add 35 38, qm 12 39]
def Xn144_21 : C := regL [0, 1, 4] none [qm 40 7, qm 41 9, qb 42 239 .mul 40 41, qm 43 13, qb 44 239 .add 42 43, qm 45 12, qo 46 (.bin 239 .shr (qt 45) (.const (.int .u64 32))), qb 47 239 .add 44 46, qm 4 47]
def Xn144_23 : C := regL [4, 5] none [qm 48 0, qm 49 1, qb 50 239 .mul 48 49, qm 5 50]
def Xn144_22 : C := .seq Xn144_23 .ret
def Xn144_20 : C := .seq Xn144_21 Xn144_22
def Xn144_18 : C := .seq Xn144_19 Xn144_20
def Xn144_16 : C := .seq Xn144_17 Xn144_18
def Xn144_14 : C := .seq Xn144_15 Xn144_16
def Xn144_12 : C := .seq Xn144_13 Xn144_14
def Xn144_10 : C := .seq Xn144_11 Xn144_12
def Xn144_8 : C := .seq Xn144_9 Xn144_10
def Xn144_6 : C := .seq Xn144_7 Xn144_8
def Xn144_4 : C := .seq Xn144_5 Xn144_6
def Xn144_2 : C := .seq Xn144_3 Xn144_4
def Xn144_0 : C := .seq Xn144_1 Xn144_2
theorem Xt144 : Text Tryz.prog 144 Xn144_0 51 2 [.t 4, .t 5] := txA [] Tryz.func144
def Xn145_1 : C := regL [0, 1, 2] none [qo 6 (.mv (.const (.int .u64 0))), qo 7 (.mv (.const (.int .u64 0)))]
def Xn145_4 : C := regL [0, 1, 2, 20] none [qm 19 2, qo 20 (.bin 239 .eql (qt 19) (.const (.int .u64 0)))]
def Xn145_6 : C := regL [0, 1, 2] none [qo 21 (.ld 258 1 false (.global 0)), ⟨none, .dead, none⟩]
def Xn145_5 : C := .cond (.tmp 20) Xn145_6 .skip
def Xn145_3 : C := .seq Xn145_4 Xn145_5
def Xn145_10 : C := regL [0, 1, 2, 24] none [qm 22 2, qm 23 0, qb 24 239 .leq 22 23]
def Xn145_12 : C := regL [0, 1, 2] none [qo 25 (.ld 258 1 false (.global 1)), ⟨none, .dead, none⟩]
def Xn145_11 : C := .cond (.tmp 24) Xn145_12 .skip
def Xn145_9 : C := .seq Xn145_10 Xn145_11
def Xn145_16 : C := regL [0, 1, 2, 27] none [qm 26 0, qo 27 (.bin 239 .eql (qt 26) (.const (.int .u64 0)))]
def Xn145_19 : C := regL [6, 7] (some [0, 0, 3, 0, 0, 24, 7, 127]) [qm 28 1, qm 29 2, qb 30 239 .quo 28 29, qm 31 1, qm 32 2, qb 33 239 .rem 31 32, qm 6 30, qm 7 33]
def Xn145_18 : C := .seq Xn145_19 .ret
def Xn145_17 : C := .cond (.tmp 27) Xn145_18 .skip
def Xn145_15 : C := .seq Xn145_16 Xn145_17
def Xn145_23 : C := regL [0, 1, 2, 8] none [qm 34 2, qo 35 (.call 157 [qt 34]), qo 36 (.cvt .u64 (qt 35)), qm 8 36]
def Xn145_25 : C := regL [0, 1, 2, 8] none [qm 37 2, qm 38 8, qb 39 239 .shl 37 38, qm 2 39]
def Xn145_27 : C := regL [0, 1, 2, 8, 9] none [qm 40 2, qo 41 (.bin 239 .shr (qt 40) (.const (.int .u64 32))), qm 9 41]
def Xn145_29 : C := regL [0, 1, 2, 8, 9, 10] none [qm 42 2, qo 43 (.bin 239 .and (qt 42) (.const (.int .u64 4294967295))), qm 10 43]
def Xn145_31 : C := regL [1, 2, 8, 9, 10, 11] none [qm 44 0, qm 45 8, qb 46 239 .shl 44 45, qm 47 1, qm 48 8, qo 49 (.bin 60 .sub (.const (.int .u64 64)) (qt 48)), qb 50 239 .shr 47 49, qb 51 239 .or 46 50, qm 11 51]
def Xn145_33 : C := regL [2, 8, 9, 10, 11, 12] none [qm 52 1, qm 53 8, qb 54 239 .shl 52 53, qm 12 54]
def Xn145_35 : C := regL [2, 8, 9, 10, 11, 12, 13] none [qm 55 12, qo 56 (.bin 239 .shr (qt 55) (.const (.int .u64 32))), qm 13 56]
def Xn145_37 : C := regL [2, 8, 9, 10, 11, 13, 14] none [qm 57 12, qo 58 (.bin 239 .and (qt 57) (.const (.int .u64 4294967295))), qm 14 58]
def Xn145_39 : C := regL [2, 8, 9, 10, 11, 13, 14, 15] none [qm 59 11, qm 60 9, qb 61 239 .quo 59 60, qm 15 61]
def Xn145_41 : C := regL [2, 8, 9, 10, 11, 13, 14, 15, 16] none [qm 62 11, qm 63 15, qm 64 9, qb 65 239 .mul 63 64, qb 66 239 .sub 62 65, qm 16 66]
def Xn145_47 : C := regL [2, 8, 9, 10, 11, 13, 14, 15, 16, 78] none [qm 67 15, qo 68 (.bin 239 .geq (qt 67) (.const (.int .u64 4294967296))), qm 69 68, qM 70 15 69 false, qM 71 10 69 false, qg 72 (.bin 239 .mul (qt 70) (qt 71)) 69 false, qM 73 16 69 false, qg 74 (.bin 239 .mul (.const (.int .u64 4294967296)) (qt 73)) 69 false, qM 75 13 69 false, qg 76 (.bin 239 .add (qt 74) (qt 75)) 69 false, qg 77 (.bin 239 .gtr (qt 72) (qt 76)) 69 false, qp 78 69 77]
def Xn145_48 : C := .cond (.tmp 78) .skip (.exit 0)
def Xn145_46 : C := .seq Xn145_47 Xn145_48
def Xn145_53 : C := regL [2, 8, 9, 10, 11, 13, 14, 15, 16] none [qm 79 15, qo 80 (.bin 239 .sub (qt 79) (.const (.int .u64 1))), qm 15 80]
def Xn145_55 : C := regL [2, 8, 9, 10, 11, 13, 14, 15, 16] none [qm 81 16, qm 82 9, qb 83 239 .add 81 82, qm 16 83]
def Xn145_57 : C := regL [2, 8, 9, 10, 11, 13, 14, 15, 16, 85] none [qm 84 16, qo 85 (.bin 239 .geq (qt 84) (.const (.int .u64 4294967296)))]
def Xn145_58 : C := .cond (.tmp 85) (.exit 0) .skip
def Xn145_56 : C := .seq Xn145_57 Xn145_58
def Xn145_54 : C := .seq Xn145_55 Xn145_56
def Xn145_52 : C := .seq Xn145_53 Xn145_54
def Xn145_51 : C := .block 1 Xn145_52
def Xn145_45 : C := seqL [2, 8, 9, 10, 11, 13, 14, 15, 16] Xn145_46 Xn145_51
def Xn145_44 : C := loopL [2, 8, 9, 10, 11, 13, 14, 15, 16] Xn145_45
def Xn145_43 : C := .block 0 Xn145_44
def Xn145_62 : C := regL [2, 8, 9, 10, 14, 15, 17] none [qm 86 11, qo 87 (.bin 239 .mul (qt 86) (.const (.int .u64 4294967296))), qm 88 13, qb 89 239 .add 87 88, qm 90 15, qm 91 2, qb 92 239 .mul 90 91, qb 93 239 .sub 89 92, qm 17 93]
def Xn145_64 : C := regL [2, 8, 9, 10, 14, 15, 17, 18] none [qm 94 17, qm 95 9, qb 96 239 .quo 94 95, qm 18 96]
def Xn145_66 : C := regL [2, 8, 9, 10, 14, 15, 16, 17, 18] none [qm 97 17, qm 98 18, qm 99 9, qb 100 239 .mul 98 99, qb 101 239 .sub 97 100, qm 16 101]
def Xn145_72 : C := regL [2, 8, 9, 10, 14, 15, 16, 17, 18, 113] none [qm 102 18, qo 103 (.bin 239 .geq (qt 102) (.const (.int .u64 4294967296))), qm 104 103, qM 105 18 104 false, qM 106 10 104 false, qg 107 (.bin 239 .mul (qt 105) (qt 106)) 104 false, qM 108 16 104 false, qg 109 (.bin 239 .mul (.const (.int .u64 4294967296)) (qt 108)) 104 false, qM 110 14 104 false, qg 111 (.bin 239 .add (qt 109) (qt 110)) 104 false, qg 112 (.bin 239 .gtr (qt 107) (qt 111)) 104 false, qp 113 104 112]
def Xn145_73 : C := .cond (.tmp 113) .skip (.exit 2)
def Xn145_71 : C := .seq Xn145_72 Xn145_73
def Xn145_78 : C := regL [2, 8, 9, 10, 14, 15, 16, 17, 18] none [qm 114 18, qo 115 (.bin 239 .sub (qt 114) (.const (.int .u64 1))), qm 18 115]
def Xn145_80 : C := regL [2, 8, 9, 10, 14, 15, 16, 17, 18] none [qm 116 16, qm 117 9, qb 118 239 .add 116 117, qm 16 118]
def Xn145_82 : C := regL [2, 8, 9, 10, 14, 15, 16, 17, 18, 120] none [qm 119 16, qo 120 (.bin 239 .geq (qt 119) (.const (.int .u64 4294967296)))]
def Xn145_83 : C := .cond (.tmp 120) (.exit 2) .skip
def Xn145_81 : C := .seq Xn145_82 Xn145_83
def Xn145_79 : C := .seq Xn145_80 Xn145_81
def Xn145_77 : C := .seq Xn145_78 Xn145_79
def Xn145_76 : C := .block 3 Xn145_77
def Xn145_70 : C := seqL [2, 8, 9, 10, 14, 15, 16, 17, 18] Xn145_71 Xn145_76
def Xn145_69 : C := loopL [2, 8, 9, 10, 14, 15, 16, 17, 18] Xn145_70
def Xn145_68 : C := .block 2 Xn145_69
def Xn145_87 : C := regL [6, 7] none [qm 121 15, qo 122 (.bin 239 .mul (qt 121) (.const (.int .u64 4294967296))), qm 123 18, qb 124 239 .add 122 123, qm 125 17, qo 126 (.bin 239 .mul (qt 125) (.const (.int .u64 4294967296))), qm 127 14, qb 128 239 .add 126 127, qm 129 18, qm 130 2, qb 131 239 .mul 129 130, qb 132 239 .sub 128 131, qm 133 8, qb 134 239 .shr 132 133, qm 6 124, qm 7 134]
def Xn145_86 : C := .seq Xn145_87 .ret
def Xn145_67 : C := seqL [2, 8, 14, 15, 17, 18] Xn145_68 Xn145_86
def Xn145_65 : C := .seq Xn145_66 Xn145_67
def Xn145_63 : C := .seq Xn145_64 Xn145_65
def Xn145_61 : C := .seq Xn145_62 Xn145_63
def Xn145_42 : C := seqL [2, 8, 9, 10, 11, 13, 14, 15] Xn145_43 Xn145_61
def Xn145_40 : C := .seq Xn145_41 Xn145_42
def Xn145_38 : C := .seq Xn145_39 Xn145_40
def Xn145_36 : C := .seq Xn145_37 Xn145_38
def Xn145_34 : C := .seq Xn145_35 Xn145_36
def Xn145_32 : C := .seq Xn145_33 Xn145_34
def Xn145_30 : C := .seq Xn145_31 Xn145_32
def Xn145_28 : C := .seq Xn145_29 Xn145_30
def Xn145_26 : C := .seq Xn145_27 Xn145_28
def Xn145_24 : C := .seq Xn145_25 Xn145_26
def Xn145_22 : C := .seq Xn145_23 Xn145_24
def Xn145_14 : C := seqL [0, 1, 2] Xn145_15 Xn145_22
def Xn145_8 : C := seqL [0, 1, 2] Xn145_9 Xn145_14
def Xn145_2 : C := seqL [0, 1, 2] Xn145_3 Xn145_8
def Xn145_0 : C := .seq Xn145_1 Xn145_2
theorem Xt145 : Text Tryz.prog 145 Xn145_0 135 3 [.t 6, .t 7] := txA [] Tryz.func145
def Xn146_1 : C := regL [0, 1, 2, 3, 8] none [qm 10 1, qc 11 3 .add 10 1, qm 8 11]
def Xn146_6 : C := regL [0, 1, 2, 3, 8, 14] none [qm 12 8, qm 13 2, qb 14 3 .lss 12 13]
def Xn146_7 : C := .cond (.tmp 14) .skip (.exit 0)
def Xn146_5 : C := .seq Xn146_6 Xn146_7
def Xn146_13 : C := regL [0, 1, 2, 3, 8, 9] none [qm 17 8, qm 9 17]
def Xn146_18 : C := regL [0, 1, 2, 3, 8, 9, 34] (some [0, 0, 3, 7, 15, 15, 15, 111, 239, 15, 15, 1039, 3599, 7695, 16383, 32767, 65535]) [qm 18 9, qm 19 1, qb 20 3 .gtr 18 19, qm 21 20, qM 22 3 21 true, qM 23 0 21 true, qM 24 9 21 true, qg 25 (.ia 2 (qt 23) (qt 24)) 21 true, qg 26 (.ld 133 2 true (qt 25)) 21 true, qM 27 0 21 true, qM 28 9 21 true, qg 29 (.bin 3 .sub (qt 28) (qi 1)) 21 true, qg 30 (.ia 2 (qt 27) (qt 29)) 21 true, qg 31 (.ld 133 2 true (qt 30)) 21 true, qg 32 (.callv (qt 22) [qt 26, qt 31]) 21 true, qg 33 (.bin 3 .lss (qt 32) (qi 0)) 21 true, qq 34 21 33]
def Xn146_19 : C := .cond (.tmp 34) .skip (.exit 2)
def Xn146_17 : C := .seq Xn146_18 Xn146_19
def Xn146_24 : C := regL [0, 1, 2, 3, 8, 9] (some [0, 0, 0, 0, 8, 0, 0, 64, 224, 480, 0, 0, 3072, 7168, 16355, 32739, 65535, 131071]) [qm 37 0, qm 38 9, qm 39 0, qm 40 9, qc 41 3 .sub 40 1, qm 42 0, qm 43 9, qc 44 3 .sub 43 1, qa 45 2 42 44, qL 46 133 2 45, qm 47 0, qm 48 9, qa 49 2 47 48, qL 50 133 2 49, qa 51 2 37 38, qs 133 2 51 46, qa 52 2 39 41, qs 133 2 52 50]
def Xn146_23 : C := .block 3 Xn146_24
def Xn146_25 : C := regL [0, 1, 2, 3, 8, 9] none [qm 35 9, qc 36 3 .sub 35 1, qm 9 36]
def Xn146_22 : C := seqL [0, 1, 2, 3, 8, 9] Xn146_23 Xn146_25
def Xn146_16 : C := seqL [0, 1, 2, 3, 8, 9] Xn146_17 Xn146_22
def Xn146_15 : C := loopL [0, 1, 2, 3, 8, 9] Xn146_16
def Xn146_14 : C := .block 2 Xn146_15
def Xn146_12 : C := .seq Xn146_13 Xn146_14
def Xn146_11 : C := .block 1 Xn146_12
def Xn146_26 : C := regL [0, 1, 2, 3, 8] none [qm 15 8, qc 16 3 .add 15 1, qm 8 16]
def Xn146_10 : C := seqL [0, 1, 2, 3, 8] Xn146_11 Xn146_26
def Xn146_4 : C := seqL [0, 1, 2, 3, 8] Xn146_5 Xn146_10
def Xn146_3 : C := loopL [0, 1, 2, 3, 8] Xn146_4
def Xn146_2 : C := .block 0 Xn146_3
def Xn146_0 : C := .seq Xn146_1 Xn146_2
theorem Xt146 : Text Tryz.prog 146 Xn146_0 53 4 [] := txA [] Tryz.func146
def Xn155_1 : C := regL [0, 2] none [qo 2 (.mv (qi 0))]
def Xn155_4 : C := regL [0, 2, 4] none [qm 3 0, qo 4 (.bin 239 .geq (qt 3) (.const (.int .u64 4294967296)))]
def Xn155_7 : C := regL [0] none [qm 5 0, qo 6 (.bin 239 .shr (qt 5) (.const (.int .u64 32))), qm 0 6]
def Xn155_8 : C := regL [0, 2] none [qo 2 (.mv (qi 32))]
def Xn155_6 : C := .seq Xn155_7 Xn155_8
def Xn155_5 : C := .cond (.tmp 4) Xn155_6 .skip
def Xn155_3 : C := .seq Xn155_4 Xn155_5
def Xn155_12 : C := regL [0, 2, 8] none [qm 7 0, qo 8 (.bin 239 .geq (qt 7) (.const (.int .u64 65536)))]
def Xn155_15 : C := regL [0, 2] none [qm 9 0, qo 10 (.bin 239 .shr (qt 9) (.const (.int .u64 16))), qm 0 10]
def Xn155_16 : C := regL [0, 2] none [qm 11 2, qc 12 3 .add 11 16, qm 2 12]
def Xn155_14 : C := .seq Xn155_15 Xn155_16
def Xn155_13 : C := .cond (.tmp 8) Xn155_14 .skip
def Xn155_11 : C := .seq Xn155_12 Xn155_13
def Xn155_20 : C := regL [0, 2, 14] none [qm 13 0, qo 14 (.bin 239 .geq (qt 13) (.const (.int .u64 256)))]
def Xn155_23 : C := regL [0, 2] none [qm 15 0, qo 16 (.bin 239 .shr (qt 15) (.const (.int .u64 8))), qm 0 16]
def Xn155_24 : C := regL [0, 2] none [qm 17 2, qc 18 3 .add 17 8, qm 2 18]
def Xn155_22 : C := .seq Xn155_23 Xn155_24
def Xn155_21 : C := .cond (.tmp 14) Xn155_22 .skip
def Xn155_19 : C := .seq Xn155_20 Xn155_21
def Xn155_27 : C := regL [2] none [qm 19 2, qm 20 0, qo 21 (.cvt .u8 (qt 20)), ⟨some 22, .sidx (.const (.string ⟨#[0, 1, 2, 2, 3, 3, 3, 3, 4, 4, 4, 4, 4, 4, 4, 4, 5, 5, 5, 5, 5, 5, 5, 5, 5, 5, 5, 5, 5, 5, 5, 5, 6, 6, 6, 6, 6, 6, 6, 6, 6, 6, 6, 6, 6, 6, 6, 6, 6, 6, 6, 6, 6, 6, 6, 6, 6, 6, 6, 6, 6, 6, 6, 6, 7, 7, 7, 7, 7, 7, 7, 7, 7, 7, 7, 7, 7, 7, 7, 7, 7, 7, 7, 7, 7, 7, 7, 7, 7, 7, 7, 7, 7, 7, 7, 7, 7, 7, 7, 7, 7, 7, 7, 7, 7, 7, 7, 7, 7, 7, 7, 7, 7, 7, 7, 7, 7, 7, 7, 7, 7, 7, 7, 7, 7, 7, 7, 7, 8, 8, 8, 8, 8, 8, 8, 8, 8, 8, 8, 8, 8, 8, 8, 8, 8, 8, 8, 8, 8, 8, 8, 8, 8, 8, 8, 8, 8, 8, 8, 8, 8, 8, 8, 8, 8, 8, 8, 8, 8, 8, 8, 8, 8, 8, 8, 8, 8, 8, 8, 8, 8, 8, 8, 8, 8, 8, 8, 8, 8, 8, 8, 8, 8, 8, 8, 8, 8, 8, 8, 8, 8, 8, 8, 8, 8, 8, 8, 8, 8, 8, 8, 8, 8, 8, 8, 8, 8, 8, 8, 8, 8, 8, 8, 8, 8, 8, 8, 8, 8, 8, 8, 8, 8, 8, 8, 8, 8, 8, 8, 8, 8, 8, 8, 8, 8, 8, 8, 8, 8, 8, 8, 8, 8, 8, 8, 8]⟩)) (.tmp 21), none⟩, qo 23 (.cvt .i64 (qt 22)), qb 24 3 .add 19 23, qm 2 24]
def Xn155_26 : C := .seq Xn155_27 .ret
def Xn155_18 : C := seqL [0, 2] Xn155_19 Xn155_26
def Xn155_10 : C := seqL [0, 2] Xn155_11 Xn155_18
def Xn155_2 : C := seqL [0, 2] Xn155_3 Xn155_10
def Xn155_0 : C := .seq Xn155_1 Xn155_2
theorem Xt155 : Text Tryz.prog 155 Xn155_0 25 1 [.t 2] := txA [] Tryz.func155
def Xn157_1 : C := regL [0] none [qo 2 (.mv (qi 0))]
def Xn157_3 : C := regL [2] none [qm 3 0, qo 4 (.call 155 [qt 3]), qo 5 (.bin 3 .sub (qi 64) (qt 4)), qm 2 5]
def Xn157_2 : C := .seq Xn157_3 .ret
def Xn157_0 : C := .seq Xn157_1 Xn157_2
theorem Xt157 : Text Tryz.prog 157 Xn157_0 6 1 [.t 2] := txA [] Tryz.func157
end Go.Proofs.YtlahcoaofbpinaaGreat
namespace Go.Proofs.YtlahcoaofbpinaaGreat.R
set_option linter.unusedVariables false
structure Edg where
  x : Nat
  y : Nat
  c : Int
abbrev far : Int := 1125899906842624
abbrev gi (l : List Int) (i : Nat) : Int := l.getD i 0
def stp (o : List Int) (e : Edg) : List Int := if 0 ≤ e.c ∧ gi o e.x < far ∧ gi o e.x + e.c < gi o e.y then o.set e.y (gi o e.x + e.c) else o
def pas (o : List Int) (es : List Edg) : List Int := es.foldl stp o
inductive Wk (es : List Edg) (s : Nat) : Nat → Int → Prop
  | nil : Wk es s s 0
  | snoc {e : Edg} {d : Int} : Wk es s e.x d → e ∈ es → 0 ≤ e.c → Wk es s e.y (d + e.c)
theorem Wk.mono {es fs : List Edg} {s y : Nat} {d : Int} (h : Wk es s y d) (hf : ∀ e ∈ es, 0 ≤ e.c → e ∈ fs) : Wk fs s y d := by
  induction h with
  | nil => exact .nil
  | snoc _ h2 h3 ih => exact .snoc ih (hf _ h2 h3) h3
theorem Wk.nn {es : List Edg} {s y : Nat} {d : Int} (h : Wk es s y d) : 0 ≤ d := by
  induction h with
  | nil => exact Int.le_refl _
  | snoc _ _ h3 ih => omega
theorem stp_len (o : List Int) (e : Edg) : (stp o e).length = o.length := by
  unfold stp
  split <;> simp
theorem gi_set {o : List Int} {j i : Nat} {v : Int} (hj : j < o.length) : gi (o.set j v) i = if i = j then v else gi o i := by
  simp only [gi, List.getD_eq_getElem?_getD, List.getElem?_set]
  by_cases q : i = j
  · subst q; simp [hj]
  · rw [if_neg (fun e => q e.symm), if_neg q]
structure Dst (es : List Edg) (s n : Nat) (o : List Int) : Prop where
  len : o.length = n
  src : gi o s = 0
  ach : ∀ y, y < n → gi o y = far ∨ (gi o y < far ∧ Wk es s y (gi o y))
theorem Dst.le {es : List Edg} {s n : Nat} {o : List Int} (h : Dst es s n o) {y : Nat} (hy : y < n) : 0 ≤ gi o y ∧ gi o y ≤ far := by
  rcases h.ach y hy with h1 | ⟨h1, h2⟩
  · rw [h1]; exact ⟨by decide, Int.le_refl _⟩
  · exact ⟨h2.nn, by omega⟩
theorem stp_dst {es : List Edg} {s n : Nat} {o : List Int} (h : Dst es s n o) {e : Edg} (he : e ∈ es) (hx : e.x < n) (hy : e.y < n) : Dst es s n (stp o e) := by
  unfold stp
  split
  · rename_i q
    obtain ⟨q1, q2, q3⟩ := q
    have hlen := h.len
    have hl : e.y < o.length := by omega
    have hyl := (h.le hy).2
    have hx0 := (h.le hx).1
    refine ⟨by rw [List.length_set]; exact h.len, ?_, fun y hyn => ?_⟩
    · rw [gi_set hl]
      split
      · rename_i r
        rw [← r, h.src] at q3; omega
      · exact h.src
    · rw [gi_set hl]
      split
      · rename_i r
        subst r
        rcases h.ach e.x hx with h1 | ⟨h1, h2⟩
        · omega
        · exact .inr ⟨by omega, .snoc h2 he q1⟩
      · exact h.ach y hyn
  · exact h
theorem pas_dst {es : List Edg} {s n : Nat} (hr : ∀ e ∈ es, e.x < n ∧ e.y < n) : ∀ (fs : List Edg) (o : List Int), (∀ e ∈ fs, e ∈ es) → Dst es s n o → Dst es s n (pas o fs)
  | [], o, _, h => h
  | e :: fs, o, hs, h => pas_dst hr fs (stp o e) (fun x hx => hs x (List.mem_cons_of_mem _ hx)) (stp_dst h (hs e List.mem_cons_self) (hr e (hs e List.mem_cons_self)).1 (hr e (hs e List.mem_cons_self)).2)
def Fix (es : List Edg) (o : List Int) : Prop := ∀ e ∈ es, 0 ≤ e.c → gi o e.x < far → gi o e.y ≤ gi o e.x + e.c
theorem fix_le {es : List Edg} {s n : Nat} {o : List Int} (hr : ∀ e ∈ es, e.x < n ∧ e.y < n) (h : Dst es s n o) (hf : Fix es o) {y : Nat} {d : Int} (hw : Wk es s y d) : gi o y ≤ d := by
  induction hw with
  | nil => rw [h.src]; exact Int.le_refl _
  | snoc h1 h2 h3 ih =>
    rename_i e d'
    have hy := (h.le (hr e h2).2).2
    by_cases q : gi o e.x < far
    · have := hf e h2 h3 q; omega
    · omega
theorem dist_le {es fs : List Edg} {s n : Nat} {o u : List Int} (hr : ∀ e ∈ fs, e.x < n ∧ e.y < n) (h : Dst es s n o) (h2 : Dst fs s n u) (hf : Fix fs u) (hs : ∀ e ∈ es, 0 ≤ e.c → e ∈ fs) {y : Nat} (hy : y < n) : gi u y ≤ gi o y := by
  rcases h.ach y hy with h1 | ⟨h1, hw⟩
  · rw [h1]; exact (h2.le hy).2
  · exact fix_le hr h2 hf (hw.mono hs)
theorem dist_eq {es : List Edg} {s n : Nat} {o u : List Int} (hr : ∀ e ∈ es, e.x < n ∧ e.y < n) (h : Dst es s n o) (hf : Fix es o) (h2 : Dst es s n u) (hf2 : Fix es u) {y : Nat} (hy : y < n) : gi u y = gi o y := by
  have := dist_le hr h h2 hf2 (fun e he _ => he) hy
  have := dist_le hr h2 h hf (fun e he _ => he) hy
  omega
def tot : List Int → Int
  | [] => 0
  | x :: l => x + tot l
theorem tot_set : ∀ (l : List Int) (j : Nat) (v : Int), j < l.length → tot (l.set j v) = tot l - gi l j + v
  | [], j, v, h => by simp at h
  | x :: l, 0, v, h => by simp [tot, gi]; omega
  | x :: l, j + 1, v, h => by
    have ih := tot_set l j v (by simpa using h)
    simp only [List.set_cons_succ, tot, ih]
    simp [gi]
    omega
theorem tot_nn : ∀ (l : List Int), (∀ j, j < l.length → 0 ≤ gi l j) → 0 ≤ tot l
  | [], _ => Int.le_refl _
  | x :: l, h => by
    have h0 := h 0 (by simp)
    have ih := tot_nn l (fun j hj => by simpa [gi] using h (j + 1) (by simpa using hj))
    simp only [tot]
    simp [gi] at h0
    omega
def inR (x lo hi : Int) : Bool := decide (lo ≤ x) && decide (x ≤ hi)
theorem inR_iff {x lo hi : Int} : inR x lo hi = true ↔ lo ≤ x ∧ x ≤ hi := by unfold inR; rw [Bool.and_eq_true, decide_eq_true_eq, decide_eq_true_eq]
structure Rd where
  f : Int
  t : Int
  c : Int
  m : Int
  o : Int
  z : Int
  l0 : Int
  l1 : Int
  l2 : Int
  l3 : Int
  l4 : Int
  l5 : Int
structure Wrk where
  rs : List Int
  k : Int
  l : Int
  c : Int
structure Mp where
  n : Int
  rs : List Rd
  ws : List Wrk
def dR : Rd := ⟨0, 0, 0, 0, 0, 0, 0, 0, 0, 0, 0, 0⟩
def dW : Wrk := ⟨[], 0, 0, 0⟩
def Rd.lim (r : Rd) : Nat → Int
  | 0 => r.l0
  | 1 => r.l1
  | 2 => r.l2
  | 3 => r.l3
  | 4 => r.l4
  | _ => r.l5
abbrev gr (m : Mp) (i : Nat) : Rd := m.rs.getD i dR
abbrev gw (m : Mp) (i : Nat) : Wrk := m.ws.getD i dW
def lastI (l : List Int) (i : Nat) : Int := if i = 0 then -1 else gi l (i - 1)
def okAt (l : List Int) (n : Int) (i : Nat) : Bool := decide (lastI l i < gi l i) && decide (gi l i < n)
def setB (l : List Int) (n : Int) : Bool := (List.range l.length).all (okAt l n)
def szB (f : Nat → Int) : Bool := (List.range 6).all fun k => inR (f k) 0 1073741824
def hrsB (r : Rd) : Bool := decide (0 ≤ r.o) && decide (r.o < r.z) && decide (r.z ≤ 1440) && inR r.m 1 (min 1440 (r.z - r.o))
def plB (n x : Int) : Bool := decide (0 ≤ x) && decide (x < n)
def roadB (n : Int) (r : Rd) : Bool := plB n r.f && plB n r.t && !(r.f == r.t) && inR r.c 1 1073741824 && hrsB r && szB r.lim
def workB (nr : Int) (w : Wrk) : Bool := decide (0 < w.rs.length) && setB w.rs nr && decide (0 ≤ w.k) && decide (w.k ≤ 5) && inR w.l 0 1073741824 && inR w.c 1 1073741824
def manyB (m : Mp) : Bool := decide (256 < m.rs.length) || decide (10 < m.ws.length) || m.ws.any fun w => decide (16 < w.rs.length)
def badM (m : Mp) : Bool := decide (m.n < 1) || decide (64 < m.n) || m.rs.any (fun r => !roadB m.n r) || m.ws.any fun w => !workB m.rs.length w
def chkM (m : Mp) : Int := if manyB m = true then 6 else if badM m = true then 2 else 0
structure OkM (m : Mp) : Prop where
  nr : m.rs.length ≤ 256
  nw : m.ws.length ≤ 10
  n : 1 ≤ m.n ∧ m.n ≤ 64
  r : ∀ i, i < m.rs.length → roadB m.n (gr m i) = true
  w : ∀ i, i < m.ws.length → workB m.rs.length (gw m i) = true
  s : ∀ i, i < m.ws.length → (gw m i).rs.length ≤ 16
theorem getD_mem' {α : Type} (d : α) (l : List α) (i : Nat) (h : i < l.length) : l.getD i d ∈ l := by
  simp [List.getD, h]
theorem chkM_ok {m : Mp} (h : chkM m = 0) : OkM m := by
  unfold chkM at h
  by_cases h1 : manyB m = true
  · rw [if_pos h1] at h; omega
  rw [if_neg h1] at h
  by_cases h2 : badM m = true
  · rw [if_pos h2] at h; omega
  unfold manyB at h1
  unfold badM at h2
  simp only [Bool.or_eq_true, decide_eq_true_eq, List.any_eq_true, not_or, not_exists, not_and, Bool.not_eq_true', Bool.not_eq_false] at h1 h2
  obtain ⟨⟨a1, a2⟩, a3⟩ := h1
  obtain ⟨⟨⟨b1, b2⟩, b3⟩, b4⟩ := h2
  exact ⟨by omega, by omega, by omega, fun i hi => b3 _ (getD_mem' dR _ i hi), fun i hi => b4 _ (getD_mem' dW _ i hi), fun i hi => by have := a3 _ (getD_mem' dW _ i hi); unfold gw; omega⟩
structure OkR (n : Int) (r : Rd) : Prop where
  f : 0 ≤ r.f ∧ r.f < n
  t : 0 ≤ r.t ∧ r.t < n
  ne : r.f ≠ r.t
  c : 1 ≤ r.c ∧ r.c ≤ 1073741824
  o : 0 ≤ r.o ∧ r.o < r.z ∧ r.z ≤ 1440
  m : 1 ≤ r.m ∧ r.m ≤ 1440 ∧ r.m ≤ r.z - r.o
  l : ∀ k, 0 ≤ r.lim k ∧ r.lim k ≤ 1073741824
theorem szB_iff {f : Nat → Int} : szB f = true ↔ ∀ k, k < 6 → 0 ≤ f k ∧ f k ≤ 1073741824 := by
  unfold szB
  rw [List.all_eq_true]
  constructor
  · intro h k hk
    exact inR_iff.1 (h k (List.mem_range.2 hk))
  · intro h k hk
    exact inR_iff.2 (h k (List.mem_range.1 hk))
theorem lim_five (r : Rd) (k : Nat) : r.lim k = r.lim (min k 5) := by
  rcases k with _ | _ | _ | _ | _ | k <;> first | rfl | (rw [show min (k + 1 + 1 + 1 + 1 + 1) 5 = 5 by omega]; rfl)
theorem roadB_ok {n : Int} {r : Rd} (h : roadB n r = true) : OkR n r := by
  unfold roadB plB hrsB at h
  simp only [Bool.and_eq_true, decide_eq_true_eq, Bool.not_eq_true', beq_eq_false_iff_ne, inR_iff] at h
  obtain ⟨⟨⟨⟨⟨h1, h2⟩, h3⟩, h4⟩, h5⟩, h6⟩ := h
  have h7 := szB_iff.1 h6
  exact ⟨h1, h2, h3, h4, by omega, by omega, fun k => by rw [lim_five]; exact h7 _ (by omega)⟩
structure OkW (nr : Int) (w : Wrk) : Prop where
  s : setB w.rs nr = true
  k : 0 ≤ w.k ∧ w.k ≤ 5
  l : 0 ≤ w.l ∧ w.l ≤ 1073741824
  c : 1 ≤ w.c ∧ w.c ≤ 1073741824
theorem workB_ok {nr : Int} {w : Wrk} (h : workB nr w = true) : OkW nr w := by
  unfold workB at h
  simp only [Bool.and_eq_true, decide_eq_true_eq, inR_iff] at h
  obtain ⟨⟨⟨⟨⟨h1, h2⟩, h3⟩, h4⟩, h5⟩, h6⟩ := h
  exact ⟨h2, ⟨h3, h4⟩, h5, h6⟩
def Srt (n : Int) : Int → List Int → Prop
  | _, [] => True
  | lo, x :: l => lo ≤ x ∧ x < n ∧ Srt n (x + 1) l
theorem Srt.mem {n lo : Int} : ∀ {l : List Int}, Srt n lo l → ∀ x ∈ l, lo ≤ x ∧ x < n
  | [], _, x, hx => by cases hx
  | y :: l, h, x, hx => by
    obtain ⟨h1, h2, h3⟩ := h
    rcases List.mem_cons.1 hx with rfl | hx
    · exact ⟨h1, h2⟩
    · have := Srt.mem h3 x hx; omega
theorem Srt.len {n lo : Int} : ∀ {l : List Int}, Srt n lo l → lo ≤ n → (l.length : Int) ≤ n - lo
  | [], _, h => by simp; omega
  | y :: l, hs, h => by
    have := Srt.len hs.2.2 (by have := hs.2.1; omega)
    have := hs.1
    simp only [List.length_cons]
    omega
theorem Srt.snoc {n x : Int} : ∀ {l : List Int} {lo : Int}, Srt n lo l → lo ≤ x → x < n → (∀ y ∈ l, y < x) → Srt n lo (l ++ [x])
  | [], lo, _, h1, h2, _ => ⟨h1, h2, trivial⟩
  | y :: l, lo, h, h1, h2, h3 => ⟨h.1, h.2.1, Srt.snoc h.2.2 (by have := h3 y List.mem_cons_self; omega) h2 (fun z hz => h3 z (List.mem_cons_of_mem _ hz))⟩
def pre (l : List Int) (i : Nat) : List Int := l.filter (fun x => decide (x < i))
theorem pre_zero {n : Int} {l : List Int} (h : Srt n 0 l) : pre l 0 = [] := by
  unfold pre
  rw [List.filter_eq_nil_iff]
  intro x hx
  have := h.mem x hx
  simp; omega
theorem pre_all {l : List Int} {i : Nat} (h : ∀ x ∈ l, x < i) : pre l i = l := by
  unfold pre
  rw [List.filter_eq_self]
  intro x hx
  simpa using h x hx
theorem pre_succ {n : Int} {i : Nat} : ∀ {l : List Int} {lo : Int}, Srt n lo l → pre l (i + 1) = pre l i ++ (if (i : Int) ∈ l then [(i : Int)] else [])
  | [], _, _ => by simp [pre]
  | y :: l, lo, h => by
    obtain ⟨h1, h2, h3⟩ := h
    have ih := pre_succ (i := i) h3
    have hm := h3.mem
    unfold pre at ih ⊢
    rw [List.filter_cons, List.filter_cons, ih]
    by_cases c1 : y < i
    · have e1 : decide (y < ((i + 1 : Nat) : Int)) = true := decide_eq_true (by omega)
      have e2 : decide (y < (i : Int)) = true := decide_eq_true c1
      rw [if_pos e1, if_pos e2]
      by_cases c2 : (i : Int) ∈ l
      · rw [if_pos c2, if_pos (List.mem_cons_of_mem _ c2)]; rfl
      · rw [if_neg c2, if_neg (fun q => by
          rcases List.mem_cons.1 q with q | q
          · omega
          · exact c2 q)]
        simp
    · have hl : l.filter (fun x => decide (x < (i : Int))) = [] := by
        rw [List.filter_eq_nil_iff]
        intro x hx
        have := hm x hx
        simp; omega
      have c2 : (i : Int) ∉ l := fun q => by have := hm _ q; omega
      rw [if_neg c2, hl]
      by_cases c3 : y = i
      · have e1 : decide (y < ((i + 1 : Nat) : Int)) = true := decide_eq_true (by omega)
        have e2 : ¬ decide (y < (i : Int)) = true := by rw [decide_eq_true_eq]; exact c1
        rw [if_pos e1, if_neg e2, if_pos (by rw [c3]; exact List.mem_cons_self)]
        simp [c3]
      · have e1 : ¬ decide (y < ((i + 1 : Nat) : Int)) = true := by rw [decide_eq_true_eq]; omega
        have e2 : ¬ decide (y < (i : Int)) = true := by rw [decide_eq_true_eq]; exact c1
        rw [if_neg e1, if_neg e2, if_neg (fun q => by
          rcases List.mem_cons.1 q with q | q
          · exact c3 q.symm
          · exact c2 q)]
structure BitsOf (s : Nat) (l : List Int) : Prop where
  b : ∀ i : Nat, s.testBit i = decide ((i : Int) ∈ l)
theorem bits_nil : BitsOf 0 [] := ⟨fun i => by simp⟩
theorem bits_snoc {s : Nat} {l : List Int} (h : BitsOf s l) (i : Nat) : BitsOf (s ||| 2 ^ i) (l ++ [(i : Int)]) := ⟨fun j => by
  rw [Nat.testBit_or, h.b, Nat.testBit_two_pow]
  by_cases q : i = j
  · subst q; simp
  · have : ¬ ((j : Int) = (i : Int)) := by omega
    simp [q, this]⟩
theorem bits_lt {s n : Nat} {l : List Int} (h : BitsOf s l) (hl : ∀ x ∈ l, x < n) : s < 2 ^ n := by
  apply Nat.lt_pow_two_of_testBit
  intro i hi
  rw [h.b]
  simp only [decide_eq_false_iff_not]
  intro q
  have := hl _ q
  omega
theorem bits_shr {s : Nat} {l : List Int} (h : BitsOf s l) (i : Nat) : s / 2 ^ i % 2 = if (i : Int) ∈ l then 1 else 0 := by
  have := h.b i
  rw [Nat.testBit_eq_decide_div_mod_eq] at this
  by_cases q : (i : Int) ∈ l
  · rw [if_pos q]
    rw [decide_eq_true q, decide_eq_true_eq] at this
    exact this
  · rw [if_neg q]
    rw [decide_eq_false q, decide_eq_false_iff_not] at this
    omega
theorem bits_end {s : Nat} {l : List Int} (h : BitsOf s l) (h0 : ∀ x ∈ l, 0 ≤ x) {i : Nat} (he : s / 2 ^ i = 0) : ∀ x ∈ l, x < i := by
  intro x hx
  apply Classical.byContradiction
  intro q
  have h1 := h.b x.toNat
  have e : ((x.toNat : Nat) : Int) = x := by have := h0 x hx; omega
  rw [e, decide_eq_true hx] at h1
  have h2 : s < 2 ^ i := by
    have := Nat.div_eq_zero_iff.1 he
    rcases this with h3 | h3
    · have := Nat.two_pow_pos i; omega
    · exact h3
  have := Nat.ge_two_pow_of_testBit h1
  have h3 : 2 ^ i ≤ 2 ^ x.toNat := Nat.pow_le_pow_right (by omega) (by omega)
  omega
theorem bits_more {s : Nat} {l : List Int} (h : BitsOf s l) {i : Nat} (he : s / 2 ^ i ≠ 0) (hn : ∀ x ∈ l, x < 10) : i < 10 := by
  have h1 := bits_lt (n := 10) h hn
  apply Classical.byContradiction
  intro q
  apply he
  rw [Nat.div_eq_zero_iff]
  right
  have : 2 ^ 10 ≤ 2 ^ i := Nat.pow_le_pow_right (by omega) (by omega)
  omega
def brn : Nat → List Int → Nat → List (List Int)
  | 0, _, _ => []
  | d + 1, l, i => ((l ++ [(i : Int)]) :: brn d (l ++ [(i : Int)]) (i + 1)) ++ brn d l (i + 1)
def setsM (n : Nat) : List (List Int) := [] :: brn n [] 0
theorem brn_srt {n : Nat} : ∀ (d : Nat) (l : List Int) (i : Nat), i + d = n → Srt n 0 l → (∀ y ∈ l, y < (i : Int)) → ∀ s ∈ brn d l i, Srt n 0 s
  | 0, _, _, _, _, _, s, hs => by cases hs
  | d + 1, l, i, hi, hl, hy, s, hs => by
    have h1 : Srt n 0 (l ++ [(i : Int)]) := hl.snoc (by omega) (by omega) hy
    have h2 : ∀ y ∈ l ++ [(i : Int)], y < ((i + 1 : Nat) : Int) := fun y hy' => by
      rcases List.mem_append.1 hy' with q | q
      · have := hy y q; omega
      · rw [List.mem_singleton] at q; omega
    simp only [brn, List.cons_append, List.mem_cons, List.mem_append] at hs
    rcases hs with rfl | hs | hs
    · exact h1
    · exact brn_srt d _ (i + 1) (by omega) h1 h2 s hs
    · exact brn_srt d l (i + 1) (by omega) hl (fun y q => by have := hy y q; omega) s hs
theorem sets_srt {n : Nat} : ∀ s ∈ setsM n, Srt n 0 s := by
  intro s hs
  rcases List.mem_cons.1 hs with rfl | hs
  · trivial
  · exact brn_srt n [] 0 (by omega) trivial (fun y hy => by cases hy) s hs
def lstep (f : List Int → Int) (ok : List Int → Bool) (b : Option (List Int × Int)) (x : List Int) : Option (List Int × Int) :=
  if ok x = true then (match b with
    | none => some (x, f x)
    | some (y, n) => if f x < n then some (x, f x) else some (y, n)) else b
def leastL (f : List Int → Int) (ok : List Int → Bool) (l : List (List Int)) : Option (List Int × Int) := l.foldl (lstep f ok) none
theorem leastL_snoc (f : List Int → Int) (ok : List Int → Bool) (l : List (List Int)) (x : List Int) : leastL f ok (l ++ [x]) = lstep f ok (leastL f ok l) x := by
  unfold leastL
  rw [List.foldl_append]; rfl
theorem stp_le (o : List Int) (e : Edg) (hy : e.y < o.length) (i : Nat) : gi (stp o e) i ≤ gi o i := by
  unfold stp
  split
  · rename_i q
    rw [gi_set hy]
    split
    · rename_i r; rw [r]; omega
    · exact Int.le_refl _
  · exact Int.le_refl _
theorem pas_le : ∀ (es : List Edg) (o : List Int), (∀ e ∈ es, e.y < o.length) → ∀ i, gi (pas o es) i ≤ gi o i
  | [], o, _, i => Int.le_refl _
  | e :: es, o, h, i => by
    have h1 := pas_le es (stp o e) (fun x hx => by rw [stp_len]; exact h x (List.mem_cons_of_mem _ hx)) i
    have h2 := stp_le o e (h e List.mem_cons_self) i
    show gi (pas (stp o e) es) i ≤ _
    omega
theorem pas_use : ∀ (es : List Edg) (o : List Int), (∀ e ∈ es, e.y < o.length) → ∀ e ∈ es, 0 ≤ e.c → gi o e.x < far → gi (pas o es) e.y ≤ gi o e.x + e.c
  | [], o, _, e, he, _, _ => by cases he
  | f :: es, o, h, e, he, hc, hf => by
    have hs : ∀ e ∈ es, e.y < (stp o f).length := fun x hx => by rw [stp_len]; exact h x (List.mem_cons_of_mem _ hx)
    show gi (pas (stp o f) es) e.y ≤ _
    rcases List.mem_cons.1 he with rfl | he
    · have h1 := pas_le es (stp o e) hs e.y
      have h2 : gi (stp o e) e.y ≤ gi o e.x + e.c := by
        unfold stp
        split
        · rw [gi_set (h e List.mem_cons_self), if_pos rfl]; exact Int.le_refl _
        · rename_i q
          by_cases z : gi o e.x + e.c < gi o e.y
          · exact absurd ⟨hc, hf, z⟩ q
          · omega
      omega
    · have h1 := stp_le o f (h f List.mem_cons_self) e.x
      have := pas_use es (stp o f) hs e he hc (by omega)
      omega
theorem stp_tot (o : List Int) (e : Edg) (hy : e.y < o.length) : tot (stp o e) ≤ tot o ∧ (tot (stp o e) = tot o → stp o e = o) := by
  unfold stp
  split
  · rename_i q
    rw [tot_set _ _ _ hy]
    exact ⟨by omega, fun r => by omega⟩
  · exact ⟨Int.le_refl _, fun _ => rfl⟩
theorem pas_tot : ∀ (es : List Edg) (o : List Int), (∀ e ∈ es, e.y < o.length) → tot (pas o es) ≤ tot o ∧ (tot (pas o es) = tot o → ∀ e ∈ es, stp o e = o)
  | [], o, _ => ⟨Int.le_refl _, fun _ e he => by cases he⟩
  | e :: es, o, h => by
    obtain ⟨h1, h2⟩ := stp_tot o e (h e List.mem_cons_self)
    obtain ⟨h3, h4⟩ := pas_tot es (stp o e) (fun x hx => by rw [stp_len]; exact h x (List.mem_cons_of_mem _ hx))
    show tot (pas (stp o e) es) ≤ _ ∧ (tot (pas (stp o e) es) = _ → _)
    refine ⟨by omega, fun q f hf => ?_⟩
    have e1 := h2 (by omega)
    rcases List.mem_cons.1 hf with rfl | hf
    · exact e1
    · have := h4 (by omega) f hf
      rwa [e1] at this
theorem pas_same : ∀ (es : List Edg) (o : List Int), (∀ e ∈ es, stp o e = o) → pas o es = o
  | [], o, _ => rfl
  | e :: es, o, h => by
    show pas (stp o e) es = o
    rw [h e List.mem_cons_self]
    exact pas_same es o (fun x hx => h x (List.mem_cons_of_mem _ hx))
theorem fix_stp {es : List Edg} {o : List Int} (hl : ∀ e ∈ es, e.y < o.length) (h : ∀ e ∈ es, stp o e = o) : Fix es o := by
  intro e he hc hf
  have h1 := h e he
  unfold stp at h1
  by_cases z : gi o e.x + e.c < gi o e.y
  · rw [if_pos ⟨hc, hf, z⟩] at h1
    have h2 : gi (o.set e.y (gi o e.x + e.c)) e.y = gi o e.y := by rw [h1]
    rw [gi_set (hl e he), if_pos rfl] at h2
    omega
  · omega
def ini (n s : Nat) : List Int := (List.replicate n far).set s 0
theorem ini_dst {es : List Edg} {n s : Nat} (hs : s < n) : Dst es s n (ini n s) := by
  have hl : s < (List.replicate n far).length := by rw [List.length_replicate]; exact hs
  have hg : ∀ i, gi (ini n s) i = if i = s then 0 else gi (List.replicate n far) i := fun i => gi_set hl
  refine ⟨by simp [ini], by rw [hg, if_pos rfl], fun y hy => ?_⟩
  by_cases q : y = s
  · right
    rw [hg, if_pos q, q]
    exact ⟨by decide, .nil⟩
  · left
    rw [hg, if_neg q]
    simp [gi, List.getD, hy]
theorem fix_exists {es : List Edg} {n s : Nat} (hr : ∀ e ∈ es, e.x < n ∧ e.y < n) : ∀ (k : Nat) (o : List Int), Dst es s n o → (tot o).toNat ≤ k → ∃ u, Dst es s n u ∧ Fix es u
  | 0, o, h, hk => by
    have hl : ∀ e ∈ es, e.y < o.length := fun e he => by rw [h.len]; exact (hr e he).2
    have hp := pas_dst hr es o (fun e he => he) h
    have h1 := pas_tot es o hl
    have h2 := tot_nn (pas o es) (fun j hj => (hp.le (by rw [hp.len] at hj; exact hj)).1)
    exact ⟨o, h, fix_stp hl (h1.2 (by omega))⟩
  | k + 1, o, h, hk => by
    have hl : ∀ e ∈ es, e.y < o.length := fun e he => by rw [h.len]; exact (hr e he).2
    have hp := pas_dst hr es o (fun e he => he) h
    have h1 := pas_tot es o hl
    have h2 := tot_nn (pas o es) (fun j hj => (hp.le (by rw [hp.len] at hj; exact hj)).1)
    by_cases q : tot (pas o es) = tot o
    · exact ⟨o, h, fix_stp hl (h1.2 q)⟩
    · exact fix_exists hr k (pas o es) hp (by omega)
def rnds (es : List Edg) (o : List Int) : Nat → List Int
  | 0 => o
  | k + 1 => pas (rnds es o k) es
theorem rnds_dst {es : List Edg} {n s : Nat} {o : List Int} (hr : ∀ e ∈ es, e.x < n ∧ e.y < n) (h : Dst es s n o) : ∀ k, Dst es s n (rnds es o k)
  | 0 => h
  | k + 1 => pas_dst hr es _ (fun e he => he) (rnds_dst hr h k)
theorem countP_lt {α : Type} {p q : α → Bool} : ∀ {l : List α}, (∀ z ∈ l, p z = true → q z = true) → (∃ x ∈ l, q x = true ∧ p x = false) → l.countP p < l.countP q
  | [], _, h => by obtain ⟨x, hx, _⟩ := h; cases hx
  | a :: l, hpq, h => by
    have hle : l.countP p ≤ l.countP q := List.countP_mono_left (fun z hz => hpq z (List.mem_cons_of_mem _ hz))
    rw [List.countP_cons, List.countP_cons]
    obtain ⟨x, hx, h1, h2⟩ := h
    rcases List.mem_cons.1 hx with rfl | hx
    · rw [h1, h2]; simp; omega
    · have := countP_lt (fun z hz => hpq z (List.mem_cons_of_mem _ hz)) ⟨x, hx, h1, h2⟩
      have h3 := hpq a List.mem_cons_self
      by_cases c : p a = true
      · rw [c, h3 c]; simp; omega
      · rw [if_neg c]
        split <;> omega
def rk (os : List Int) (n y : Nat) : Nat := (List.range n).countP (fun z => decide (gi os z < gi os y))
theorem rk_le (os : List Int) (n y : Nat) : rk os n y ≤ n := by
  have := List.countP_le_length (p := fun z => decide (gi os z < gi os y)) (l := List.range n)
  rwa [List.length_range] at this
theorem rk_lt {os : List Int} {n x y : Nat} (hx : x < n) (h : gi os x < gi os y) : rk os n x < rk os n y :=
  countP_lt (fun z hz q => by rw [decide_eq_true_eq] at q ⊢; omega) ⟨x, List.mem_range.2 hx, by rw [decide_eq_true_eq]; exact h, by rw [decide_eq_false_iff_not]; omega⟩
theorem last_road {es : List Edg} {s n : Nat} {os : List Int} (hr : ∀ e ∈ es, e.x < n ∧ e.y < n) (h : Dst es s n os) (hf : Fix es os) {y : Nat} (hy : y < n) (hl : gi os y < far) : y = s ∨ ∃ e ∈ es, e.y = y ∧ 0 ≤ e.c ∧ gi os y = gi os e.x + e.c := by
  rcases h.ach y hy with h1 | ⟨_, h1⟩
  · omega
  · generalize hd : gi os y = d at h1
    cases h1 with
    | nil => exact .inl rfl
    | snoc h2 h3 h4 =>
      rename_i e d' hl'
      right
      have h5 := fix_le hr h hf h2
      have h6 := hf e h3 h4 (by omega)
      exact ⟨e, h3, rfl, h4, by omega⟩
theorem rnds_final {es : List Edg} {s n : Nat} {os o : List Int} (hr : ∀ e ∈ es, e.x < n ∧ e.y < n) (hp : ∀ e ∈ es, 0 ≤ e.c → 1 ≤ e.c) (h : Dst es s n os) (hf : Fix es os) (ho : Dst es s n o) : ∀ (k y : Nat), y < n → rk os n y ≤ k → gi (rnds es o k) y = gi os y := by
  have hge : ∀ k y, y < n → gi os y ≤ gi (rnds es o k) y := fun k y hy => by
    have hd := rnds_dst hr ho k
    rcases hd.ach y hy with h1 | ⟨_, h1⟩
    · rw [h1]; exact (h.le hy).2
    · exact fix_le hr h hf h1
  intro k
  induction k with
  | zero =>
    intro y hy hk
    have hd := rnds_dst hr ho 0
    by_cases q : gi os y < far
    · rcases last_road hr h hf hy q with rfl | ⟨e, he, rfl, hc, h1⟩
      · rw [hd.src, h.src]
      · have := rk_lt (os := os) (hr e he).1 (y := e.y) (by have := hp e he hc; omega)
        omega
    · have := hge 0 y hy
      have := (hd.le hy).2
      omega
  | succ k ih =>
    intro y hy hk
    have hd := rnds_dst hr ho (k + 1)
    have hdk := rnds_dst hr ho k
    by_cases q : gi os y < far
    · rcases last_road hr h hf hy q with rfl | ⟨e, he, rfl, hc, h1⟩
      · rw [hd.src, h.src]
      · have hc1 := hp e he hc
        have h2 := rk_lt (os := os) (hr e he).1 (y := e.y) (by omega)
        have h3 := ih e.x (hr e he).1 (by omega)
        have h4 := pas_use es (rnds es o k) (fun e he => by rw [hdk.len]; exact (hr e he).2) e he hc (by omega)
        have h5 := hge (k + 1) e.y hy
        have h6 : gi (rnds es o (k + 1)) e.y = gi (pas (rnds es o k) es) e.y := rfl
        omega
    · have := hge (k + 1) y hy
      have := (hd.le hy).2
      omega
theorem rnds_fix {es : List Edg} {s n : Nat} {o : List Int} (hr : ∀ e ∈ es, e.x < n ∧ e.y < n) (hp : ∀ e ∈ es, 0 ≤ e.c → 1 ≤ e.c) (ho : Dst es s n o) : Fix es (rnds es o n) := by
  obtain ⟨os, h1, h2⟩ := fix_exists hr _ o ho (Nat.le_refl _)
  have he : ∀ y, y < n → gi (rnds es o n) y = gi os y := fun y hy => rnds_final hr hp h1 h2 ho n y hy (rk_le os n y)
  intro e hm hc hl
  rw [he _ (hr e hm).1] at hl ⊢
  rw [he _ (hr e hm).2]
  exact h2 e hm hc hl
theorem dst_ext {es : List Edg} {s n : Nat} {o u : List Int} (hr : ∀ e ∈ es, e.x < n ∧ e.y < n) (h : Dst es s n o) (hf : Fix es o) (h2 : Dst es s n u) (hf2 : Fix es u) : o = u := by
  apply List.ext_getElem (by rw [h.len, h2.len])
  intro i h3 h4
  have hi : i < n := by rw [h.len] at h3; exact h3
  have := dist_eq hr h hf h2 hf2 hi
  simp [gi, List.getD, h3, h4] at this
  exact this.symm
def dst (es : List Edg) (n s : Nat) : List Int := rnds es (ini n s) n
theorem dst_dst {es : List Edg} {s n : Nat} (hr : ∀ e ∈ es, e.x < n ∧ e.y < n) (hs : s < n) : Dst es s n (dst es n s) := rnds_dst hr (ini_dst hs) n
theorem dst_fix {es : List Edg} {s n : Nat} (hr : ∀ e ∈ es, e.x < n ∧ e.y < n) (hp : ∀ e ∈ es, 0 ≤ e.c → 1 ≤ e.c) (hs : s < n) : Fix es (dst es n s) := rnds_fix hr hp (ini_dst hs)
def costL (m : Mp) (l : List Int) : Int := l.foldl (fun n x => n + (gw m x.toNat).c) 0
theorem costL_snoc (m : Mp) (l : List Int) (x : Int) : costL m (l ++ [x]) = costL m l + (gw m x.toNat).c := by
  unfold costL; rw [List.foldl_append]; rfl
theorem costL_aux {m : Mp} (h : OkM m) : ∀ (l : List Int) (a : Int), (∀ x ∈ l, 0 ≤ x ∧ x < m.ws.length) → a ≤ l.foldl (fun n x => n + (gw m x.toNat).c) a ∧ l.foldl (fun n x => n + (gw m x.toNat).c) a ≤ a + l.length * 1073741824
  | [], a, _ => by simp
  | x :: l, a, hx => by
    have h1 := costL_aux h l (a + (gw m x.toNat).c) (fun y hy => hx y (List.mem_cons_of_mem _ hy))
    have h2 := hx x List.mem_cons_self
    have h3 := (workB_ok (h.w x.toNat (by omega))).c
    simp only [List.foldl_cons, List.length_cons]
    omega
theorem costL_rng {m : Mp} (h : OkM m) {l : List Int} (hx : ∀ x ∈ l, 0 ≤ x ∧ x < m.ws.length) : 0 ≤ costL m l ∧ costL m l ≤ l.length * 1073741824 := by
  have := costL_aux h l 0 hx
  unfold costL
  omega
def limS (m : Mp) (road k : Nat) (n : Int) (i : Nat) : Int := if (gw m i).k = k ∧ (road : Int) ∈ (gw m i).rs then max n (gw m i).l else n
def limL (m : Mp) (l : List Int) (road k : Nat) : Int := l.foldl (fun n x => limS m road k n x.toNat) ((gr m road).lim k)
theorem limL_snoc (m : Mp) (l : List Int) (road k i : Nat) : limL m (l ++ [(i : Int)]) road k = limS m road k (limL m l road k) i := by
  unfold limL; rw [List.foldl_append]; rfl
def usB (m : Mp) (f : Nat → Int) (l : List Int) (road : Nat) : Bool := (List.range 6).all fun k => decide (f k ≤ limL m l road k)
theorem usN_iff {m : Mp} {f : Nat → Int} {l : List Int} {road : Nat} : usB m f l road = true ↔ ∀ k, k < 6 → f k ≤ limL m l road k := by
  unfold usB
  rw [List.all_eq_true]
  constructor
  · intro h k hk
    exact of_decide_eq_true (h k (List.mem_range.2 hk))
  · intro h k hk
    exact decide_eq_true (h k (List.mem_range.1 hk))
def edB (m : Mp) (us : Nat → Bool) (i : Nat) : Edg := ⟨(gr m i).t.toNat, (gr m i).f.toNat, if us i = true then (gr m i).c else -1⟩
end Go.Proofs.YtlahcoaofbpinaaGreat.R
namespace Go.Proofs.YtlahcoaofbpinaaGreat.R
open Go Sy
set_option maxRecDepth 100000
set_option maxHeartbeats 4000000
set_option linter.unusedVariables false
set_option linter.unusedSimpArgs false
theorem mixed : Tryz.prog.follows .mixedOrders = true := by kernel_rfl
abbrev iv (n : Int) : AV := .v (.int .i64 n)
abbrev bv (b : Bool) : AV := .v (.bool b)
abbrev uv (n : Nat) : AV := .v (.int .u64 n)
def cI (x : Int) : List AV := [iv x]
theorem nI (x : Int) : nth (cI x) 0 = iv x := rfl
theorem lI (x : Int) : (cI x).length = 1 := rfl
theorem frI (x : Int) : frzAll (cI x) = true := rfl
theorem tI (x : Int) : List.take 1 (List.drop 0 (cI x)) = cI x := rfl
abbrev aI (l : List Int) : AV := .sl 1 0 cI l
def cR (r : Rd) : List AV := [iv r.f, iv r.t, iv r.c, iv r.m, iv r.o, iv r.z, iv r.l0, iv r.l1, iv r.l2, iv r.l3, iv r.l4, iv r.l5]
theorem nR0 (r : Rd) : nth (cR r) 0 = iv r.f := rfl
theorem nR1 (r : Rd) : nth (cR r) 1 = iv r.t := rfl
theorem nR2 (r : Rd) : nth (cR r) 2 = iv r.c := rfl
theorem nR3 (r : Rd) : nth (cR r) 3 = iv r.m := rfl
theorem nR4 (r : Rd) : nth (cR r) 4 = iv r.o := rfl
theorem nR5 (r : Rd) : nth (cR r) 5 = iv r.z := rfl
theorem lR (r : Rd) : (cR r).length = 12 := rfl
theorem frR (r : Rd) : frzAll (cR r) = true := rfl
theorem tR (r : Rd) : List.take 12 (List.drop 0 (cR r)) = cR r := rfl
theorem iR {m : Nat → Option Blk} {n : Nat} (r : Rd) : List.flatMap (ids m n) (cR r) = [] := flat_frz n _ (frR r)
theorem vR {m : Nat → Option Blk} {n : Nat} (r : Rd) : List.map (view m n) (cR r) = cR r := viewL_frz n _ (frR r)
def cW (w : Wrk) : List AV := [aI w.rs, iv w.k, iv w.l, iv w.c]
theorem nW0 (w : Wrk) : nth (cW w) 0 = aI w.rs := rfl
theorem nW1 (w : Wrk) : nth (cW w) 1 = iv w.k := rfl
theorem nW2 (w : Wrk) : nth (cW w) 2 = iv w.l := rfl
theorem nW3 (w : Wrk) : nth (cW w) 3 = iv w.c := rfl
theorem lW (w : Wrk) : (cW w).length = 4 := rfl
theorem frW (w : Wrk) : frzAll (cW w) = true := rfl
theorem tW (w : Wrk) : List.take 4 (List.drop 0 (cW w)) = cW w := rfl
theorem iW {m : Nat → Option Blk} {n : Nat} (w : Wrk) : List.flatMap (ids m n) (cW w) = [] := flat_frz n _ (frW w)
theorem vW {m : Nat → Option Blk} {n : Nat} (w : Wrk) : List.map (view m n) (cW w) = cW w := viewL_frz n _ (frW w)
abbrev aR (l : List Rd) : AV := .sl 12 dR cR l
abbrev aW (l : List Wrk) : AV := .sl 4 dW cW l
def cM (m : Mp) : List AV := [iv m.n, aR m.rs, aW m.ws]
theorem nM0 (m : Mp) : nth (cM m) 0 = iv m.n := rfl
theorem nM1 (m : Mp) : nth (cM m) 1 = aR m.rs := rfl
theorem nM2 (m : Mp) : nth (cM m) 2 = aW m.ws := rfl
theorem lM (m : Mp) : (cM m).length = 3 := rfl
theorem frM (m : Mp) : frzAll (cM m) = true := rfl
theorem iM {f : Nat → Option Blk} {n : Nat} (m : Mp) : List.flatMap (ids f n) (cM m) = [] := flat_frz n _ (frM m)
theorem vM {f : Nat → Option Blk} {n : Nat} (m : Mp) : List.map (view f n) (cM m) = cM m := viewL_frz n _ (frM m)
abbrev aM (m : Mp) : AV := .agg (cM m)
def c6 (f : Nat → Int) : List AV := [iv (f 0), iv (f 1), iv (f 2), iv (f 3), iv (f 4), iv (f 5)]
theorem l6 (f : Nat → Int) : (c6 f).length = 6 := rfl
theorem fr6 (f : Nat → Int) : frzAll (c6 f) = true := rfl
theorem n6 (f : Nat → Int) (k : Nat) (h : k < 6) : nth (c6 f) k = iv (f k) := by
  rcases k with _ | _ | _ | _ | _ | _ | k <;> first | rfl | omega
theorem i6 {m : Nat → Option Blk} {n : Nat} (f : Nat → Int) : List.flatMap (ids m n) (c6 f) = [] := flat_frz n _ (fr6 f)
theorem v6 {m : Nat → Option Blk} {n : Nat} (f : Nat → Int) : List.map (view m n) (c6 f) = c6 f := viewL_frz n _ (fr6 f)
theorem t6 (f : Nat → Int) : List.take 6 (c6 f) = c6 f := rfl
theorem cutR (r : Rd) : List.take 6 (List.drop 6 (cR r)) = c6 r.lim := rfl
theorem tR2 (r : Rd) : List.take 12 (cR r) = cR r := rfl
theorem tW2 (w : Wrk) : List.take 4 (cW w) = cW w := rfl
theorem tM2 (m : Mp) : List.take 3 (cM m) = cM m := rfl
attribute [push_cast] tR2 tW2 tM2 nI lI frI tI nR0 nR1 nR2 nR3 nR4 nR5 lR frR tR iR vR nW0 nW1 nW2 nW3 lW frW tW iW vW nM0 nM1 nM2 lM frM iM vM l6 fr6 n6 i6 v6 t6 cutR
theorem fn24 (x lo hi : Int) : Sy.Fn Tryz.prog 24 [iv x, iv lo, iv hi] (bv (inR x lo hi)) := by
  refine Fn_of_W mixed Xt24 rfl ?_
  (refine go0 ?_; try exact True.intro)
  exact W_ret ⟨[_], ⟨rfl, rfl⟩, rfl⟩
theorem up_all {p : Nat → Prop} {n : Nat} (h : ∀ j, j < n → p j) (hn : p n) : ∀ j, j < n + 1 → p j := fun j hj => by
  rcases Nat.lt_succ_iff_lt_or_eq.1 hj with h1 | rfl
  · exact h j h1
  · exact hn
theorem setB_yes {l : List Int} {n : Int} (h : ∀ j, j < l.length → okAt l n j = true) : setB l n = true := by
  unfold setB
  rw [List.all_eq_true]
  intro j hj
  exact h j (List.mem_range.1 hj)
theorem setB_no {l : List Int} {n : Int} {i : Nat} (hi : i < l.length) (h : okAt l n i = false) : setB l n = false := by
  unfold setB
  rw [← Bool.not_eq_true, List.all_eq_true]
  intro q
  have := q i (List.mem_range.2 hi)
  rw [h] at this; cases this
theorem fn22 (l : List Int) (n : Int) (hl : l.length ≤ 140737488355328) : Sy.Fn Tryz.prog 22 [aI l, iv n] (bv (setB l n)) := by
  refine Fn_of_W mixed Xt22 rfl ?_
  (refine go0 ?_; try exact True.intro)
  refine W_loopU (fun i : Nat => [(5, iv (lastI l i)), (10, iv i)]) (fun i => []) (fun i => i ≤ l.length ∧ ∀ j, j < i → okAt l n j = true) (fun i => l.length - i) 0 ⟨by omega, fun j hj => by omega⟩ (by rfl) (by rfl) (fun i hi => ?_)
  obtain ⟨hi, hall⟩ := hi
  (refine sy1 ?_; try exact True.intro)
  (refine go0 ?_; try exact True.intro)
  refine W_condD (by rfl) (fun h5 => ?_) (fun h5 => ?_)
  · have hlt : i < l.length := by omega
    have hn1 : lastI l (i + 1) = gi l i := by unfold lastI; rw [if_neg (by omega)]; rfl
    have hgi : l.getD i 0 = gi l i := rfl
    have hok : okAt l n i = (decide (lastI l i < gi l i) && decide (gi l i < n)) := rfl
    generalize gi l i = x at hn1 hgi hok
    (refine gof hgi ?_; try exact True.intro)
    refine W_cond (by rfl) (fun hb => ?_) (fun hb => ?_)
    · have e : okAt l n i = false := by
        rw [hok, Bool.and_eq_false_iff, decide_eq_false_iff_not, decide_eq_false_iff_not]
        rw [Bool.or_eq_true, decide_eq_true_eq, decide_eq_true_eq] at hb
        omega
      rw [setB_no hlt e]
      (refine go0 ?_; try exact True.intro)
      exact W_ret ⟨[_], ⟨rfl, rfl⟩, rfl⟩
    · have e : okAt l n i = true := by
        rw [hok, Bool.and_eq_true, decide_eq_true_eq, decide_eq_true_eq]
        rw [Bool.or_eq_false_iff, decide_eq_false_iff_not, decide_eq_false_iff_not] at hb
        omega
      (refine go0 ?_; try exact True.intro)
      refine ⟨i + 1, ⟨by omega, up_all hall e⟩, by omega, by rfl, ?_⟩
      rw [hn1]
      (refine syE ?_; try exact True.intro)
  · rw [setB_yes (fun j hj => hall j (by omega))]
    (refine go0 ?_; try exact True.intro)
    exact W_ret ⟨[_], ⟨rfl, rfl⟩, rfl⟩
def idxF {α : Type} (p : α → Bool) : List α → Int → Int
  | [], _ => -1
  | x :: r, i => if p x then i else idxF p r (i + 1)
theorem idxF_at {α : Type} (p : α → Bool) (d : α) : ∀ (l : List α) (i : Nat) (k : Int), i < l.length → (∀ j, j < i → p (l.getD j d) = false) → p (l.getD i d) = true → idxF p l k = k + i
  | [], i, k, h, _, _ => by simp at h
  | x :: r, 0, k, _, _, h => by simp at h; simp [idxF, h]
  | x :: r, i + 1, k, h, hj, hp => by
    have h0 : p x = false := by simpa using hj 0 (by omega)
    have := idxF_at p d r i (k + 1) (by simpa using h) (fun j hlt => by simpa using hj (j + 1) (by omega)) (by simpa using hp)
    simp only [idxF, h0, Bool.false_eq_true, if_false, this]
    omega
theorem idxF_none {α : Type} (p : α → Bool) (d : α) : ∀ (l : List α) (k : Int), (∀ j, j < l.length → p (l.getD j d) = false) → idxF p l k = -1
  | [], k, _ => rfl
  | x :: r, k, h => by
    have h0 : p x = false := by simpa using h 0 (by simp)
    have := idxF_none p d r (k + 1) (fun j hlt => by simpa using h (j + 1) (by simpa using hlt))
    simp only [idxF, h0, Bool.false_eq_true, if_false, this]
theorem idxF_any {α : Type} (p : α → Bool) : ∀ (l : List α) (k : Int), 0 ≤ k → decide (0 ≤ idxF p l k) = l.any p
  | [], k, _ => by simp [idxF]
  | x :: r, k, h => by
    simp only [idxF, List.any_cons]
    by_cases hp : p x = true
    · simp [hp, h]
    · simp only [hp]
      simpa using idxF_any p r (k + 1) (by omega)
theorem getD_mem {α : Type} (d : α) (l : List α) (i : Nat) (h : i < l.length) : l.getD i d ∈ l := getD_mem' d l i h
theorem fn98 (l : List Int) (hl : l.length ≤ 1000000) (g : Nat) (fi ca : List AV) (p : Int → Bool) (hg : ∀ x ∈ l, Sy.Fn Tryz.prog g (fi ++ [iv x] ++ ca) (bv (p x))) : Sy.Fn Tryz.prog 98 [aI l, .clo g fi ca] (iv (idxF p l 0)) := by
  refine Fn_of_W mixed Xt98 rfl ?_
  (refine go0 ?_; try exact True.intro)
  refine W_loopU (fun i : Nat => [(8, iv i)]) (fun i => []) (fun i => i ≤ l.length ∧ ∀ j, j < i → p (l.getD j 0) = false) (fun i => l.length - i) 0 ⟨by omega, fun j hj => by omega⟩ (by rfl) (by rfl) (fun i hi => ?_)
  obtain ⟨hi, hp⟩ := hi
  (refine sy1 ?_; try exact True.intro)
  (refine go0 ?_; try exact True.intro)
  refine W_condD (by rfl) (fun h => ?_) (fun h => ?_)
  · have hlt : i < l.length := by omega
    have cg := hg _ (getD_mem 0 l i hlt)
    (refine go_c cg ?_; try exact True.intro)
    refine W_cond (by rfl) (fun hb => ?_) (fun hb => ?_)
    · (refine go0 ?_; try exact True.intro)
      exact W_ret ⟨[_], ⟨rfl, rfl⟩, by rw [idxF_at p 0 l i 0 hlt hp hb, Int.zero_add]; rfl⟩
    · (refine go0 ?_; try exact True.intro)
      refine ⟨i + 1, ⟨by omega, up_all hp hb⟩, by omega, by rfl, ?_⟩
      (refine syE ?_; try exact True.intro)
  · (refine go0 ?_; try exact True.intro)
    exact W_ret ⟨[_], ⟨rfl, rfl⟩, by rw [idxF_none p 0 l 0 (fun j hj => hp j (by omega))]; rfl⟩
theorem fn73 (l : List Int) (hl : l.length ≤ 1000000) (g : Nat) (fi ca : List AV) (p : Int → Bool) (hg : ∀ x ∈ l, Sy.Fn Tryz.prog g (fi ++ [iv x] ++ ca) (bv (p x))) : Sy.Fn Tryz.prog 73 [aI l, .clo g fi ca] (bv (l.any p)) := by
  refine Fn_of_W mixed Xt73 rfl ?_
  (refine go_c (fn98 l hl g fi ca p hg) ?_; try exact True.intro)
  exact W_ret ⟨[_], ⟨rfl, rfl⟩, by rw [← idxF_any p l 0 (by omega)]; rfl⟩
theorem fn56 (l : List Rd) (hl : l.length ≤ 1000000) (g : Nat) (fi ca : List AV) (p : Rd → Bool) (hg : ∀ x ∈ l, Sy.Fn Tryz.prog g (fi ++ [.agg (cR x)] ++ ca) (bv (p x))) : Sy.Fn Tryz.prog 56 [aR l, .clo g fi ca] (iv (idxF p l 0)) := by
  refine Fn_of_W mixed Xt56 rfl ?_
  (refine go0 ?_; try exact True.intro)
  refine W_loopU (fun i : Nat => [(8, iv i)]) (fun i => []) (fun i => i ≤ l.length ∧ ∀ j, j < i → p (l.getD j dR) = false) (fun i => l.length - i) 0 ⟨by omega, fun j hj => by omega⟩ (by rfl) (by rfl) (fun i hi => ?_)
  obtain ⟨hi, hp⟩ := hi
  (refine sy1 ?_; try exact True.intro)
  (refine go0 ?_; try exact True.intro)
  refine W_condD (by rfl) (fun h => ?_) (fun h => ?_)
  · have hlt : i < l.length := by omega
    have cg := hg _ (getD_mem dR l i hlt)
    (refine go_c cg ?_; try exact True.intro)
    refine W_cond (by rfl) (fun hb => ?_) (fun hb => ?_)
    · (refine go0 ?_; try exact True.intro)
      exact W_ret ⟨[_], ⟨rfl, rfl⟩, by rw [idxF_at p dR l i 0 hlt hp hb, Int.zero_add]; rfl⟩
    · (refine go0 ?_; try exact True.intro)
      refine ⟨i + 1, ⟨by omega, up_all hp hb⟩, by omega, by rfl, ?_⟩
      (refine syE ?_; try exact True.intro)
  · (refine go0 ?_; try exact True.intro)
    exact W_ret ⟨[_], ⟨rfl, rfl⟩, by rw [idxF_none p dR l 0 (fun j hj => hp j (by omega))]; rfl⟩
theorem fn72 (l : List Rd) (hl : l.length ≤ 1000000) (g : Nat) (fi ca : List AV) (p : Rd → Bool) (hg : ∀ x ∈ l, Sy.Fn Tryz.prog g (fi ++ [.agg (cR x)] ++ ca) (bv (p x))) : Sy.Fn Tryz.prog 72 [aR l, .clo g fi ca] (bv (l.any p)) := by
  refine Fn_of_W mixed Xt72 rfl ?_
  (refine go_c (fn56 l hl g fi ca p hg) ?_; try exact True.intro)
  exact W_ret ⟨[_], ⟨rfl, rfl⟩, by rw [← idxF_any p l 0 (by omega)]; rfl⟩
theorem fn97 (l : List Wrk) (hl : l.length ≤ 1000000) (g : Nat) (fi ca : List AV) (p : Wrk → Bool) (hg : ∀ x ∈ l, Sy.Fn Tryz.prog g (fi ++ [.agg (cW x)] ++ ca) (bv (p x))) : Sy.Fn Tryz.prog 97 [aW l, .clo g fi ca] (iv (idxF p l 0)) := by
  refine Fn_of_W mixed Xt97 rfl ?_
  (refine go0 ?_; try exact True.intro)
  refine W_loopU (fun i : Nat => [(8, iv i)]) (fun i => []) (fun i => i ≤ l.length ∧ ∀ j, j < i → p (l.getD j dW) = false) (fun i => l.length - i) 0 ⟨by omega, fun j hj => by omega⟩ (by rfl) (by rfl) (fun i hi => ?_)
  obtain ⟨hi, hp⟩ := hi
  (refine sy1 ?_; try exact True.intro)
  (refine go0 ?_; try exact True.intro)
  refine W_condD (by rfl) (fun h => ?_) (fun h => ?_)
  · have hlt : i < l.length := by omega
    have cg := hg _ (getD_mem dW l i hlt)
    (refine go_c cg ?_; try exact True.intro)
    refine W_cond (by rfl) (fun hb => ?_) (fun hb => ?_)
    · (refine go0 ?_; try exact True.intro)
      exact W_ret ⟨[_], ⟨rfl, rfl⟩, by rw [idxF_at p dW l i 0 hlt hp hb, Int.zero_add]; rfl⟩
    · (refine go0 ?_; try exact True.intro)
      refine ⟨i + 1, ⟨by omega, up_all hp hb⟩, by omega, by rfl, ?_⟩
      (refine syE ?_; try exact True.intro)
  · (refine go0 ?_; try exact True.intro)
    exact W_ret ⟨[_], ⟨rfl, rfl⟩, by rw [idxF_none p dW l 0 (fun j hj => hp j (by omega))]; rfl⟩
theorem fn67 (l : List Wrk) (hl : l.length ≤ 1000000) (g : Nat) (fi ca : List AV) (p : Wrk → Bool) (hg : ∀ x ∈ l, Sy.Fn Tryz.prog g (fi ++ [.agg (cW x)] ++ ca) (bv (p x))) : Sy.Fn Tryz.prog 67 [aW l, .clo g fi ca] (bv (l.any p)) := by
  refine Fn_of_W mixed Xt67 rfl ?_
  (refine go_c (fn97 l hl g fi ca p hg) ?_; try exact True.intro)
  exact W_ret ⟨[_], ⟨rfl, rfl⟩, by rw [← idxF_any p l 0 (by omega)]; rfl⟩
theorem fn75 (l : List Int) (hl : l.length ≤ 1000000) (g : Nat) (fi ca : List AV) (p : Int → Bool) (hg : ∀ x ∈ l, Sy.Fn Tryz.prog g (fi ++ [iv x] ++ ca) (bv (p x))) : Sy.Fn Tryz.prog 75 [aI l, .clo g fi ca] (iv (idxF p l 0)) := by
  refine Fn_of_W mixed Xt75 rfl ?_
  (refine go0 ?_; try exact True.intro)
  refine W_loopU (fun i : Nat => [(8, iv i)]) (fun i => []) (fun i => i ≤ l.length ∧ ∀ j, j < i → p (l.getD j 0) = false) (fun i => l.length - i) 0 ⟨by omega, fun j hj => by omega⟩ (by rfl) (by rfl) (fun i hi => ?_)
  obtain ⟨hi, hp⟩ := hi
  (refine sy1 ?_; try exact True.intro)
  (refine go0 ?_; try exact True.intro)
  refine W_condD (by rfl) (fun h => ?_) (fun h => ?_)
  · have hlt : i < l.length := by omega
    have cg := hg _ (getD_mem 0 l i hlt)
    (refine go_c cg ?_; try exact True.intro)
    refine W_cond (by rfl) (fun hb => ?_) (fun hb => ?_)
    · (refine go0 ?_; try exact True.intro)
      exact W_ret ⟨[_], ⟨rfl, rfl⟩, by rw [idxF_at p 0 l i 0 hlt hp hb, Int.zero_add]; rfl⟩
    · (refine go0 ?_; try exact True.intro)
      refine ⟨i + 1, ⟨by omega, up_all hp hb⟩, by omega, by rfl, ?_⟩
      (refine syE ?_; try exact True.intro)
  · (refine go0 ?_; try exact True.intro)
    exact W_ret ⟨[_], ⟨rfl, rfl⟩, by rw [idxF_none p 0 l 0 (fun j hj => hp j (by omega))]; rfl⟩
theorem fn40 (l : List Int) (hl : l.length ≤ 1000000) (g : Nat) (fi ca : List AV) (p : Int → Bool) (hg : ∀ x ∈ l, Sy.Fn Tryz.prog g (fi ++ [iv x] ++ ca) (bv (p x))) : Sy.Fn Tryz.prog 40 [aI l, .clo g fi ca] (bv (l.any p)) := by
  refine Fn_of_W mixed Xt40 rfl ?_
  (refine go_c (fn75 l hl g fi ca p hg) ?_; try exact True.intro)
  exact W_ret ⟨[_], ⟨rfl, rfl⟩, by rw [← idxF_any p l 0 (by omega)]; rfl⟩
theorem fn99 (l : List Int) (x : Int) (hl : l.length ≤ 1000000) : Sy.Fn Tryz.prog 99 [aI l, iv x] (iv (idxF (fun y => x == y) l 0)) := by
  refine Fn_of_W mixed Xt99 rfl ?_
  (refine go0 ?_; try exact True.intro)
  refine W_loopU (fun i : Nat => [(8, iv i)]) (fun i => []) (fun i => i ≤ l.length ∧ ∀ j, j < i → (x == l.getD j 0) = false) (fun i => l.length - i) 0 ⟨by omega, fun j hj => by omega⟩ (by rfl) (by rfl) (fun i hi => ?_)
  obtain ⟨hi, hp⟩ := hi
  (refine sy1 ?_; try exact True.intro)
  (refine go0 ?_; try exact True.intro)
  refine W_condD (by rfl) (fun h => ?_) (fun h => ?_)
  · have hlt : i < l.length := by omega
    (refine go0 ?_; try exact True.intro)
    refine W_cond (by rfl) (fun hb => ?_) (fun hb => ?_)
    · (refine go0 ?_; try exact True.intro)
      exact W_ret ⟨[_], ⟨rfl, rfl⟩, by rw [idxF_at (fun y => x == y) 0 l i 0 hlt hp hb, Int.zero_add]; rfl⟩
    · (refine go0 ?_; try exact True.intro)
      refine ⟨i + 1, ⟨by omega, up_all hp hb⟩, by omega, by rfl, ?_⟩
      (refine syE ?_; try exact True.intro)
  · (refine go0 ?_; try exact True.intro)
    exact W_ret ⟨[_], ⟨rfl, rfl⟩, by rw [idxF_none (fun y => x == y) 0 l 0 (fun j hj => hp j (by omega))]; rfl⟩
theorem fn76 (l : List Int) (x : Int) (hl : l.length ≤ 1000000) : Sy.Fn Tryz.prog 76 [aI l, iv x] (bv (decide (x ∈ l))) := by
  refine Fn_of_W mixed Xt76 rfl ?_
  (refine go_c (fn99 l x hl) ?_; try exact True.intro)
  refine W_ret ⟨[_], ⟨rfl, rfl⟩, ?_⟩
  have e : decide (0 ≤ idxF (fun y => x == y) l 0) = decide (x ∈ l) := by
    rw [idxF_any _ l 0 (by omega), ← List.contains_eq_any_beq]
    rw [Bool.eq_iff_iff, List.contains_iff_mem, decide_eq_true_eq]
  rw [← e]; rfl
theorem fn74 (x : Int) : Sy.Fn Tryz.prog 74 [iv x] (bv (!inR x 0 1073741824)) := by
  refine Fn_of_W mixed Xt74 rfl ?_
  (refine go_c (fun x1 x2 x3 => fn24 x1 x2 x3) ?_; try exact True.intro)
  exact W_ret ⟨[_], ⟨rfl, rfl⟩, rfl⟩
def li6 (f : Nat → Int) : List Int := [f 0, f 1, f 2, f 3, f 4, f 5]
theorem any6 (f : Nat → Int) : (List.any (li6 f) fun x => !inR x 0 1073741824) = !szB f := by
  unfold szB li6
  simp [List.range_succ, List.any_cons, List.all_append]
def szE (f : Nat → Int) : Int := if szB f = true then 0 else 2
theorem fn39 (f : Nat → Int) : Sy.Fn Tryz.prog 39 [.agg (c6 f)] (iv (szE f)) := by
  refine Fn_of_W mixed Xt39 rfl ?_
  have c73 := fn73 (li6 f) (Nat.le_of_ble_eq_true rfl) 74 [] [] (fun x => !inR x 0 1073741824) (fun x _ => fn74 x)
  rw [any6] at c73
  (refine go0 ?_; try exact True.intro)
  refine ⟨Int, 0, cI, li6 f, fun _ => ⟨trivial, rfl, by omega, fun x _ => rfl, rfl⟩, ?_⟩
  (refine sy1 ?_; try exact True.intro)
  (refine go_c c73 ?_; try exact True.intro)
  unfold szE
  cases szB f
  · refine W_cond (by rfl) (fun _ => ?_) (fun h => by cases h)
    (refine go0 ?_; try exact True.intro)
    exact W_ret ⟨[_], ⟨rfl, rfl⟩, rfl⟩
  · refine W_cond (by rfl) (fun h => by cases h) (fun _ => ?_)
    (refine go0 ?_; try exact True.intro)
    exact W_ret ⟨[_], ⟨rfl, rfl⟩, rfl⟩
structure Gm (m : Mp) : Prop where
  r : m.rs.length ≤ 300
  w : m.ws.length ≤ 20
  s : ∀ w ∈ m.ws, w.rs.length ≤ 40
theorem fn68 (w : Wrk) : Sy.Fn Tryz.prog 68 [.agg (cW w)] (bv (decide (16 < w.rs.length))) := by
  refine Fn_of_W mixed Xt68 rfl ?_
  have e : decide ((16 : Int) < (w.rs.length : Int)) = decide (16 < w.rs.length) := by
    rw [Bool.eq_iff_iff, decide_eq_true_eq, decide_eq_true_eq]; omega
  rw [← e]
  (refine go0 ?_; try exact True.intro)
  exact W_ret ⟨[_], ⟨rfl, rfl⟩, rfl⟩
theorem fn69 (m : Mp) (x : Int) : Sy.Fn Tryz.prog 69 [iv x, .fp (cM m) 0] (bv (plB m.n x)) := by
  refine Fn_of_W mixed Xt69 rfl ?_
  (refine go0 ?_; try exact True.intro)
  exact W_ret ⟨[_], ⟨rfl, rfl⟩, rfl⟩
theorem hrs_wrap (r : Rd) : (decide (0 ≤ r.o) && decide (r.o < r.z) && decide (r.z ≤ 1440) && inR r.m 1 (min 1440 (IntKind.i64.wrap (r.z - r.o)))) = hrsB r := by
  unfold hrsB
  by_cases h : 0 ≤ r.o ∧ r.o < r.z ∧ r.z ≤ 1440
  · rw [wrap64 (by omega)]
  · have e : (decide (0 ≤ r.o) && decide (r.o < r.z) && decide (r.z ≤ 1440)) = false := by
      rw [← Bool.not_eq_true]
      simp only [Bool.and_eq_true, decide_eq_true_eq]
      omega
    rw [e]; rfl
theorem fn70 (m : Mp) (r : Rd) : Sy.Fn Tryz.prog 70 [.agg (cR r), .fp [.clo 69 [] [.fp (cM m) 0]] 0] (bv (!roadB m.n r)) := by
  refine Fn_of_W mixed Xt70 rfl ?_
  (refine go_cg (fun x1 x2 x3 => fn24 x1 x2 x3) (fun x1 x2 x3 => fn24 x1 x2 x3) ?_; try exact True.intro)
  rw [hrs_wrap]
  repeat' (first | refine w1g ?_ | refine w1l ?_ | refine w1q ?_ | refine w1b ?_ | refine w1p ?_ | ((first | refine w1r ?_ | refine w1k ?_ | refine w1e ?_ | refine CallC.now (fn69 _ _) ?_ | refine CallC.go _ (fun _ => ⟨trivial, fn69 _ _⟩) rfl ?_ | refine CallC.go _ (fun _ => ⟨trivial, fn24 _ _ _⟩) rfl ?_ | refine CallC.go _ (fun _ => ⟨trivial, fn39 _⟩) rfl ?_); (refine sy1 ?_; try exact True.intro)) | refine an2 ?_ | fail)
  refine W_ret ⟨[_], ⟨rfl, rfl⟩, ?_⟩
  have e : roadB m.n r = (plB m.n r.f && plB m.n r.t && !(r.f == r.t) && inR r.c 1 1073741824 && hrsB r && szB r.lim) := rfl
  rw [e]
  unfold szE
  generalize plB m.n r.f = b1
  generalize plB m.n r.t = b2
  generalize (r.f == r.t) = b3
  generalize inR r.c 1 1073741824 = b4
  generalize hrsB r = b5
  generalize szB r.lim = b6
  cases b1 <;> cases b2 <;> cases b3 <;> cases b4 <;> cases b5 <;> cases b6 <;> rfl
theorem workB_neg (n : Int) (w : Wrk) : ((w.rs.length : Int) == 0 || !setB w.rs n || decide (w.k < 0) || decide (5 < w.k) || !inR w.l 0 1073741824 || !inR w.c 1 1073741824) = !workB n w := by
  have e : workB n w = (decide (0 < w.rs.length) && setB w.rs n && decide (0 ≤ w.k) && decide (w.k ≤ 5) && inR w.l 0 1073741824 && inR w.c 1 1073741824) := rfl
  rw [e, Bool.eq_iff_iff]
  generalize setB w.rs n = b1
  generalize inR w.l 0 1073741824 = b2
  generalize inR w.c 1 1073741824 = b3
  simp only [Bool.or_eq_true, Bool.not_eq_true', Bool.and_eq_false_iff, decide_eq_true_eq, decide_eq_false_iff_not, beq_iff_eq]
  cases b1 <;> cases b2 <;> cases b3 <;> simp only [true_or, or_true, false_or, or_false, reduceCtorEq] <;> omega
theorem fn71 (m : Mp) (w : Wrk) (hl : w.rs.length ≤ 1000000) : Sy.Fn Tryz.prog 71 [.agg (cW w), .fp (cM m) 0] (bv (!workB m.rs.length w)) := by
  refine Fn_of_W mixed Xt71 rfl ?_
  repeat' (first | refine w1g ?_ | refine w1l ?_ | refine w1q ?_ | refine w1b ?_ | refine w1p ?_ | ((first | refine w1r ?_ | refine w1k ?_ | refine w1e ?_ | refine CallC.go _ (fun _ => ⟨trivial, fn22 _ _ (by omega)⟩) rfl ?_ | refine CallC.go _ (fun _ => ⟨trivial, fn24 _ _ _⟩) rfl ?_); (refine sy1 ?_; try exact True.intro)) | refine an2 ?_ | fail)
  rw [workB_neg]
  exact W_ret ⟨[_], ⟨rfl, rfl⟩, rfl⟩
theorem manyB_eq {m : Mp} (hr : decide ((256 : Int) < (m.rs.length : Int)) = decide (256 < m.rs.length)) : manyB m = (decide ((256 : Int) < (m.rs.length : Int)) || decide ((10 : Int) < (m.ws.length : Int)) || m.ws.any fun w => decide (16 < w.rs.length)) := by
  unfold manyB
  rw [hr]
  congr 2
  rw [Bool.eq_iff_iff, decide_eq_true_eq, decide_eq_true_eq]; omega
theorem fn38 (m : Mp) (h : Gm m) : Sy.Fn Tryz.prog 38 [aM m] (iv (chkM m)) := by
  refine Fn_of_W mixed Xt38 rfl ?_
  have h1 := h.r
  have h2 := h.w
  have c81a := fn67 m.ws (by omega) 68 [] [] (fun w => decide (16 < w.rs.length)) (fun w _ => fn68 w)
  have c81b := fn67 m.ws (by omega) 71 [] [.fp (cM m) 0] (fun w => !workB m.rs.length w) (fun w hw => fn71 m w (by have := h.s w hw; omega))
  have c72 := fn72 m.rs (by omega) 70 [] [.fp [.clo 69 [] [.fp (cM m) 0]] 0] (fun r => !roadB m.n r) (fun r _ => fn70 m r)
  (refine go_g c81a ?_; try exact True.intro)
  have e1 := manyB_eq (m := m) (by rw [Bool.eq_iff_iff, decide_eq_true_eq, decide_eq_true_eq]; omega)
  rw [← e1]
  refine W_cond (by rfl) (fun hb => ?_) (fun hb => ?_)
  · have e : chkM m = 6 := by unfold chkM; rw [if_pos hb]
    rw [e]
    (refine go0 ?_; try exact True.intro)
    exact W_ret ⟨[_], ⟨rfl, rfl⟩, rfl⟩
  have hmn : ¬ manyB m = true := by rw [hb]; decide
  (refine go_gg c72 c81b ?_; try exact True.intro)
  have e2 : ((decide (m.n < 1) || decide (64 < m.n) || m.rs.any fun r => !roadB m.n r) || m.ws.any fun w => !workB (m.rs.length : Int) w) = badM m := rfl
  rw [e2]
  refine W_cond (by rfl) (fun hb => ?_) (fun hb => ?_)
  · have e : chkM m = 2 := by unfold chkM; rw [if_neg hmn, if_pos hb]
    rw [e]
    (refine go0 ?_; try exact True.intro)
    exact W_ret ⟨[_], ⟨rfl, rfl⟩, rfl⟩
  · have e : chkM m = 0 := by unfold chkM; rw [if_neg hmn, if_neg (by rw [hb]; decide)]
    rw [e]
    (refine go0 ?_; try exact True.intro)
    exact W_ret ⟨[_], ⟨rfl, rfl⟩, rfl⟩
def cAt (m : Mp) (f : Nat → Int) : List AV := [iv m.n, aR m.rs, aW m.ws, iv (f 0), iv (f 1), iv (f 2), iv (f 3), iv (f 4), iv (f 5)]
theorem nAt0 (m : Mp) (f : Nat → Int) : nth (cAt m f) 0 = iv m.n := rfl
theorem nAt1 (m : Mp) (f : Nat → Int) : nth (cAt m f) 1 = aR m.rs := rfl
theorem nAt2 (m : Mp) (f : Nat → Int) : nth (cAt m f) 2 = aW m.ws := rfl
theorem lAt (m : Mp) (f : Nat → Int) : (cAt m f).length = 9 := rfl
theorem frAt (m : Mp) (f : Nat → Int) : frzAll (cAt m f) = true := rfl
theorem tAt3 (m : Mp) (f : Nat → Int) : List.take 3 (cAt m f) = cM m := rfl
theorem tAt30 (m : Mp) (f : Nat → Int) : List.take 3 (List.drop 0 (cAt m f)) = cM m := rfl
theorem tAt6 (m : Mp) (f : Nat → Int) : List.take 6 (List.drop 3 (cAt m f)) = c6 f := rfl
theorem tAt9 (m : Mp) (f : Nat → Int) : List.take 9 (cAt m f) = cAt m f := rfl
theorem tAt90 (m : Mp) (f : Nat → Int) : List.take 9 (List.drop 0 (cAt m f)) = cAt m f := rfl
theorem iAt {g : Nat → Option Blk} {n : Nat} (m : Mp) (f : Nat → Int) : List.flatMap (ids g n) (cAt m f) = [] := flat_frz n _ (frAt m f)
theorem vAt {g : Nat → Option Blk} {n : Nat} (m : Mp) (f : Nat → Int) : List.map (view g n) (cAt m f) = cAt m f := viewL_frz n _ (frAt m f)
theorem mkAt (m : Mp) (f : Nat → Int) : cM m ++ c6 f = cAt m f := rfl
attribute [push_cast] nAt0 nAt1 nAt2 lAt frAt tAt3 tAt30 tAt6 tAt9 tAt90 iAt vAt mkAt
abbrev aAt (m : Mp) (f : Nat → Int) : AV := .agg (cAt m f)
def zAt : List AV := [iv 0, .v (.slice none 0 0), .v (.slice none 0 0), iv 0, iv 0, iv 0, iv 0, iv 0, iv 0]
def opE (m : Mp) (f : Nat → Int) : Int := if chkM m = 0 then szE f else chkM m
def opV (m : Mp) (f : Nat → Int) : List AV := if chkM m = 0 then cAt m f else zAt
theorem fn21 (m : Mp) (f : Nat → Int) (h : Gm m) : Sy.Fn Tryz.prog 21 [aM m, .agg (c6 f)] (.tup [.agg (opV m f), iv (opE m f)]) := by
  refine Fn_of_W mixed Xt21 rfl ?_
  unfold opE opV
  (refine go_c (fn38 m h) ?_; try exact True.intro)
  refine W_cond (by rfl) (fun hb => ?_) (fun hb => ?_)
  · rw [bne_iff_ne] at hb
    rw [if_neg hb, if_neg hb]
    (refine go0 ?_; try exact True.intro)
    exact W_ret ⟨[_, _], ⟨⟨by simp, rfl⟩, rfl, rfl⟩, rfl⟩
  · rw [bne_eq_false_iff_eq] at hb
    rw [if_pos hb, if_pos hb]
    (refine go_c (fn39 f) ?_; try exact True.intro)
    refine ⟨rfl, ?_⟩
    exact W_ret ⟨[_, _], ⟨⟨⟨trivial, Nat.le_of_ble_eq_true rfl⟩, rfl⟩, rfl, rfl⟩, rfl⟩
theorem fn41 (m : Mp) (x : Int) : Sy.Fn Tryz.prog 41 [iv x, .fp (cM m) 0] (bv (!plB m.n x)) := by
  refine Fn_of_W mixed Xt41 rfl ?_
  have e : (decide (x < 0) || decide (m.n ≤ x)) = !plB m.n x := by
    unfold plB
    rw [Bool.eq_iff_iff]
    simp only [Bool.or_eq_true, Bool.not_eq_true', Bool.and_eq_false_iff, decide_eq_true_eq, decide_eq_false_iff_not]
    omega
  rw [← e]
  (refine go0 ?_; try exact True.intro)
  exact W_ret ⟨[_], ⟨rfl, rfl⟩, rfl⟩
def plsB (m : Mp) (l : List Int) : Bool := !(l.any fun x => !plB m.n x)
theorem fn23 (m : Mp) (l : List Int) (hl : l.length ≤ 1000000) : Sy.Fn Tryz.prog 23 [aM m, aI l] (iv (if plsB m l = true then 0 else 3)) := by
  refine Fn_of_W mixed Xt23 rfl ?_
  have c40 := fn40 l hl 41 [] [.fp (cM m) 0] (fun x => !plB m.n x) (fun x _ => fn41 m x)
  unfold plsB
  (refine go_c c40 ?_; try exact True.intro)
  cases l.any fun x => !plB m.n x
  · refine W_cond (by rfl) (fun h => by cases h) (fun _ => ?_)
    (refine go0 ?_; try exact True.intro)
    exact W_ret ⟨[_], ⟨rfl, rfl⟩, rfl⟩
  · refine W_cond (by rfl) (fun _ => ?_) (fun h => by cases h)
    (refine go0 ?_; try exact True.intro)
    exact W_ret ⟨[_], ⟨rfl, rfl⟩, rfl⟩
def rdE (m : Mp) (l : List Int) : Int := if 256 < l.length then 6 else if (l.any fun x => !plB m.rs.length x) = true then 3 else 0
def greatB (m : Mp) : Bool := decide (300 < m.rs.length) || decide (20 < m.ws.length) || (m.ws.any fun w => decide (40 < w.rs.length)) || (chkM m == 0 && (decide (12 < m.n) || decide (30 < m.rs.length) || decide (5 < m.ws.length)))
theorem fn55 (s : Nat) : Sy.Fn Tryz.prog 55 [uv s] (.clo 81 [] [.fp [uv s] 0]) := by
  refine Fn_of_W mixed Xt55 rfl ?_
  (refine go0 ?_; try exact True.intro)
  exact W_ret ⟨[_], ⟨rfl, rfl⟩, rfl⟩
theorem shrS (s : Nat) {i : Nat} (hi : i ≤ 64) : (s : Int).fdiv (2 ^ min i IntKind.u64.bits) = ((s / 2 ^ i : Nat) : Int) := by
  have e : min i IntKind.u64.bits = i := Nat.min_eq_left hi
  rw [e, Int.fdiv_eq_ediv_of_nonneg _ (Int.pow_nonneg (by omega))]
  rw [Int.natCast_ediv, Int.natCast_pow]
  rfl
theorem andS (x : Nat) (hx : x < 18446744073709551616) : bits .and .u64 (x : Int) 1 = ((x % 2 : Nat) : Int) := by
  have h := bits_and_u64_nat x 1 hx (by omega)
  rw [Nat.and_one_is_mod] at h
  exact h
theorem div_lt64 {s : Nat} (h : s < 1024) (i : Nat) : s / 2 ^ i < 18446744073709551616 := by
  have := Nat.div_le_self s (2 ^ i)
  omega
theorem pre_mem {l : List Int} {i : Nat} {x : Int} (h : x ∈ pre l i) : x ∈ l := by
  unfold pre at h
  exact (List.mem_filter.1 h).1
structure SetW (m : Mp) (l : List Int) (s : Nat) : Prop where
  b : BitsOf s l
  s : Srt m.ws.length 0 l
theorem fn53 (m : Mp) (f : Nat → Int) (l : List Int) (s : Nat) (h : OkM m) (hs : SetW m l s) : Sy.Fn Tryz.prog 53 [aAt m f, uv s] (iv (costL m l)) := by
  refine Fn_of_W mixed Xt53 rfl ?_
  have hw := h.nw
  have hlt := bits_lt hs.b (fun x hx => (hs.s.mem x hx).2)
  (refine go_c (fn55 s) ?_; try exact True.intro)
  refine W_rfn (.inl rfl) (fun lp R hR => Inl_of_W mixed Xt81 rfl (fun vs => ?_))
  (refine sy1 ?_; try exact True.intro)
  (refine go0 ?_; try exact True.intro)
  refine W_loopU (fun i : Nat => [(3, iv i)]) (fun i => [(2, .cells [iv (costL m (pre l i))])]) (fun i => i ≤ 10) (fun i => 11 - i) 0 (by omega) (by rfl) (by rw [pre_zero hs.s]; rfl) (fun i hi => ?_)
  have hs1 : s < 1024 := by
    have := bits_lt (n := 10) hs.b (fun x hx => by have := (hs.s.mem x hx).2; omega)
    simpa using this
  obtain ⟨q, hq⟩ : ∃ q, q = s / 2 ^ i := ⟨_, rfl⟩
  have e1 := shrS s (i := i) (by omega)
  have e2 := andS (s / 2 ^ i) (div_lt64 hs1 i)
  rw [bits_shr hs.b i] at e2
  rw [← hq] at e1 e2
  have e4 := pre_succ (i := i) hs.s
  (refine sy1 ?_; try exact True.intro)
  (refine gof e1 ?_; try exact True.intro)
  refine W_cond (by rfl) (fun hb => ?_) (fun hb => ?_)
  · have hi10 : i < 10 := bits_more hs.b (by rw [← hq]; intro z; rw [z] at hb; simp at hb) (fun x hx => by have := (hs.s.mem x hx).2; omega)
    by_cases hm : (i : Int) ∈ l
    · rw [if_pos hm] at e2 e4
      have e2 : bits .and .u64 (q : Int) 1 = 1 := e2
      have hir := hs.s.mem _ hm
      have ec : costL m (pre l (i + 1)) = costL m (pre l i) + (gw m i).c := by rw [e4, costL_snoc]; rfl
      have hcr := costL_rng h (l := pre l i) (fun x hx => hs.s.mem x (pre_mem hx))
      have hlen : (pre l i).length ≤ 10 := by
        have h1 := hs.s.len (by omega)
        have h2 := List.length_filter_le (fun x => decide (x < (i : Int))) l
        unfold pre
        omega
      have hwc := (workB_ok (h.w i (by omega))).c
      have hgw : m.ws.getD i dW = gw m i := rfl
      generalize costL m (pre l i) = C at *
      (refine gof (ad2 e1 e2) ?_; try exact True.intro)
      refine StopC.yld (fun hpc => ⟨trivial, Yl_of_W (k := 6) mixed hR rfl rfl rfl (fun vs2 => ?_)⟩) (fun hpc => absurd (by simp [Sy.pc]) hpc)
      (refine sy1 ?_; try exact True.intro)
      (refine go0 ?_; try exact True.intro)
      refine ⟨_, rfl, ?_⟩
      (refine sy1 ?_; try exact True.intro)
      (refine gof hgw ?_; try exact True.intro)
      refine ⟨_, _, rfl, rfl, ?_⟩
      (refine sy1 ?_; try exact True.intro)
      (refine go0 ?_; try exact True.intro)
      refine W_cond (by rfl) (fun h => by cases h) (fun _ => ?_)
      (refine go0 ?_; try exact True.intro)
      refine ⟨i + 1, by omega, by omega, by rfl, ?_⟩
      rw [ec]
      (refine syE ?_; try exact True.intro)
    · rw [if_neg hm] at e2 e4
      have e2 : bits .and .u64 (q : Int) 1 = 0 := e2
      have z01 : ((0 : Int) == 1) = false := rfl
      (refine gof (ad3 e1 e2 z01) ?_; try exact True.intro)
      refine StopC.yld (fun hpc => absurd hpc (by simp [Sy.pc])) (fun hpc => ?_)
      (refine sy1 ?_; try exact True.intro)
      (refine go0 ?_; try exact True.intro)
      refine W_cond (by rfl) (fun h => by cases h) (fun _ => ?_)
      (refine go0 ?_; try exact True.intro)
      refine ⟨i + 1, by omega, by omega, by rfl, ?_⟩
      rw [e4, List.append_nil]
      (refine syE ?_; try exact True.intro)
  · have hq0 : s / 2 ^ i = 0 := by
      rw [← hq]
      have := bne_eq_false_iff_eq.1 hb
      omega
    have hall := pre_all (bits_end hs.b (fun x hx => (hs.s.mem x hx).1) hq0)
    rw [hall]
    (refine go0 ?_; try exact True.intro)
    refine ⟨_, _, rfl, rfl, ⟨_, _, rfl, by rw [hR.st]; simp, ?_⟩⟩
    rw [hR.pe]
    (refine syN ?_; try exact True.intro)
    (refine go0 ?_; try exact True.intro)
    exact W_ret ⟨[_], ⟨rfl, rfl⟩, rfl⟩
theorem fn47 (m : Mp) (f : Nat → Int) (l : List Int) (s : Nat) (road k : Nat) (h : OkM m) (hs : SetW m l s) (hr : road < m.rs.length) (hk : k < 6) : Sy.Fn Tryz.prog 47 [aAt m f, uv s, iv road, iv k] (iv (limL m l road k)) := by
  refine Fn_of_W mixed Xt47 rfl ?_
  have hw := h.nw
  have hs1 : s < 1024 := by
    have := bits_lt (n := 10) hs.b (fun x hx => by have := (hs.s.mem x hx).2; omega)
    simpa using this
  have hlim : nth (cR (gr m road)) (6 + k) = iv ((gr m road).lim k) := by
    rcases k with _ | _ | _ | _ | _ | _ | k <;> first | rfl | omega
  have hgr : m.rs.getD road dR = gr m road := rfl
  repeat' (first | refine w1g ?_ | refine w1l ?_ | refine w1q ?_ | refine w1b ?_ | refine w1p ?_ | ((first | refine w1r ?_ | refine w1k ?_ | refine w1e ?_ | refine CallC.now (fn55 s) ?_); simp (maxSteps := 400000) (disch := omega) only [push_cast, ↓reduceIte, reduceCtorEq, Nat.reduceAdd, Nat.reduceSub, Nat.reduceEqDiff, Nat.reduceLeDiff, Nat.reduceLT, Nat.reduceBEq, Nat.reduceDiv, Nat.reduceMod, Nat.reducePow, Nat.reduceMul, Int.reduceToNat, Int.reduceLT, Int.reduceLE, hgr, hlim, Nat.mul_one, Nat.add_assoc]) | refine an2 ?_ | fail)
  refine W_rfn (.inl rfl) (fun lp R hR => Inl_of_W mixed Xt81 rfl (fun vs => ?_))
  (refine sy1 ?_; try exact True.intro)
  (refine go0 ?_; try exact True.intro)
  refine W_loopU (fun i : Nat => [(3, iv i)]) (fun i => [(13, .cells [iv (limL m (pre l i) road k)])]) (fun i => i ≤ 10) (fun i => 11 - i) 0 (by omega) (by rfl) (by rw [pre_zero hs.s]; rfl) (fun i hi => ?_)
  obtain ⟨q, hq⟩ : ∃ q, q = s / 2 ^ i := ⟨_, rfl⟩
  have e1 := shrS s (i := i) (by omega)
  have e2 := andS (s / 2 ^ i) (div_lt64 hs1 i)
  rw [bits_shr hs.b i] at e2
  rw [← hq] at e1 e2
  have e4 := pre_succ (i := i) hs.s
  (refine sy1 ?_; try exact True.intro)
  (refine gof e1 ?_; try exact True.intro)
  refine W_cond (by rfl) (fun hb => ?_) (fun hb => ?_)
  · have hi10 : i < 10 := bits_more hs.b (by rw [← hq]; intro z; rw [z] at hb; simp at hb) (fun x hx => by have := (hs.s.mem x hx).2; omega)
    by_cases hm : (i : Int) ∈ l
    · rw [if_pos hm] at e2 e4
      have e2 : bits .and .u64 (q : Int) 1 = 1 := e2
      have hir := hs.s.mem _ hm
      have ec : limL m (pre l (i + 1)) road k = limS m road k (limL m (pre l i) road k) i := by rw [e4, limL_snoc]
      have es : ∀ n : Int, limS m road k n i = if (gw m i).k = k ∧ (road : Int) ∈ (gw m i).rs then max n (gw m i).l else n := fun _ => rfl
      have hgw : m.ws.getD i dW = gw m i := rfl
      have hwl := h.s i (by omega)
      have c76 := fn76 (gw m i).rs (road : Int) (by omega)
      rw [es] at ec
      generalize limL m (pre l i) road k = C at *
      generalize gw m i = w at *
      (refine gof (ad2 e1 e2) ?_; try exact True.intro)
      refine StopC.yld (fun hpc => ⟨trivial, Yl_of_W (k := 17) mixed hR rfl rfl rfl (fun vs2 => ?_)⟩) (fun hpc => absurd (by simp [Sy.pc]) hpc)
      (refine sy1 ?_; try exact True.intro)
      (refine go0 ?_; try exact True.intro)
      refine ⟨_, rfl, ?_⟩
      (refine sy1 ?_; try exact True.intro)
      (refine gofg hgw c76 ?_; try exact True.intro)
      refine W_cond (by rfl) (fun hz => ?_) (fun hz => ?_)
      · rw [Bool.and_eq_true, beq_iff_eq, decide_eq_true_eq] at hz
        rw [if_pos hz] at ec
        (refine go0 ?_; try exact True.intro)
        refine ⟨_, _, rfl, rfl, ?_⟩
        (refine sy1 ?_; try exact True.intro)
        (refine go0 ?_; try exact True.intro)
        refine W_cond (by rfl) (fun h => by cases h) (fun _ => ?_)
        (refine go0 ?_; try exact True.intro)
        refine ⟨i + 1, by omega, by omega, by rfl, ?_⟩
        rw [ec]
        (refine syE ?_; try exact True.intro)
      · have hz : ¬ (w.k = k ∧ (road : Int) ∈ w.rs) := by
          rintro ⟨z1, z2⟩
          rw [z1, decide_eq_true z2] at hz
          simp at hz
        rw [if_neg hz] at ec
        (refine go0 ?_; try exact True.intro)
        refine ⟨_, _, rfl, rfl, ?_⟩
        (refine sy1 ?_; try exact True.intro)
        (refine go0 ?_; try exact True.intro)
        refine W_cond (by rfl) (fun h => by cases h) (fun _ => ?_)
        (refine go0 ?_; try exact True.intro)
        refine ⟨i + 1, by omega, by omega, by rfl, ?_⟩
        rw [ec]
        (refine syE ?_; try exact True.intro)
    · rw [if_neg hm] at e2 e4
      have e2 : bits .and .u64 (q : Int) 1 = 0 := e2
      have z01 : ((0 : Int) == 1) = false := rfl
      (refine gof (ad3 e1 e2 z01) ?_; try exact True.intro)
      refine StopC.yld (fun hpc => absurd hpc (by simp [Sy.pc])) (fun hpc => ?_)
      (refine sy1 ?_; try exact True.intro)
      (refine go0 ?_; try exact True.intro)
      refine W_cond (by rfl) (fun h => by cases h) (fun _ => ?_)
      (refine go0 ?_; try exact True.intro)
      refine ⟨i + 1, by omega, by omega, by rfl, ?_⟩
      rw [e4, List.append_nil]
      (refine syE ?_; try exact True.intro)
  · have hq0 : s / 2 ^ i = 0 := by
      rw [← hq]
      have := bne_eq_false_iff_eq.1 hb
      omega
    have hall := pre_all (bits_end hs.b (fun x hx => (hs.s.mem x hx).1) hq0)
    rw [hall]
    (refine go0 ?_; try exact True.intro)
    refine ⟨_, _, rfl, rfl, ⟨_, _, rfl, by rw [hR.st]; simp, ?_⟩⟩
    rw [hR.pe]
    (refine syN ?_; try exact True.intro)
    (refine go0 ?_; try exact True.intro)
    exact W_ret ⟨[_], ⟨rfl, rfl⟩, rfl⟩
end Go.Proofs.YtlahcoaofbpinaaGreat.R
