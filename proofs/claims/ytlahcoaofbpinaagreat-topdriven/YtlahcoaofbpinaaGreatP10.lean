/- Part 10 of the proof of: TopDriven: for every input the law returns true -/
import Derived.Test.YtlahcoaofbpinaaGreatP9
namespace Go.Proofs.YtlahcoaofbpinaaGreat.R
open Go Sy
set_option maxRecDepth 100000
set_option maxHeartbeats 8000000
set_option linter.unusedVariables false
set_option linter.unusedSimpArgs false
abbrev cTr (t : Tr) : List AV := [.v (.int .u8 t.f), .v (.int .u8 t.t), .v (.int .u8 t.c), .v (.int .u8 t.w), .v (.int .u8 t.a), .v (.int .u8 t.h), .v (.int .u8 t.o), .v (.int .u8 t.l)]
abbrev aTr (l : List Tr) : AV := .sl 8 dTr cTr l
abbrev cFx (x : Fx) : List AV := [.v (.int .u8 x.r), .v (.int .u8 x.k), .v (.int .u8 x.l), .v (.int .u8 x.c)]
abbrev aFx (l : List Fx) : AV := .sl 4 dFx cFx l
def sl1 (b : Bool) (x : AV) : AV := if b = true then x else .bad
theorem sl1_t (x : AV) : sl1 true x = x := rfl
theorem sl1_f (x : AV) : sl1 false x = .bad := rfl
theorem le_stk {s s' : S} (ks : List Nat) (nx : Nat) (h : ∀ j, nx ≤ j → lm s.mem j = none) (he : (⟨keepL s.tm ks, s.mem, nx⟩ : S) = s') : le s s' := he ▸ le_keepL ks nx h
theorem le_two {s t u : S} (h : le s t) (k : le t u) : le s u := fun G E a w hS => by
  obtain ⟨E2, h2⟩ := h G E a w hS
  exact k G E2 a w h2
theorem oB {bs : List Nat} {b : Bool} {x : AV} (h : onlyB bs x = true) : onlyB bs (sl1 b x) = true := by
  cases b
  · rfl
  · exact h
theorem okc {bs : List Nat} {t : Nat} {a : AV} {r : List (Nat × AV)} (h : onlyB bs a = true) (k : okTm bs r = true) : okTm bs ((t, a) :: r) = true := by
  show (onlyB bs a && okTm bs r) = true
  rw [h, k]; rfl
theorem nOK {ks bs : List Nat} {nx : Nat} {s : S} (h1 : okTm bs (ks.map fun t => (t, lk s.tm t)) = true) (h2 : okMem bs s.mem = true) (h3 : allLt nx bs = true) : normOK ks bs nx s = true := by
  show (okTm bs (ks.map fun t => (t, lk s.tm t)) && okMem bs s.mem && allLt nx bs) = true
  rw [h1, h2, h3]; rfl
def fW (ws : List Wrk) (w : Wrk) (i : Nat) : Bool → Blk
  | true => .row (i + 1) 55 4 dW cW (ws ++ [w])
  | false => .row i 55 4 dW cW ws
def fC (n i : Nat) : Bool → Blk
  | true => .cells [iv 5, .row 5 n, .row 6 (i + 1)]
  | false => .cells [iv 5, .row 5 n, .row 6 i]
abbrev fZ : Blk := .cells [iv 0, .v (.slice none 0 0), .v (.slice none 0 0)]
abbrev fM (RA : List Rd) (ws : List Wrk) (i : Nat) (b : Fx) (x y : Bool) : List (Nat × Blk) := [(6, fW ws (wkF RA.length b) i x), (5, .row RA.length 37 12 dR cR RA), (0, fZ), (2, fC RA.length i y), (34, .cells (cFx b))]
theorem fM_no (RA : List Rd) (ws : List Wrk) (i : Nat) (b : Fx) (x y : Bool) (q : Nat) (hq : 90 ≤ q) : lm (fM RA ws i b x y) q = none := by
  simp only [lm]
  repeat rw [if_neg (by omega)]
def kS46 : List Nat := [1, 4, 5, 9, 10, 11, 116, 117, 118, 119, 120, 121, 122, 123, 124, 125, 126, 127, 128, 129, 130, 131, 132, 133, 134, 135, 136, 137, 138, 139, 140, 141, 142, 143, 144, 145, 146]
def fS (fs : List Fx) (RA : List Rd) (ws : List Wrk) (i : Nat) (b : Fx) (D : Nat → Bool) : S :=
  ⟨[(1, aFx fs), (4, .own 0 0), (5, .own 2 0), (9, iv i), (10, .own 34 0), (11, iv (kdF b.k)), (116, sl1 (D 0) (.own 2 2)), (117, sl1 (D 1) (.row 6 i)), (118, sl1 (D 2) (.own 34 0)), (119, sl1 (D 3) (.v (.int .u8 b.r))), (120, sl1 (D 4) (iv b.r)), (121, sl1 (D 5) (.own 2 1)), (122, sl1 (D 6) (.row 5 RA.length)), (123, sl1 (D 7) (iv RA.length)), (124, sl1 (D 8) (iv (b.r % RA.length))), (125, sl1 (D 9) (aI [b.r % RA.length])), (126, sl1 (D 10) (iv (kdF b.k))), (127, sl1 (D 11) (.agg [iv 6000, iv 80000, iv 20000])), (128, sl1 (D 12) (.own 34 1)), (129, sl1 (D 13) (.v (.int .u8 b.k))), (130, sl1 (D 14) (iv b.k)), (131, sl1 (D 15) (iv (b.k % 3))), (132, sl1 (D 16) (iv (mxF b.k))), (133, sl1 (D 17) (.own 34 2)), (134, sl1 (D 18) (.v (.int .u8 b.l))), (135, sl1 (D 19) (iv b.l)), (136, sl1 (D 20) (iv (1 + b.l))), (137, sl1 (D 21) (iv (mxF b.k * (1 + b.l)))), (138, sl1 (D 22) (iv (mxF b.k * (1 + b.l) / 256))), (139, sl1 (D 23) (.own 34 3)), (140, sl1 (D 24) (.v (.int .u8 b.c))), (141, sl1 (D 25) (iv b.c)), (142, sl1 (D 26) (iv (1 + b.c))), (143, sl1 (D 27) (.agg (cW (wkF RA.length b)))), (144, sl1 (D 28) (aW [wkF RA.length b])), (145, sl1 (D 29) (.row 6 (i + 1))), (146, sl1 (D 30) (.own 2 2))], fM RA ws i b (D 29) (D 31), 90⟩
theorem nth_mx {k : Int} (h : 0 ≤ k) : nth [iv 6000, iv 80000, iv 20000] ((k % 3).toNat * 1) = iv (mxF k) := by
  have : k % 3 = 0 ∨ k % 3 = 1 ∨ k % 3 = 2 := by omega
  unfold mxF
  rcases this with q | q | q <;> rw [q] <;> rfl
theorem nth_kd {k : Int} (h : 0 ≤ k) : nth [iv 0, iv 2, iv 3] ((k % 3).toNat * 1) = iv (kdF k) := by
  have : k % 3 = 0 ∨ k % 3 = 1 ∨ k % 3 = 2 := by omega
  unfold kdF
  rcases this with q | q | q <;> rw [q] <;> rfl
theorem t46 (fs : List Fx) (RA : List Rd) (ws : List Wrk) (i : Nat) (b : Fx) (hb : OFx b) (hR : 0 < RA.length ∧ RA.length ≤ 12) (hw : ws.length = i) (hi : i < 4) {Q : Ex → S → Prop}
    (hQ : Q .n ⟨[(1, aFx fs), (4, .own 0 0), (5, .own 2 0), (9, iv i)], fM RA ws i b true true, 90⟩) :
    W Tryz.prog 148 Xn4_46 ⟨[(1, aFx fs), (4, .own 0 0), (5, .own 2 0), (9, iv i), (10, .own 34 0), (11, iv (kdF b.k))], [(6, .row i 55 4 dW cW ws), (5, .row RA.length 37 12 dR cR RA), (0, fZ), (2, .cells [iv 5, .row 5 RA.length, .row 6 i]), (34, .cells (cFx b))], 43⟩ Q := by
  obtain ⟨b1, b2, b3, b4⟩ := hb
  have e1 : b.k.tmod 3 = b.k % 3 := Int.tmod_eq_emod_of_nonneg b2.1
  have e2 : b.r.tmod RA.length = b.r % RA.length := Int.tmod_eq_emod_of_nonneg b1.1
  have hm : 0 ≤ b.r % (RA.length : Int) ∧ b.r % (RA.length : Int) < RA.length := ⟨Int.emod_nonneg _ (by omega), Int.emod_lt_of_pos _ (by omega)⟩
  have hx : 0 ≤ mxF b.k ∧ mxF b.k ≤ 80000 := by unfold mxF; split <;> (try split) <;> omega
  have hp : 0 ≤ mxF b.k * (1 + b.l) ∧ mxF b.k * (1 + b.l) ≤ 80000 * 256 := ⟨Int.mul_nonneg hx.1 (by omega), Int.mul_le_mul hx.2 (by omega) (by omega) (by omega)⟩
  have e3 : (mxF b.k * (1 + b.l)).tdiv 256 = mxF b.k * (1 + b.l) / 256 := Int.tdiv_eq_ediv_of_nonneg hp.1
  have em := nth_mx b2.1
  have ew : cW (wkF RA.length b) = [aI [b.r % RA.length], iv (kdF b.k), iv (mxF b.k * (1 + b.l) / 256), iv (1 + b.c)] := rfl
  refine W_regJ (fS fs RA ws i b) ?_ (fun D i' ro m hro hms hD ha hcl => ?_) (fun D hD => ?_)
  · exact le_stk kS46 90 (fun z hz => fM_no RA ws i b false false z hz) (by rfl)
  · have off : ∀ (x y w : Nat), D y = false → [0, 1, 0, 4, 12, 0, 32, 96, 252, 508, 0, 0, 0, 4096, 12288, 28672, 63488, 0, 131072, 393216, 917504, 2095104, 4192256, 0, 8388608, 25165824, 58720256, 134217724, 268435452, 536870911, 1073741823, 2147483647][x]? = some w → tb w y → D x = false := fun x y w hy hw hb => by
      rw [← Bool.not_eq_true]
      intro z
      rw [hcl x w z hw y hb] at hy
      cases hy
    have L : ∀ (x y : Bool) (z : Nat), 90 ≤ z → lm (fM RA ws i b x y) z = none := fun x y z hz => fM_no RA ws i b x y z hz
    rcases i' with _ | _ | _ | _ | _ | _ | _ | _ | _ | _ | _ | _ | _ | _ | _ | _ | _ | _ | _ | _ | _ | _ | _ | _ | _ | _ | _ | _ | _ | _ | _ | _ | i'
    all_goals simp only [List.getElem?_cons_zero, List.getElem?_cons_succ, List.getElem?_nil, Option.some.injEq, reduceCtorEq] at hro hms
    all_goals subst hro
    all_goals subst hms
    all_goals unfold fS
    have h29 := off 29 0 536870911 hD rfl (by unfold tb; decide)
    have h31 := off 31 0 2147483647 hD rfl (by unfold tb; decide)
    simp only [h29, h31]
    rotate_left
    have a0 := ha 0 (by unfold tb; decide)
    have h29 := off 29 1 536870911 hD rfl (by unfold tb; decide)
    have h31 := off 31 1 2147483647 hD rfl (by unfold tb; decide)
    simp only [a0, h29, h31]
    rotate_left
    have h29 := off 29 2 536870911 hD rfl (by unfold tb; decide)
    have h31 := off 31 2 2147483647 hD rfl (by unfold tb; decide)
    simp only [h29, h31]
    rotate_left
    have a2 := ha 2 (by unfold tb; decide)
    have h29 := off 29 3 536870911 hD rfl (by unfold tb; decide)
    have h31 := off 31 3 2147483647 hD rfl (by unfold tb; decide)
    simp only [a2, h29, h31]
    rotate_left
    have a3 := ha 3 (by unfold tb; decide)
    have h29 := off 29 4 536870911 hD rfl (by unfold tb; decide)
    have h31 := off 31 4 2147483647 hD rfl (by unfold tb; decide)
    simp only [a3, h29, h31]
    rotate_left
    have h29 := off 29 5 536870911 hD rfl (by unfold tb; decide)
    have h31 := off 31 5 2147483647 hD rfl (by unfold tb; decide)
    simp only [h29, h31]
    rotate_left
    have a5 := ha 5 (by unfold tb; decide)
    have h29 := off 29 6 536870911 hD rfl (by unfold tb; decide)
    have h31 := off 31 6 2147483647 hD rfl (by unfold tb; decide)
    simp only [a5, h29, h31]
    rotate_left
    have a6 := ha 6 (by unfold tb; decide)
    have h29 := off 29 7 536870911 hD rfl (by unfold tb; decide)
    have h31 := off 31 7 2147483647 hD rfl (by unfold tb; decide)
    simp only [a6, h29, h31]
    rotate_left
    have a4 := ha 4 (by unfold tb; decide)
    have a7 := ha 7 (by unfold tb; decide)
    have h29 := off 29 8 536870911 hD rfl (by unfold tb; decide)
    have h31 := off 31 8 2147483647 hD rfl (by unfold tb; decide)
    simp only [a4, a7, h29, h31]
    rotate_left
    have a8 := ha 8 (by unfold tb; decide)
    have h29 := off 29 9 536870911 hD rfl (by unfold tb; decide)
    have h31 := off 31 9 2147483647 hD rfl (by unfold tb; decide)
    simp only [a8, h29, h31]
    simp (maxSteps := 400000) (disch := omega) only [push_cast, ↓reduceIte, reduceCtorEq, Nat.reduceAdd, Nat.reduceSub, Nat.reduceEqDiff, Nat.reduceLeDiff, Nat.reduceLT, Nat.reduceBEq, Nat.reduceDiv, Nat.reduceMod, Nat.reducePow, Nat.reduceMul, Int.reduceToNat, Int.reduceLT, Int.reduceLE, sl1_t, sl1_f, fW, fC, e1, e2, e3, em, hD]
    refine ⟨rfl, trivial, Int, 0, cI, [b.r % RA.length], rfl, by omega, fun x _ => ⟨rfl, rfl⟩, rfl, ?_⟩
    simp (maxSteps := 400000) (disch := omega) only [push_cast, ↓reduceIte, reduceCtorEq, Nat.reduceAdd, Nat.reduceSub, Nat.reduceEqDiff, Nat.reduceLeDiff, Nat.reduceLT, Nat.reduceBEq, Nat.reduceDiv, Nat.reduceMod, Nat.reducePow, Nat.reduceMul, Int.reduceToNat, Int.reduceLT, Int.reduceLE, sl1_t, sl1_f, fW, fC, e1, e2, e3, em, hD]
    refine le_two (le_frzR 125 [1, 4, 5, 9, 10, 11, 116, 117, 118, 119, 120, 121, 122, 123, 124, 126, 127, 128, 129, 130, 131, 132, 133, 134, 135, 136, 137, 138, 139, 140, 141, 142, 143, 144, 145, 146] [6, 5, 0, 2, 34] 91 90 0 3 1 0 cI [b.r % RA.length] rfl rfl rfl (nOK (by repeat (first | exact rfl | refine okc rfl ?_ | refine okc (oB rfl) ?_)) rfl rfl)) ?_
    first | exact le_stk kS46 90 (L false false) (by rfl) | exact ⟨by decide, le_stk kS46 90 (L false false) (by rfl)⟩ | exact ⟨by omega, le_stk kS46 90 (L false false) (by rfl)⟩
    have h29 := off 29 10 536870911 hD rfl (by unfold tb; decide)
    have h31 := off 31 10 2147483647 hD rfl (by unfold tb; decide)
    simp only [h29, h31]
    rotate_left
    have h29 := off 29 11 536870911 hD rfl (by unfold tb; decide)
    have h31 := off 31 11 2147483647 hD rfl (by unfold tb; decide)
    simp only [h29, h31]
    rotate_left
    have h29 := off 29 12 536870911 hD rfl (by unfold tb; decide)
    have h31 := off 31 12 2147483647 hD rfl (by unfold tb; decide)
    simp only [h29, h31]
    rotate_left
    have a12 := ha 12 (by unfold tb; decide)
    have h29 := off 29 13 536870911 hD rfl (by unfold tb; decide)
    have h31 := off 31 13 2147483647 hD rfl (by unfold tb; decide)
    simp only [a12, h29, h31]
    rotate_left
    have a13 := ha 13 (by unfold tb; decide)
    have h29 := off 29 14 536870911 hD rfl (by unfold tb; decide)
    have h31 := off 31 14 2147483647 hD rfl (by unfold tb; decide)
    simp only [a13, h29, h31]
    rotate_left
    have a14 := ha 14 (by unfold tb; decide)
    have h29 := off 29 15 536870911 hD rfl (by unfold tb; decide)
    have h31 := off 31 15 2147483647 hD rfl (by unfold tb; decide)
    simp only [a14, h29, h31]
    rotate_left
    have a11 := ha 11 (by unfold tb; decide)
    have a15 := ha 15 (by unfold tb; decide)
    have h29 := off 29 16 536870911 hD rfl (by unfold tb; decide)
    have h31 := off 31 16 2147483647 hD rfl (by unfold tb; decide)
    simp only [a11, a15, h29, h31]
    rotate_left
    have h29 := off 29 17 536870911 hD rfl (by unfold tb; decide)
    have h31 := off 31 17 2147483647 hD rfl (by unfold tb; decide)
    simp only [h29, h31]
    rotate_left
    have a17 := ha 17 (by unfold tb; decide)
    have h29 := off 29 18 536870911 hD rfl (by unfold tb; decide)
    have h31 := off 31 18 2147483647 hD rfl (by unfold tb; decide)
    simp only [a17, h29, h31]
    rotate_left
    have a18 := ha 18 (by unfold tb; decide)
    have h29 := off 29 19 536870911 hD rfl (by unfold tb; decide)
    have h31 := off 31 19 2147483647 hD rfl (by unfold tb; decide)
    simp only [a18, h29, h31]
    rotate_left
    have a19 := ha 19 (by unfold tb; decide)
    have h29 := off 29 20 536870911 hD rfl (by unfold tb; decide)
    have h31 := off 31 20 2147483647 hD rfl (by unfold tb; decide)
    simp only [a19, h29, h31]
    rotate_left
    have a16 := ha 16 (by unfold tb; decide)
    have a20 := ha 20 (by unfold tb; decide)
    have h29 := off 29 21 536870911 hD rfl (by unfold tb; decide)
    have h31 := off 31 21 2147483647 hD rfl (by unfold tb; decide)
    simp only [a16, a20, h29, h31]
    rotate_left
    have a21 := ha 21 (by unfold tb; decide)
    have h29 := off 29 22 536870911 hD rfl (by unfold tb; decide)
    have h31 := off 31 22 2147483647 hD rfl (by unfold tb; decide)
    simp only [a21, h29, h31]
    rotate_left
    have h29 := off 29 23 536870911 hD rfl (by unfold tb; decide)
    have h31 := off 31 23 2147483647 hD rfl (by unfold tb; decide)
    simp only [h29, h31]
    rotate_left
    have a23 := ha 23 (by unfold tb; decide)
    have h29 := off 29 24 536870911 hD rfl (by unfold tb; decide)
    have h31 := off 31 24 2147483647 hD rfl (by unfold tb; decide)
    simp only [a23, h29, h31]
    rotate_left
    have a24 := ha 24 (by unfold tb; decide)
    have h29 := off 29 25 536870911 hD rfl (by unfold tb; decide)
    have h31 := off 31 25 2147483647 hD rfl (by unfold tb; decide)
    simp only [a24, h29, h31]
    rotate_left
    have a25 := ha 25 (by unfold tb; decide)
    have h29 := off 29 26 536870911 hD rfl (by unfold tb; decide)
    have h31 := off 31 26 2147483647 hD rfl (by unfold tb; decide)
    simp only [a25, h29, h31]
    rotate_left
    have a9 := ha 9 (by unfold tb; decide)
    have a10 := ha 10 (by unfold tb; decide)
    have a22 := ha 22 (by unfold tb; decide)
    have a26 := ha 26 (by unfold tb; decide)
    have h29 := off 29 27 536870911 hD rfl (by unfold tb; decide)
    have h31 := off 31 27 2147483647 hD rfl (by unfold tb; decide)
    simp only [a9, a10, a22, a26, h29, h31]
    rotate_left
    have a27 := ha 27 (by unfold tb; decide)
    have h29 := off 29 28 536870911 hD rfl (by unfold tb; decide)
    have h31 := off 31 28 2147483647 hD rfl (by unfold tb; decide)
    simp only [a27, h29, h31]
    simp (maxSteps := 400000) (disch := omega) only [push_cast, ↓reduceIte, reduceCtorEq, Nat.reduceAdd, Nat.reduceSub, Nat.reduceEqDiff, Nat.reduceLeDiff, Nat.reduceLT, Nat.reduceBEq, Nat.reduceDiv, Nat.reduceMod, Nat.reducePow, Nat.reduceMul, Int.reduceToNat, Int.reduceLT, Int.reduceLE, sl1_t, sl1_f, fW, fC, e1, e2, e3, em, hD]
    refine ⟨rfl, trivial, Wrk, dW, cW, [wkF RA.length b], rfl, by omega, fun x _ => ⟨rfl, rfl⟩, rfl, ?_⟩
    simp (maxSteps := 400000) (disch := omega) only [push_cast, ↓reduceIte, reduceCtorEq, Nat.reduceAdd, Nat.reduceSub, Nat.reduceEqDiff, Nat.reduceLeDiff, Nat.reduceLT, Nat.reduceBEq, Nat.reduceDiv, Nat.reduceMod, Nat.reducePow, Nat.reduceMul, Int.reduceToNat, Int.reduceLT, Int.reduceLE, sl1_t, sl1_f, fW, fC, e1, e2, e3, em, hD]
    refine le_two (le_frzR 144 [1, 4, 5, 9, 10, 11, 116, 117, 118, 119, 120, 121, 122, 123, 124, 125, 126, 127, 128, 129, 130, 131, 132, 133, 134, 135, 136, 137, 138, 139, 140, 141, 142, 143, 145, 146] [6, 5, 0, 2, 34] 91 90 0 55 4 dW cW [wkF RA.length b] rfl rfl rfl (nOK (by repeat (first | exact rfl | refine okc rfl ?_ | refine okc (oB rfl) ?_)) rfl rfl)) ?_
    first | exact le_stk kS46 90 (L false false) (by rfl) | exact ⟨by decide, le_stk kS46 90 (L false false) (by rfl)⟩ | exact ⟨by omega, le_stk kS46 90 (L false false) (by rfl)⟩
    have a1 := ha 1 (by unfold tb; decide)
    have a28 := ha 28 (by unfold tb; decide)
    have h31 := off 31 29 2147483647 hD rfl (by unfold tb; decide)
    simp only [a1, a28, h31]
    simp (maxSteps := 400000) (disch := omega) only [push_cast, ↓reduceIte, reduceCtorEq, Nat.reduceAdd, Nat.reduceSub, Nat.reduceEqDiff, Nat.reduceLeDiff, Nat.reduceLT, Nat.reduceBEq, Nat.reduceDiv, Nat.reduceMod, Nat.reducePow, Nat.reduceMul, Int.reduceToNat, Int.reduceLT, Int.reduceLE, sl1_t, sl1_f, fW, fC, e1, e2, e3, em, hD]
    refine ⟨rfl, ⟨Nat.le_of_ble_eq_true rfl, rfl⟩, trivial, [wkF RA.length b], rfl, by first | omega | (simp; omega), by first | omega | (simp; omega), ?_⟩
    (refine sy1 ?_; try exact True.intro)
    exact le_stk kS46 90 (L true false) (by rfl)
    have a29 := ha 29 (by unfold tb; decide)
    have h31 := off 31 30 2147483647 hD rfl (by unfold tb; decide)
    simp only [a29, h31]
    rotate_left
    have a29 := ha 29 (by unfold tb; decide)
    have a30 := ha 30 (by unfold tb; decide)
    simp only [a29, a30]
    rotate_left
    all_goals simp (maxSteps := 400000) (disch := omega) only [push_cast, ↓reduceIte, reduceCtorEq, Nat.reduceAdd, Nat.reduceSub, Nat.reduceEqDiff, Nat.reduceLeDiff, Nat.reduceLT, Nat.reduceBEq, Nat.reduceDiv, Nat.reduceMod, Nat.reducePow, Nat.reduceMul, Int.reduceToNat, Int.reduceLT, Int.reduceLE, sl1_t, sl1_f, fW, fC, e1, e2, e3, em, hD]
    iterate 29 first | exact le_stk kS46 90 (L false false) (by rfl) | exact ⟨by decide, le_stk kS46 90 (L false false) (by rfl)⟩ | exact ⟨by omega, le_stk kS46 90 (L false false) (by rfl)⟩ | exact le_stk kS46 90 (L true false) (by rfl) | exact ⟨by decide, le_stk kS46 90 (L true false) (by rfl)⟩ | exact le_stk kS46 90 (L true true) (by rfl) | exact ⟨by decide, le_stk kS46 90 (L true true) (by rfl)⟩
  · have d29 := hD 29 (by decide)
    have d31 := hD 31 (by decide)
    refine ⟨_, le.refl _, ?_⟩
    unfold fS
    rw [d29, d31]
    exact hQ
theorem fn4 (l : List Tr) (fs : List Fx) (hl : l.length ≤ 140737488355328) (hf : fs.length ≤ 140737488355328) (h1 : ∀ t ∈ l, OTr t) (h2 : ∀ x ∈ fs, OFx x) : Sy.Fn Tryz.prog 4 [aTr l, aFx fs] (aM (atl l fs)) := by
  refine Fn_of_W mixed Xt4 rfl ?_
  (refine go0 ?_; try exact True.intro)
  refine W_le (le_adoptC 2 1 37 12 dR cR (by omega) _ rfl rfl (by simp)) ?_
  (refine sy1 ?_; try exact True.intro)
  refine W_le (le_adoptC 2 2 55 4 dW cW (by omega) _ rfl rfl (by simp)) ?_
  (refine sy1 ?_; try exact True.intro)
  refine W_loopU (fun i : Nat => [(6, iv i)]) (fun i => [(2, .cells [iv 5, .row 5 i, .row 6 0]), (5, .row i 37 12 dR cR ((l.take i).map rdT))]) (fun i => i ≤ 12 ∧ i ≤ l.length) (fun i => 12 - i) 0 ⟨by omega, by omega⟩ (by rfl) (by rfl) (fun i hi => ?_)
  obtain ⟨h12, hi⟩ := hi
  (refine sy1 ?_; try exact True.intro)
  (refine go0 ?_; try exact True.intro)
  refine W_cond (by rfl) (fun h5 => ?_) (fun h5 => ?_)
  · rw [Bool.and_eq_true, decide_eq_true_eq, decide_eq_true_eq] at h5
    have hlt : i < l.length := by omega
    have hb := h1 _ (getD_mem' dTr l i hlt)
    have ht : l.take (i + 1) = l.take i ++ [l.getD i dTr] := by
      rw [List.take_succ_eq_append_getElem hlt]
      simp [List.getD, hlt]
    generalize hq : l.getD i dTr = b at *
    obtain ⟨b1, b2, b3, b4, b5, b6, b7, b8⟩ := hb
    have e1 : b.f.tmod 5 = b.f % 5 := Int.tmod_eq_emod_of_nonneg b1.1
    have e2 : b.t.tmod 4 = b.t % 4 := Int.tmod_eq_emod_of_nonneg b2.1
    have e3 : b.c.tmod 50 = b.c % 50 := Int.tmod_eq_emod_of_nonneg b3.1
    have e4 : (b.f % 5 + 1 + b.t % 4).tmod 5 = (b.f % 5 + 1 + b.t % 4) % 5 := Int.tmod_eq_emod_of_nonneg (by omega)
    (refine gof (ad5 hq e1 e2 e3 e4) ?_; try exact True.intro)
    refine ⟨rfl, trivial, Rd, dR, cR, [rdT b], rfl, by omega, fun x _ => ⟨rfl, rfl⟩, rfl, ?_⟩
    (refine sy1 ?_; try exact True.intro)
    refine ⟨rfl, ⟨Nat.le_of_ble_eq_true rfl, rfl⟩, trivial, [rdT b], rfl, by first | omega | (simp; omega), by first | omega | (simp; omega), ?_⟩
    (refine sy1 ?_; try exact True.intro)
    (refine go0 ?_; try exact True.intro)
    refine ⟨i + 1, ⟨by omega, by omega⟩, by omega, by rfl, ?_⟩
    rw [ht, List.map_append]
    (refine syE ?_; try exact True.intro)
  · rw [Bool.and_eq_false_iff, decide_eq_false_iff_not, decide_eq_false_iff_not] at h5
    have e : (l.take i).map rdT = rdA l := by
      unfold rdA
      rcases (show i = 12 ∨ i = l.length by omega) with rfl | rfl
      · rfl
      · rw [List.take_length, List.take_of_length_le (by omega)]
    have en : (rdA l).length = i := by rw [← e]; simp; omega
    rw [e, ← en]
    have hR : (rdA l).length ≤ 12 := by omega
    have eA : aM (atl l fs) = .agg [iv 5, aR (rdA l), aW (wkA (rdA l).length fs)] := rfl
    rw [eA]
    clear eA
    generalize rdA l = RA at *
    (refine go0 ?_; try exact True.intro)
    refine W_loopU (fun i : Nat => [(9, iv i)]) (fun i => [(2, .cells [iv 5, .row 5 RA.length, .row 6 i]), (6, .row i 55 4 dW cW ((fs.take i).map (wkF RA.length)))]) (fun i => i ≤ 4 ∧ i ≤ fs.length ∧ (RA.length = 0 → i = 0)) (fun i => 4 - i) 0 ⟨by omega, by omega, fun _ => rfl⟩ (by rfl) (by rfl) (fun i hi => ?_)
    obtain ⟨h4, hi, hn0⟩ := hi
    (refine sy1 ?_; try exact True.intro)
    (refine go0 ?_; try exact True.intro)
    refine W_cond (by rfl) (fun h5 => ?_) (fun h5 => ?_)
    · rw [Bool.and_eq_true, Bool.and_eq_true, decide_eq_true_eq, decide_eq_true_eq, decide_eq_true_eq] at h5
      have hlt : i < fs.length := by omega
      have hb := h2 _ (getD_mem' dFx fs i hlt)
      have ht : fs.take (i + 1) = fs.take i ++ [fs.getD i dFx] := by
        rw [List.take_succ_eq_append_getElem hlt]
        simp [List.getD, hlt]
      generalize hq : fs.getD i dFx = b at *
      obtain ⟨b1, b2, b3, b4⟩ := hb
      have e1 : b.k.tmod 3 = b.k % 3 := Int.tmod_eq_emod_of_nonneg b2.1
      (refine gof (ad2 hq e1) ?_; try exact True.intro)
      have ek := nth_kd b2.1
      simp only [ek]
      refine ⟨trivial, ?_⟩
      have hwl : ((fs.take i).map (wkF RA.length)).length = i := by simp; omega
      refine t46 fs RA _ i b ⟨b1, b2, b3, b4⟩ ⟨by omega, hR⟩ hwl (by omega) ?_
      unfold fM fW fC
      (refine sy1 ?_; try exact True.intro)
      (refine go0 ?_; try exact True.intro)
      refine ⟨i + 1, ⟨by omega, by omega, fun z => by omega⟩, by omega, by rfl, ?_⟩
      rw [ht, List.map_append]
      (refine syE ?_; try exact True.intro)
    · rw [Bool.and_eq_false_iff, Bool.and_eq_false_iff, decide_eq_false_iff_not, decide_eq_false_iff_not, decide_eq_false_iff_not] at h5
      have e2 : (fs.take i).map (wkF RA.length) = wkA RA.length fs := by
        unfold wkA
        by_cases q : RA.length = 0
        · rw [if_pos q, hn0 q]; rfl
        · rw [if_neg q]
          rcases (show i = 4 ∨ i = fs.length by omega) with rfl | rfl
          · rfl
          · rw [List.take_length, List.take_of_length_le (by omega)]
      rw [e2]
      (refine go0 ?_; try exact True.intro)
      refine W_ret ⟨[_], ⟨⟨by simp, rfl⟩, rfl⟩, ?_⟩
      (refine syP ?_; try exact True.intro)
end Go.Proofs.YtlahcoaofbpinaaGreat.R
