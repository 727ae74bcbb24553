/- ScheduleOrders: for every input the law returns true -/
import Derived.Test.YtoiohkjomcbadaaP5
import Derived.Test.YtoiohkjomcbadaaChecked
import Derived.WalkKit
import Derived.Deep.RegionLaw
import Derived.Lib.Walk
import Derived.Lib.SliceRun
import Derived.OwnWalk
import Derived.Test.YtoiohkjomcbadaaRows
import Derived.ShutString
namespace Go.Proofs.Ytoiohkjomcbadaa
set_option linter.unusedVariables false
section
variable {α : Type}
theorem at_cons {A B : List α} {x d : α} {i : Nat} (h : A.length = i) : (A ++ x :: B).getD i d = x := by
  simp only [List.getD_eq_getElem?_getD]
  rw [List.getElem?_append_right (by omega), h, Nat.sub_self]; rfl
theorem set_cons {A B : List α} {x y : α} {i : Nat} (h : A.length = i) : (A ++ x :: B).set i y = A ++ y :: B := by
  rw [List.set_append_right _ _ (by omega), h, Nat.sub_self]; rfl
def swL (P X M Z Q : List α) (c : Nat) : List α := (P ++ Z.take c) ++ (X.drop c ++ (M ++ (X.take c ++ (Z.drop c ++ Q))))
theorem swL_zero (P X M Z Q : List α) : swL P X M Z Q 0 = P ++ (X ++ (M ++ (Z ++ Q))) := by simp [swL]
theorem swL_all {P X M Z Q : List α} (h : Z.length = X.length) : swL P X M Z Q X.length = P ++ (Z ++ (M ++ (X ++ Q))) := by
  unfold swL
  rw [List.take_length, List.drop_length, ← h, List.take_length, List.drop_length]; simp
theorem swL_len {P X M Z Q : List α} {c : Nat} (h : Z.length = X.length) (hc : c ≤ X.length) : (swL P X M Z Q c).length = P.length + X.length + M.length + X.length + Q.length := by
  unfold swL
  simp only [List.length_append, List.length_take, List.length_drop]; omega
theorem swL_step {P X M Z Q : List α} {c : Nat} (d : α) (h : Z.length = X.length) (hc : c < X.length) :
    (swL P X M Z Q c).getD (P.length + c) d = X.getD c d ∧ (swL P X M Z Q c).getD (P.length + X.length + M.length + c) d = Z.getD c d ∧
    ((swL P X M Z Q c).set (P.length + c) (Z.getD c d)).set (P.length + X.length + M.length + c) (X.getD c d) = swL P X M Z Q (c + 1) := by
  have hz : c < Z.length := by omega
  have e1 : X.drop c = X.getD c d :: X.drop (c + 1) := by rw [List.drop_eq_getElem_cons hc]; simp [List.getD, hc]
  have e2 : Z.drop c = Z.getD c d :: Z.drop (c + 1) := by rw [List.drop_eq_getElem_cons hz]; simp [List.getD, hz]
  have e3 : X.take (c + 1) = X.take c ++ [X.getD c d] := by rw [List.take_succ_eq_append_getElem hc]; simp [List.getD, hc]
  have e4 : Z.take (c + 1) = Z.take c ++ [Z.getD c d] := by rw [List.take_succ_eq_append_getElem hz]; simp [List.getD, hz]
  unfold swL
  rw [e3, e4, e1, e2]
  generalize X.getD c d = x
  generalize Z.getD c d = z
  have l1 : (P ++ Z.take c).length = P.length + c := by rw [List.length_append, List.length_take]; omega
  have r1 : (P ++ Z.take c) ++ ((x :: X.drop (c + 1)) ++ (M ++ (X.take c ++ ((z :: Z.drop (c + 1)) ++ Q)))) = ((P ++ Z.take c) ++ ((x :: X.drop (c + 1)) ++ (M ++ X.take c))) ++ z :: (Z.drop (c + 1) ++ Q) := by simp
  have l2 : ((P ++ Z.take c) ++ ((x :: X.drop (c + 1)) ++ (M ++ X.take c))).length = P.length + X.length + M.length + c := by
    simp only [List.length_append, List.length_take, List.length_cons, List.length_drop]; omega
  refine ⟨?_, ?_, ?_⟩
  · rw [List.cons_append]; exact at_cons l1
  · rw [r1]; exact at_cons l2
  · rw [List.cons_append, set_cons l1]
    have r2 : (P ++ Z.take c) ++ z :: (X.drop (c + 1) ++ (M ++ (X.take c ++ ((z :: Z.drop (c + 1)) ++ Q)))) = ((P ++ Z.take c) ++ ((z :: X.drop (c + 1)) ++ (M ++ X.take c))) ++ z :: (Z.drop (c + 1) ++ Q) := by simp
    have l3 : ((P ++ Z.take c) ++ ((z :: X.drop (c + 1)) ++ (M ++ X.take c))).length = P.length + X.length + M.length + c := by
      simp only [List.length_append, List.length_take, List.length_cons, List.length_drop]; omega
    rw [r2, set_cons l3]
    simp
end
end Go.Proofs.Ytoiohkjomcbadaa

namespace Go.Proofs.Ytoiohkjomcbadaa
open Go Sy
set_option maxRecDepth 100000
set_option maxHeartbeats 4000000
set_option linter.unusedVariables false
set_option linter.unusedSimpArgs false
theorem wrapU {x : Int} (h : 0 ≤ x ∧ x < 18446744073709551616) : IntKind.u64.wrap x = x := by rw [IntKind.wrap_u64]; omega
theorem shrC (a : Int) (s : Nat) (b : Int) (h : (2 : Int) ^ min s IntKind.u64.bits = b) (hb : 0 ≤ b) : a.fdiv (2 ^ min s IntKind.u64.bits) = a / b := by
  rw [h, Int.fdiv_eq_ediv_of_nonneg _ hb]
theorem shr1 (a : Int) : a.fdiv (2 ^ min 1 IntKind.u64.bits) = a / 2 := shrC a 1 _ (by decide) (by decide)
abbrev rI (st : Nat) (l : List Int) : Blk := .row st 3 1 (0 : Int) cI l
theorem w127 {M : List (Nat × Blk)} {k st nx : Nat} {gc : Nat} {ca : List AV} (P X Md Z Q : List Int) (hz : Z.length = X.length) (hlen : P.length + X.length + Md.length + X.length + Q.length ≤ 1000000) (hk : k < nx) (hfr : ∀ j, nx ≤ j → lm M j = none) :
    W Try.prog 38 Xn157_0 ⟨initT 0 [.row k st, iv P.length, iv (P.length + X.length + Md.length), iv X.length, .clo gc [] ca], setm M k (rI st (P ++ (X ++ (Md ++ (Z ++ Q))))), nx⟩
      (fun e s' => (e = .n ∨ e = .r) ∧ s'.mem = setm M k (rI st (P ++ (Z ++ (Md ++ (X ++ Q)))))) := by
  have hfr' : ∀ b : Blk, ∀ j, nx ≤ j → lm (setm M k b) j = none := fun b j hj => by rw [lm_set_other _ _ (by omega)]; exact hfr j hj
  simp (maxSteps := 400000) (disch := omega) only [push_cast, ↓reduceIte, reduceCtorEq, Nat.reduceAdd, Nat.reduceSub, Nat.reduceEqDiff, Nat.reduceLeDiff, Nat.reduceLT, Nat.reduceBEq, Nat.reduceDiv, Nat.reduceMod, Nat.reducePow, Nat.reduceMul, Int.reduceToNat, Int.reduceLT, Int.reduceLE, initT]
  repeat' (first | refine w1g ?_ | refine w1l ?_ | refine w1q ?_ | refine w1b ?_ | refine w1p ?_ | ((first | refine w1r ?_ | refine w1k ?_ | refine w1e ?_); (refine sy1 ?_; try exact True.intro)) | refine an2 ?_ | fail)
  refine W_loopM (fun c : Nat => [(10, iv c)]) (fun c => setm M k (rI st (swL P X Md Z Q c))) (fun c => c ≤ X.length) (fun c => X.length - c) nx (fun c _ => hfr' _) 0 (by omega) (by rfl) (by rw [swL_zero]) (fun c hc => ?_)
  have hll := swL_len (P := P) (M := Md) (Q := Q) hz hc
  simp (maxSteps := 400000) (disch := omega) only [push_cast, ↓reduceIte, reduceCtorEq, Nat.reduceAdd, Nat.reduceSub, Nat.reduceEqDiff, Nat.reduceLeDiff, Nat.reduceLT, Nat.reduceBEq, Nat.reduceDiv, Nat.reduceMod, Nat.reducePow, Nat.reduceMul, Int.reduceToNat, Int.reduceLT, Int.reduceLE, keepL]
  repeat' (first | refine w1g ?_ | refine w1l ?_ | refine w1q ?_ | refine w1b ?_ | refine w1p ?_ | ((first | refine w1r ?_ | refine w1k ?_ | refine w1e ?_); simp (maxSteps := 400000) (disch := omega) only [push_cast, ↓reduceIte, reduceCtorEq, Nat.reduceAdd, Nat.reduceSub, Nat.reduceEqDiff, Nat.reduceLeDiff, Nat.reduceLT, Nat.reduceBEq, Nat.reduceDiv, Nat.reduceMod, Nat.reducePow, Nat.reduceMul, Int.reduceToNat, Int.reduceLT, Int.reduceLE, keepL]) | refine an2 ?_ | fail)
  refine W_condD (by rfl) (fun h5 => ?_) (fun h5 => ?_)
  · have hlt : c < X.length := by omega
    obtain ⟨q1, q2, q3⟩ := swL_step (P := P) (M := Md) (Q := Q) (0 : Int) hz hlt
    have ea : ((P.length : Int) + c).toNat = P.length + c := by omega
    have eb : ((P.length : Int) + X.length + Md.length + c).toNat = P.length + X.length + Md.length + c := by omega
    repeat' (first | refine w1g ?_ | refine w1l ?_ | refine w1q ?_ | refine w1b ?_ | refine w1p ?_ | ((first | refine w1r ?_ | refine w1k ?_ | refine w1e ?_); simp (maxSteps := 400000) (disch := omega) only [push_cast, ↓reduceIte, reduceCtorEq, Nat.reduceAdd, Nat.reduceSub, Nat.reduceEqDiff, Nat.reduceLeDiff, Nat.reduceLT, Nat.reduceBEq, Nat.reduceDiv, Nat.reduceMod, Nat.reducePow, Nat.reduceMul, Int.reduceToNat, Int.reduceLT, Int.reduceLE, keepL, hll, ea, eb, q1, q2, beq_self_eq_true]) | refine an2 ?_ | fail)
    refine ⟨rfl, ⟨by dsimp only; omega, hasM_set _ _ _⟩, by omega, Z.getD c (0 : Int), rfl, rfl, ?_⟩
    simp (maxSteps := 400000) (disch := omega) only [push_cast, ↓reduceIte, reduceCtorEq, Nat.reduceAdd, Nat.reduceSub, Nat.reduceEqDiff, Nat.reduceLeDiff, Nat.reduceLT, Nat.reduceBEq, Nat.reduceDiv, Nat.reduceMod, Nat.reducePow, Nat.reduceMul, Int.reduceToNat, Int.reduceLT, Int.reduceLE, hll, ea, eb, List.length_set]
    repeat' (first | refine w1g ?_ | refine w1l ?_ | refine w1q ?_ | refine w1b ?_ | refine w1p ?_ | ((first | refine w1r ?_ | refine w1k ?_ | refine w1e ?_); simp (maxSteps := 400000) (disch := omega) only [push_cast, ↓reduceIte, reduceCtorEq, Nat.reduceAdd, Nat.reduceSub, Nat.reduceEqDiff, Nat.reduceLeDiff, Nat.reduceLT, Nat.reduceBEq, Nat.reduceDiv, Nat.reduceMod, Nat.reducePow, Nat.reduceMul, Int.reduceToNat, Int.reduceLT, Int.reduceLE, keepL, hll, ea, eb, List.length_set, beq_self_eq_true]) | refine an2 ?_ | fail)
    refine ⟨rfl, ⟨by dsimp only; omega, hasM_set _ _ _⟩, by omega, X.getD c (0 : Int), rfl, rfl, ?_⟩
    rw [q3]
    (refine sy1 ?_; try exact True.intro)
    repeat' (first | refine w1g ?_ | refine w1l ?_ | refine w1q ?_ | refine w1b ?_ | refine w1p ?_ | ((first | refine w1r ?_ | refine w1k ?_ | refine w1e ?_); simp (maxSteps := 400000) (disch := omega) only [push_cast, ↓reduceIte, reduceCtorEq, Nat.reduceAdd, Nat.reduceSub, Nat.reduceEqDiff, Nat.reduceLeDiff, Nat.reduceLT, Nat.reduceBEq, Nat.reduceDiv, Nat.reduceMod, Nat.reducePow, Nat.reduceMul, Int.reduceToNat, Int.reduceLT, Int.reduceLE, keepL]) | refine an2 ?_ | fail)
    exact ⟨c + 1, by omega, by omega, rfl, rfl⟩
  · obtain rfl : c = X.length := by omega
    rw [swL_all hz]
    repeat' (first | refine w1g ?_ | refine w1l ?_ | refine w1q ?_ | refine w1b ?_ | refine w1p ?_ | ((first | refine w1r ?_ | refine w1k ?_ | refine w1e ?_); simp (maxSteps := 400000) (disch := omega) only [push_cast, ↓reduceIte, reduceCtorEq, Nat.reduceAdd, Nat.reduceSub, Nat.reduceEqDiff, Nat.reduceLeDiff, Nat.reduceLT, Nat.reduceBEq, Nat.reduceDiv, Nat.reduceMod, Nat.reducePow, Nat.reduceMul, Int.reduceToNat, Int.reduceLT, Int.reduceLE, keepL]) | refine an2 ?_ | fail)
theorem i127 {s : S} {k st : Nat} {gc : Nat} {ca : List AV} {L L' : List Int} (P X Md Z Q : List Int) {a b n : Int} {K : AV → S → Prop} (hk : lm s.mem k = some (rI st L)) (hfr : ∀ j, s.nx ≤ j → lm s.mem j = none) (hlen : L.length ≤ 1000000)
    (hL : L = P ++ (X ++ (Md ++ (Z ++ Q)))) (hL' : P ++ (Z ++ (Md ++ (X ++ Q))) = L') (hz : Z.length = X.length) (ha : a = P.length) (hb : b = P.length + X.length + Md.length) (hn : n = X.length) (hK : K (.tup []) ⟨s.tm, setm s.mem k (rI st L'), s.nx⟩) :
    Inl Try.prog 157 [.row k st, iv a, iv b, iv n, .clo gc [] ca] s K := by
  subst ha hb hn hL'
  subst hL
  simp only [List.length_append] at hlen
  exact Inl_row mixed Xt157 rfl hk hfr (fun M nx h1 h2 => w127 P X Md Z Q hz (by omega) h1 h2) hK
theorem w125 {M : List (Nat × Blk)} {k st nx : Nat} {gc : Nat} {ca : List AV} (P X Y Q : List Int) (hX : 0 < X.length) (hY : 0 < Y.length) (hlen : (P ++ (Y ++ (X ++ Q))).length ≤ 1000000) (hk : k < nx) (hfr : ∀ j, nx ≤ j → lm M j = none) :
    W Try.prog 58 Xn150_0 ⟨initT 0 [.row k st, iv P.length, iv (P.length + X.length), iv (P.length + X.length + Y.length), .clo gc [] ca], setm M k (rI st (P ++ (X ++ (Y ++ Q)))), nx⟩
      (fun e s' => (e = .n ∨ e = .r) ∧ s'.mem = setm M k (rI st (P ++ (Y ++ (X ++ Q))))) := by
  have hfr' : ∀ b : Blk, ∀ j, nx ≤ j → lm (setm M k b) j = none := fun b j hj => by rw [lm_set_other _ _ (by omega)]; exact hfr j hj
  obtain ⟨T, hT⟩ : ∃ T, T = P ++ (Y ++ (X ++ Q)) := ⟨_, rfl⟩
  obtain ⟨m, hm⟩ : ∃ m : Int, m = P.length + X.length := ⟨_, rfl⟩
  have hlenT : T.length ≤ 1000000 := by rw [hT]; exact hlen
  simp only [List.length_append] at hlen
  have e1 : m - P.length = X.length := by omega
  have e2 : m + Y.length - m = Y.length := by omega
  rw [← hT, ← hm]
  simp (maxSteps := 400000) (disch := omega) only [push_cast, ↓reduceIte, reduceCtorEq, Nat.reduceAdd, Nat.reduceSub, Nat.reduceEqDiff, Nat.reduceLeDiff, Nat.reduceLT, Nat.reduceBEq, Nat.reduceDiv, Nat.reduceMod, Nat.reducePow, Nat.reduceMul, Int.reduceToNat, Int.reduceLT, Int.reduceLE, initT]
  repeat' (first | refine w1g ?_ | refine w1l ?_ | refine w1q ?_ | refine w1b ?_ | refine w1p ?_ | ((first | refine w1r ?_ | refine w1k ?_ | refine w1e ?_); simp (maxSteps := 400000) (disch := omega) only [push_cast, ↓reduceIte, reduceCtorEq, Nat.reduceAdd, Nat.reduceSub, Nat.reduceEqDiff, Nat.reduceLeDiff, Nat.reduceLT, Nat.reduceBEq, Nat.reduceDiv, Nat.reduceMod, Nat.reducePow, Nat.reduceMul, Int.reduceToNat, Int.reduceLT, Int.reduceLE, e1, e2]) | refine an2 ?_ | fail)
  refine W_loopM (fun q : (List Int × List Int) × (List Int × List Int) => [(10, iv q.1.2.length), (11, iv q.2.1.length)]) (fun q => setm M k (rI st (q.1.1 ++ (q.1.2 ++ (q.2.1 ++ q.2.2))))) (fun q => (0 < q.1.2.length ∧ 0 < q.2.1.length) ∧ m = q.1.1.length + q.1.2.length ∧ q.1.1 ++ (q.2.1 ++ (q.1.2 ++ q.2.2)) = T) (fun q => q.1.2.length + q.2.1.length) nx (fun c _ => hfr' _) ((P, X), (Y, Q)) ⟨⟨hX, hY⟩, hm, hT.symm⟩ (by rfl) (by rfl) (fun q hq => ?_)
  clear e1 e2 hm hT hlen hX hY
  obtain ⟨⟨P, X⟩, ⟨Y, Q⟩⟩ := q
  obtain ⟨⟨hX, hY⟩, hm, hT⟩ := hq
  simp only at hX hY hm hT
  have hlT : P.length + X.length + Y.length + Q.length ≤ 1000000 := by
    have := congrArg List.length hT
    simp only [List.length_append] at this
    omega
  simp (maxSteps := 400000) (disch := omega) only [push_cast, ↓reduceIte, reduceCtorEq, Nat.reduceAdd, Nat.reduceSub, Nat.reduceEqDiff, Nat.reduceLeDiff, Nat.reduceLT, Nat.reduceBEq, Nat.reduceDiv, Nat.reduceMod, Nat.reducePow, Nat.reduceMul, Int.reduceToNat, Int.reduceLT, Int.reduceLE, keepL]
  repeat' (first | refine w1g ?_ | refine w1l ?_ | refine w1q ?_ | refine w1b ?_ | refine w1p ?_ | ((first | refine w1r ?_ | refine w1k ?_ | refine w1e ?_); simp (maxSteps := 400000) (disch := omega) only [push_cast, ↓reduceIte, reduceCtorEq, Nat.reduceAdd, Nat.reduceSub, Nat.reduceEqDiff, Nat.reduceLeDiff, Nat.reduceLT, Nat.reduceBEq, Nat.reduceDiv, Nat.reduceMod, Nat.reducePow, Nat.reduceMul, Int.reduceToNat, Int.reduceLT, Int.reduceLE, keepL]) | refine an2 ?_ | fail)
  refine W_cond (by rfl) (fun h5 => ?_) (fun h5 => ?_)
  · have hne : X.length ≠ Y.length := by
      simp only [bne_iff_ne, ne_eq] at h5; omega
    repeat' (first | refine w1g ?_ | refine w1l ?_ | refine w1q ?_ | refine w1b ?_ | refine w1p ?_ | ((first | refine w1r ?_ | refine w1k ?_ | refine w1e ?_); simp (maxSteps := 400000) (disch := omega) only [push_cast, ↓reduceIte, reduceCtorEq, Nat.reduceAdd, Nat.reduceSub, Nat.reduceEqDiff, Nat.reduceLeDiff, Nat.reduceLT, Nat.reduceBEq, Nat.reduceDiv, Nat.reduceMod, Nat.reducePow, Nat.reduceMul, Int.reduceToNat, Int.reduceLT, Int.reduceLE, keepL]) | refine an2 ?_ | fail)
    refine W_condD (by rfl) (fun h6 => ?_) (fun h6 => ?_)
    · obtain ⟨X1, X2, rfl, hl⟩ : ∃ X1 X2, X = X1 ++ X2 ∧ X1.length = Y.length := ⟨X.take Y.length, X.drop Y.length, (List.take_append_drop _ _).symm, by rw [List.length_take]; omega⟩
      have hxl : (X1 ++ X2).length = X1.length + X2.length := List.length_append
      repeat' (first | refine w1g ?_ | refine w1l ?_ | refine w1q ?_ | refine w1b ?_ | refine w1p ?_ | ((first | refine w1r ?_ | refine w1k ?_ | refine w1e ?_); simp (maxSteps := 400000) (disch := omega) only [push_cast, ↓reduceIte, reduceCtorEq, Nat.reduceAdd, Nat.reduceSub, Nat.reduceEqDiff, Nat.reduceLeDiff, Nat.reduceLT, Nat.reduceBEq, Nat.reduceDiv, Nat.reduceMod, Nat.reducePow, Nat.reduceMul, Int.reduceToNat, Int.reduceLT, Int.reduceLE, keepL]) | refine an2 ?_ | fail)
      refine CallC.inl (i127 P X1 X2 Y Q (lm_set_same _ _ _) (fun j hj => hfr' _ j (by dsimp only at hj; omega)) (by simp only [List.length_append]; omega) (by simp) rfl (by omega) (by omega) (by omega) (by omega) ?_)
      (refine sy1 ?_; try exact True.intro)
      repeat' (first | refine w1g ?_ | refine w1l ?_ | refine w1q ?_ | refine w1b ?_ | refine w1p ?_ | ((first | refine w1r ?_ | refine w1k ?_ | refine w1e ?_); simp (maxSteps := 400000) (disch := omega) only [push_cast, ↓reduceIte, reduceCtorEq, Nat.reduceAdd, Nat.reduceSub, Nat.reduceEqDiff, Nat.reduceLeDiff, Nat.reduceLT, Nat.reduceBEq, Nat.reduceDiv, Nat.reduceMod, Nat.reducePow, Nat.reduceMul, Int.reduceToNat, Int.reduceLT, Int.reduceLE, keepL]) | refine an2 ?_ | fail)
      have e3 : (((X1 ++ X2).length : Nat) : Int) - Y.length = X2.length := by omega
      have e4 : ((Y.length : Nat) : Int) = X1.length := by omega
      exact ⟨((P ++ Y, X2), (X1, Q)), ⟨⟨by dsimp only; omega, by dsimp only; omega⟩, by simp only [List.length_append]; omega, by rw [← hT]; simp⟩, by dsimp only; omega, by rw [e3, e4], by simp⟩
    · obtain ⟨Y1, Y2, rfl, hl⟩ : ∃ Y1 Y2, Y = Y1 ++ Y2 ∧ Y2.length = X.length := ⟨Y.take (Y.length - X.length), Y.drop (Y.length - X.length), (List.take_append_drop _ _).symm, by rw [List.length_drop]; omega⟩
      have hyl : (Y1 ++ Y2).length = Y1.length + Y2.length := List.length_append
      repeat' (first | refine w1g ?_ | refine w1l ?_ | refine w1q ?_ | refine w1b ?_ | refine w1p ?_ | ((first | refine w1r ?_ | refine w1k ?_ | refine w1e ?_); simp (maxSteps := 400000) (disch := omega) only [push_cast, ↓reduceIte, reduceCtorEq, Nat.reduceAdd, Nat.reduceSub, Nat.reduceEqDiff, Nat.reduceLeDiff, Nat.reduceLT, Nat.reduceBEq, Nat.reduceDiv, Nat.reduceMod, Nat.reducePow, Nat.reduceMul, Int.reduceToNat, Int.reduceLT, Int.reduceLE, keepL]) | refine an2 ?_ | fail)
      refine CallC.inl (i127 P X Y1 Y2 Q (lm_set_same _ _ _) (fun j hj => hfr' _ j (by dsimp only at hj; omega)) (by simp only [List.length_append]; omega) (by simp) rfl (by omega) (by omega) (by omega) (by omega) ?_)
      (refine sy1 ?_; try exact True.intro)
      repeat' (first | refine w1g ?_ | refine w1l ?_ | refine w1q ?_ | refine w1b ?_ | refine w1p ?_ | ((first | refine w1r ?_ | refine w1k ?_ | refine w1e ?_); simp (maxSteps := 400000) (disch := omega) only [push_cast, ↓reduceIte, reduceCtorEq, Nat.reduceAdd, Nat.reduceSub, Nat.reduceEqDiff, Nat.reduceLeDiff, Nat.reduceLT, Nat.reduceBEq, Nat.reduceDiv, Nat.reduceMod, Nat.reducePow, Nat.reduceMul, Int.reduceToNat, Int.reduceLT, Int.reduceLE, keepL]) | refine an2 ?_ | fail)
      have e3 : (((Y1 ++ Y2).length : Nat) : Int) - X.length = Y1.length := by omega
      have e4 : ((X.length : Nat) : Int) = Y2.length := by omega
      exact ⟨((P, Y2), (Y1, X ++ Q)), ⟨⟨by dsimp only; omega, by dsimp only; omega⟩, by dsimp only; omega, by rw [← hT]; simp⟩, by dsimp only; omega, by rw [e3, e4], by simp⟩
  · have hne : X.length = Y.length := by
      simp only [bne_eq_false_iff_eq] at h5; omega
    repeat' (first | refine w1g ?_ | refine w1l ?_ | refine w1q ?_ | refine w1b ?_ | refine w1p ?_ | ((first | refine w1r ?_ | refine w1k ?_ | refine w1e ?_); simp (maxSteps := 400000) (disch := omega) only [push_cast, ↓reduceIte, reduceCtorEq, Nat.reduceAdd, Nat.reduceSub, Nat.reduceEqDiff, Nat.reduceLeDiff, Nat.reduceLT, Nat.reduceBEq, Nat.reduceDiv, Nat.reduceMod, Nat.reducePow, Nat.reduceMul, Int.reduceToNat, Int.reduceLT, Int.reduceLE, keepL]) | refine an2 ?_ | fail)
    refine CallC.inl (i127 P X [] Y Q (lm_set_same _ _ _) (fun j hj => hfr' _ j (by dsimp only at hj; omega)) (by simp only [List.length_append]; omega) (by simp) rfl (by omega) (by omega) (by simp; omega) (by omega) ?_)
    (refine sy1 ?_; try exact True.intro)
    repeat' (first | refine w1g ?_ | refine w1l ?_ | refine w1q ?_ | refine w1b ?_ | refine w1p ?_ | ((first | refine w1r ?_ | refine w1k ?_ | refine w1e ?_); simp (maxSteps := 400000) (disch := omega) only [push_cast, ↓reduceIte, reduceCtorEq, Nat.reduceAdd, Nat.reduceSub, Nat.reduceEqDiff, Nat.reduceLeDiff, Nat.reduceLT, Nat.reduceBEq, Nat.reduceDiv, Nat.reduceMod, Nat.reducePow, Nat.reduceMul, Int.reduceToNat, Int.reduceLT, Int.reduceLE, keepL]) | refine an2 ?_ | fail)
    rw [← hT]
theorem i125 {s : S} {k st : Nat} {gc : Nat} {ca : List AV} {L L' : List Int} (P X Y Q : List Int) {a b n : Int} {K : AV → S → Prop} (hk : lm s.mem k = some (rI st L)) (hfr : ∀ j, s.nx ≤ j → lm s.mem j = none) (hlen : L.length ≤ 1000000)
    (hX : 0 < X.length) (hY : 0 < Y.length) (hL : L = P ++ (X ++ (Y ++ Q))) (hL' : P ++ (Y ++ (X ++ Q)) = L') (ha : a = P.length) (hb : b = P.length + X.length) (hn : n = P.length + X.length + Y.length) (hK : K (.tup []) ⟨s.tm, setm s.mem k (rI st L'), s.nx⟩) :
    Inl Try.prog 150 [.row k st, iv a, iv b, iv n, .clo gc [] ca] s K := by
  subst ha hb hn hL'
  subst hL
  simp only [List.length_append] at hlen
  exact Inl_row mixed Xt150 rfl hk hfr (fun M nx h1 h2 => w125 P X Y Q hX hY (by simp only [List.length_append]; omega) h1 h2) hK
end Go.Proofs.Ytoiohkjomcbadaa

namespace Go.Proofs.Ytoiohkjomcbadaa
set_option linter.unusedVariables false
section
variable {α : Type} {lt : α → α → Bool}
theorem srt_get {l : List α} (h : SrtL lt l) (d : α) {i j : Nat} (hij : i < j) (hj : j < l.length) : lt (l.getD j d) (l.getD i d) = false := by
  have := List.pairwise_iff_getElem.1 h i j (by omega) hj hij
  simpa [List.getD, hj, show i < l.length by omega] using this
theorem srt_take {l : List α} (h : SrtL lt l) (n : Nat) : SrtL lt (l.take n) := List.Pairwise.sublist (List.take_sublist n l) h
theorem srt_drop {l : List α} (h : SrtL lt l) (n : Nat) : SrtL lt (l.drop n) := List.Pairwise.sublist (List.drop_sublist n l) h
theorem mem_take2 {l : List α} {x d : α} {n : Nat} (hx : x ∈ l.take n) : ∃ i, i < n ∧ i < l.length ∧ x = l.getD i d := by
  obtain ⟨i, hi, rfl⟩ := List.getElem_of_mem hx
  rw [List.length_take] at hi
  refine ⟨i, by omega, by omega, ?_⟩
  rw [List.getElem_take]
  simp [List.getD, show i < l.length by omega]
theorem mem_drop2 {l : List α} {x d : α} {n : Nat} (hx : x ∈ l.drop n) : ∃ i, n ≤ i ∧ i < l.length ∧ x = l.getD i d := by
  obtain ⟨i, hi, rfl⟩ := List.getElem_of_mem hx
  rw [List.length_drop] at hi
  refine ⟨n + i, by omega, by omega, ?_⟩
  rw [List.getElem_drop]
  simp [List.getD, show n + i < l.length by omega]
theorem le_of_at (hw : SW lt) {l : List α} (h : SrtL lt l) (d : α) {n : Nat} {v : α} (hn : n = 0 ∨ lt v (l.getD (n - 1) d) = false) (hn2 : n ≤ l.length) : ∀ u ∈ l.take n, lt v u = false := fun u hu => by
  obtain ⟨i, h1, h2, rfl⟩ := mem_take2 (d := d) hu
  rcases hn with hn | hn
  · omega
  · by_cases q : i = n - 1
    · rw [q]; exact hn
    · exact hw.nt (srt_get h d (show i < n - 1 by omega) (by omega)) hn
theorem gt_of_at (hw : SW lt) {l : List α} (h : SrtL lt l) (d : α) {n : Nat} {v : α} (hn : n = l.length ∨ lt v (l.getD n d) = true) : ∀ u ∈ l.drop n, lt v u = true := fun u hu => by
  obtain ⟨i, h1, h2, rfl⟩ := mem_drop2 (d := d) hu
  rcases hn with hn | hn
  · omega
  · by_cases q : i = n
    · rw [q]; exact hn
    · exact hw.lt_le hn (srt_get h d (show n < i by omega) h2)
theorem lt_of_at (hw : SW lt) {l : List α} (h : SrtL lt l) (d : α) {n : Nat} {u : α} (hn : n = 0 ∨ lt (l.getD (n - 1) d) u = true) (hn2 : n ≤ l.length) : ∀ v ∈ l.take n, lt v u = true := fun v hv => by
  obtain ⟨i, h1, h2, rfl⟩ := mem_take2 (d := d) hv
  rcases hn with hn | hn
  · omega
  · by_cases q : i = n - 1
    · rw [q]; exact hn
    · exact hw.le_lt (srt_get h d (show i < n - 1 by omega) (by omega)) hn
theorem ge_of_at (hw : SW lt) {l : List α} (h : SrtL lt l) (d : α) {n : Nat} {u : α} (hn : n = l.length ∨ lt (l.getD n d) u = false) : ∀ v ∈ l.drop n, lt v u = false := fun v hv => by
  obtain ⟨i, h1, h2, rfl⟩ := mem_drop2 (d := d) hv
  rcases hn with hn | hn
  · omega
  · by_cases q : i = n
    · rw [q]; exact hn
    · exact hw.nt hn (srt_get h d (show n < i by omega) h2)
theorem one_at (hw : SW lt) {V : List α} (h : SrtL lt V) (d u : α) {t : Nat} (ht : t ≤ V.length) (h1 : t = 0 ∨ lt (V.getD (t - 1) d) u = true) (h2 : t = V.length ∨ lt (V.getD t d) u = false) : mrg lt [u] V = V.take t ++ u :: V.drop t := by
  have := one_mrg (V1 := V.take t) (V2 := V.drop t) (lt_of_at hw h d h1 ht) (ge_of_at hw h d h2)
  rwa [List.take_append_drop] at this
theorem at_one (hw : SW lt) {U : List α} (h : SrtL lt U) (d v : α) {t : Nat} (ht : t ≤ U.length) (h1 : t = 0 ∨ lt v (U.getD (t - 1) d) = false) (h2 : t = U.length ∨ lt v (U.getD t d) = true) : mrg lt U [v] = U.take t ++ v :: U.drop t := by
  have := mrg_one (U1 := U.take t) (U2 := U.drop t) (le_of_at hw h d h1 ht) (gt_of_at hw h d h2)
  rwa [List.take_append_drop] at this
theorem ins_at (hw : SW lt) {U : List α} (h : SrtL lt U) (d v : α) {t : Nat} (ht : t ≤ U.length) (h1 : t = 0 ∨ lt v (U.getD (t - 1) d) = false) (h2 : ∀ u ∈ U.drop t, lt v u = true) : ins lt v U = U.take t ++ v :: U.drop t := by
  have := ins_split (A := U.take t) (B := U.drop t) (le_of_at hw h d h1 ht) h2
  rwa [List.take_append_drop] at this
theorem sym_split (hw : SW lt) {U V : List α} (hU : SrtL lt U) (hV : SrtL lt V) (d : α) {s e : Nat} (hs : s ≤ U.length) (he : e ≤ V.length)
    (h1 : s = 0 ∨ e = V.length ∨ lt (V.getD e d) (U.getD (s - 1) d) = false) (h2 : e = 0 ∨ s = U.length ∨ lt (V.getD (e - 1) d) (U.getD s d) = true) :
    mrg lt U V = mrg lt (U.take s) (V.take e) ++ mrg lt (U.drop s) (V.drop e) := by
  have := mrg_split (lt := lt) (U.take s) (V.take e) (U2 := U.drop s) (V2 := V.drop e) (fun u hu v hv => by
    rcases h1 with h1 | h1 | h1
    · rw [h1] at hu; simp at hu
    · rw [h1] at hv; simp at hv
    · exact ge_of_at hw hV d (.inr (le_of_at hw hU d (.inr h1) hs u hu)) v hv) (fun v hv u hu => by
    rcases h2 with h2 | h2 | h2
    · rw [h2] at hv; simp at hv
    · rw [h2] at hu; simp at hu
    · exact gt_of_at hw hU d (.inr (lt_of_at hw hV d (.inr h2) he v hv)) u hu)
  rwa [List.take_append_drop, List.take_append_drop] at this
def insL (P A : List α) (v : α) (e : Nat) (Q : List α) : List α := (P ++ A.take e) ++ v :: (A.drop e ++ Q)
theorem insL_len {P A Q : List α} {v : α} {e : Nat} (he : e ≤ A.length) : (insL P A v e Q).length = P.length + A.length + 1 + Q.length := by
  unfold insL
  simp only [List.length_append, List.length_cons, List.length_take, List.length_drop]; omega
theorem insL_at {P A Q : List α} {v : α} (d : α) {e : Nat} (he : e ≤ A.length) : (insL P A v e Q).getD (P.length + e) d = v := by
  unfold insL
  exact at_cons (by rw [List.length_append, List.length_take]; omega)
theorem insL_up {P A Q : List α} {v : α} (d : α) {e : Nat} (he : e < A.length) :
    (insL P A v e Q).getD (P.length + e + 1) d = A.getD e d ∧ ((insL P A v e Q).set (P.length + e) (A.getD e d)).set (P.length + e + 1) v = insL P A v (e + 1) Q := by
  have e1 : A.drop e = A.getD e d :: A.drop (e + 1) := by rw [List.drop_eq_getElem_cons he]; simp [List.getD, he]
  have e3 : A.take (e + 1) = A.take e ++ [A.getD e d] := by rw [List.take_succ_eq_append_getElem he]; simp [List.getD, he]
  have l1 : (P ++ A.take e).length = P.length + e := by rw [List.length_append, List.length_take]; omega
  unfold insL
  rw [e3, e1]
  generalize A.getD e d = x
  have l2 : ((P ++ A.take e) ++ [v]).length = P.length + e + 1 := by rw [List.length_append, l1]; rfl
  have l3 : ((P ++ A.take e) ++ [x]).length = P.length + e + 1 := by rw [List.length_append, l1]; rfl
  constructor
  · have r : (P ++ A.take e) ++ v :: ((x :: A.drop (e + 1)) ++ Q) = ((P ++ A.take e) ++ [v]) ++ x :: (A.drop (e + 1) ++ Q) := by simp
    rw [r]; exact at_cons l2
  · rw [set_cons l1]
    have r : (P ++ A.take e) ++ x :: ((x :: A.drop (e + 1)) ++ Q) = ((P ++ A.take e) ++ [x]) ++ x :: (A.drop (e + 1) ++ Q) := by simp
    rw [r, set_cons l3]
    simp
theorem insL_dn {P A Q : List α} {v : α} (d : α) {e : Nat} (he : e < A.length) :
    (insL P A v (e + 1) Q).getD (P.length + e) d = A.getD e d ∧ ((insL P A v (e + 1) Q).set (P.length + (e + 1)) (A.getD e d)).set (P.length + e) v = insL P A v e Q := by
  have e1 : A.drop e = A.getD e d :: A.drop (e + 1) := by rw [List.drop_eq_getElem_cons he]; simp [List.getD, he]
  have e3 : A.take (e + 1) = A.take e ++ [A.getD e d] := by rw [List.take_succ_eq_append_getElem he]; simp [List.getD, he]
  have l1 : (P ++ A.take e).length = P.length + e := by rw [List.length_append, List.length_take]; omega
  unfold insL
  rw [e3, e1]
  generalize A.getD e d = x
  have l3 : (P ++ (A.take e ++ [x])).length = P.length + (e + 1) := by rw [← List.append_assoc, List.length_append, l1]; rfl
  constructor
  · have r : (P ++ (A.take e ++ [x])) ++ v :: (A.drop (e + 1) ++ Q) = (P ++ A.take e) ++ x :: (v :: (A.drop (e + 1) ++ Q)) := by simp
    rw [r]; exact at_cons l1
  · rw [set_cons l3]
    have r : (P ++ (A.take e ++ [x])) ++ x :: (A.drop (e + 1) ++ Q) = (P ++ A.take e) ++ x :: (x :: (A.drop (e + 1) ++ Q)) := by simp
    rw [r, set_cons l1]
    simp
theorem get_U {P U R : List α} (d : α) {c : Nat} (h : c < U.length) : (P ++ (U ++ R)).getD (P.length + c) d = U.getD c d := by
  simp only [List.getD_eq_getElem?_getD]
  rw [List.getElem?_append_right (by omega), List.getElem?_append_left (by omega), Nat.add_sub_cancel_left]
theorem get_V {P U V R : List α} (d : α) {c : Nat} (h : c < V.length) : (P ++ (U ++ (V ++ R))).getD (P.length + U.length + c) d = V.getD c d := by
  have := get_U (P := P ++ U) (U := V) (R := R) d h
  rw [List.length_append, List.append_assoc] at this
  exact this
end
end Go.Proofs.Ytoiohkjomcbadaa

namespace Go.Proofs.Ytoiohkjomcbadaa
open Go Sy
set_option maxRecDepth 100000
set_option maxHeartbeats 4000000
set_option linter.unusedVariables false
set_option linter.unusedSimpArgs false
theorem getD_ok {ok : Int → Prop} (ok0 : ok 0) {l : List Int} (h : ∀ x ∈ l, ok x) (i : Nat) : ok (l.getD i 0) := by
  by_cases q : i < l.length
  · refine h _ ?_
    simp only [List.getD, List.getElem?_eq_getElem q, Option.getD_some]; exact List.getElem_mem q
  · simpa [List.getD, q] using ok0
theorem insL_ok {ok : Int → Prop} {P A Q : List Int} {v : Int} {e : Nat} (h1 : ∀ x ∈ P, ok x) (h2 : ∀ x ∈ A, ok x) (h3 : ok v) (h4 : ∀ x ∈ Q, ok x) : ∀ x ∈ insL P A v e Q, ok x := fun x hx => by
  unfold insL at hx
  simp only [List.mem_append, List.mem_cons] at hx
  rcases hx with (hx | hx) | hx | hx | hx
  · exact h1 x hx
  · exact h2 x (List.mem_of_mem_take hx)
  · rw [hx]; exact h3
  · exact h2 x (List.mem_of_mem_drop hx)
  · exact h4 x hx
theorem w118 {M : List (Nat × Blk)} {k st nx : Nat} {gc : Nat} {ca : List AV} {lt : Int → Int → Bool} {cv : Int → Int → Int} (hw : SW lt) (hfz : frzAll ca = true) (hcv : ∀ x y, lt x y = decide (cv x y < 0))
    {ok : Int → Prop} (ok0 : ok 0) (hg : ∀ x y, ok x → ok y → Sy.Fn Try.prog gc (iv x :: iv y :: ca) (iv (cv x y))) (P U Q : List Int) (okP : ∀ x ∈ P, ok x) (okU : ∀ x ∈ U, ok x) (okQ : ∀ x ∈ Q, ok x) (hlen : P.length + U.length + Q.length ≤ 1000000) (hk : k < nx) (hfr : ∀ j, nx ≤ j → lm M j = none) :
    W Try.prog 53 Xn137_0 ⟨initT 0 [.row k st, iv P.length, iv (P.length + U.length), .clo gc [] ca], setm M k (rI st (P ++ (U ++ Q))), nx⟩
      (fun e s' => (e = .n ∨ e = .r) ∧ s'.mem = setm M k (rI st (P ++ (isort lt U ++ Q)))) := by
  have hfr' : ∀ b : Blk, ∀ j, nx ≤ j → lm (setm M k b) j = none := fun b j hj => by rw [lm_set_other _ _ (by omega)]; exact hfr j hj
  simp (maxSteps := 400000) (disch := omega) only [push_cast, ↓reduceIte, reduceCtorEq, Nat.reduceAdd, Nat.reduceSub, Nat.reduceEqDiff, Nat.reduceLeDiff, Nat.reduceLT, Nat.reduceBEq, Nat.reduceDiv, Nat.reduceMod, Nat.reducePow, Nat.reduceMul, Int.reduceToNat, Int.reduceLT, Int.reduceLE, initT]
  repeat' (first | refine w1g ?_ | refine w1l ?_ | refine w1q ?_ | refine w1b ?_ | refine w1p ?_ | ((first | refine w1r ?_ | refine w1k ?_ | refine w1e ?_); (refine sy1 ?_; try exact True.intro)) | refine an2 ?_ | fail)
  refine W_loopM (fun c : Nat => [(8, iv ((P.length : Int) + 1 + c))]) (fun c => setm M k (rI st (P ++ (isort lt (U.take (c + 1)) ++ (U.drop (c + 1) ++ Q))))) (fun c => c = 0 ∨ c + 1 ≤ U.length) (fun c => U.length - c) nx (fun c _ => hfr' _) 0 (.inl rfl) (by rfl) (by
    have : isort lt (U.take 1) ++ U.drop 1 = U := by
      cases U with
      | nil => rfl
      | cons u U => rfl
    rw [← List.append_assoc (isort lt _), this]) (fun c hc => ?_)
  simp (maxSteps := 400000) (disch := omega) only [push_cast, ↓reduceIte, reduceCtorEq, Nat.reduceAdd, Nat.reduceSub, Nat.reduceEqDiff, Nat.reduceLeDiff, Nat.reduceLT, Nat.reduceBEq, Nat.reduceDiv, Nat.reduceMod, Nat.reducePow, Nat.reduceMul, Int.reduceToNat, Int.reduceLT, Int.reduceLE, keepL]
  repeat' (first | refine w1g ?_ | refine w1l ?_ | refine w1q ?_ | refine w1b ?_ | refine w1p ?_ | ((first | refine w1r ?_ | refine w1k ?_ | refine w1e ?_); simp (maxSteps := 400000) (disch := omega) only [push_cast, ↓reduceIte, reduceCtorEq, Nat.reduceAdd, Nat.reduceSub, Nat.reduceEqDiff, Nat.reduceLeDiff, Nat.reduceLT, Nat.reduceBEq, Nat.reduceDiv, Nat.reduceMod, Nat.reducePow, Nat.reduceMul, Int.reduceToNat, Int.reduceLT, Int.reduceLE, keepL]) | refine an2 ?_ | fail)
  refine W_condD (by rfl) (fun h5 => ?_) (fun h5 => ?_)
  · have hlt : c + 1 < U.length := by omega
    have hA : SrtL lt (isort lt (U.take (c + 1))) := srt_isort hw _
    have hAl : (isort lt (U.take (c + 1))).length = c + 1 := by rw [isort_len, List.length_take]; omega
    have hA2 : isort lt (U.take (c + 1 + 1)) = ins lt (U.getD (c + 1) (0 : Int)) (isort lt (U.take (c + 1))) := by
      rw [List.take_succ_eq_append_getElem hlt, isort_snoc]
      simp [List.getD, hlt]
    have hdr : U.drop (c + 1) = U.getD (c + 1) (0 : Int) :: U.drop (c + 1 + 1) := by rw [List.drop_eq_getElem_cons hlt]; simp [List.getD, hlt]
    have hdl : (U.drop (c + 1 + 1)).length = U.length - (c + 1 + 1) := List.length_drop
    have okA : ∀ x ∈ isort lt (U.take (c + 1)), ok x := fun x hx => okU x (List.mem_of_mem_take ((isort_mem _).1 hx))
    have okv : ok (U.getD (c + 1) (0 : Int)) := getD_ok ok0 okU _
    have okR : ∀ x ∈ U.drop (c + 1 + 1) ++ Q, ok x := fun x hx => by
      rcases List.mem_append.1 hx with hx | hx
      · exact okU x (List.mem_of_mem_drop hx)
      · exact okQ x hx
    rw [hdr]
    generalize isort lt (U.take (c + 1)) = A at *
    generalize U.getD (c + 1) (0 : Int) = v at *
    generalize hR : U.drop (c + 1 + 1) ++ Q = R at *
    have hRl : R.length = U.length - (c + 1 + 1) + Q.length := by rw [← hR, List.length_append, hdl]
    have hini : P ++ (A ++ (v :: (U.drop (c + 1 + 1)) ++ Q)) = insL P A v A.length R := by
      unfold insL
      rw [List.take_length, List.drop_length, ← hR]; simp
    rw [hini]
    repeat' (first | refine w1g ?_ | refine w1l ?_ | refine w1q ?_ | refine w1b ?_ | refine w1p ?_ | ((first | refine w1r ?_ | refine w1k ?_ | refine w1e ?_); simp (maxSteps := 400000) (disch := omega) only [push_cast, ↓reduceIte, reduceCtorEq, Nat.reduceAdd, Nat.reduceSub, Nat.reduceEqDiff, Nat.reduceLeDiff, Nat.reduceLT, Nat.reduceBEq, Nat.reduceDiv, Nat.reduceMod, Nat.reducePow, Nat.reduceMul, Int.reduceToNat, Int.reduceLT, Int.reduceLE, keepL]) | refine an2 ?_ | fail)
    refine W_loopM (fun e : Nat => [(9, iv ((P.length : Int) + e))]) (fun e => setm M k (rI st (insL P A v e R))) (fun e => e ≤ A.length ∧ ∀ u ∈ A.drop e, lt v u = true) (fun e => e) nx (fun c _ => hfr' _) A.length ⟨Nat.le_refl _, by rw [List.drop_length]; intro u hu; cases hu⟩ (by
      have e1 : (P.length : Int) + 1 + c = P.length + A.length := by omega
      rw [e1]; rfl) (by rfl) (fun e he => ?_)
    obtain ⟨he1, he2⟩ := he
    have hll := insL_len (P := P) (Q := R) (v := v) he1
    have hat := insL_at (P := P) (Q := R) (v := v) (0 : Int) he1
    have ea : ((P.length : Int) + e).toNat = P.length + e := by omega
    obtain ⟨y, hy⟩ : ∃ y, (insL P A v e R).getD ((P.length : Int) + e - 1).toNat (0 : Int) = y := ⟨_, rfl⟩
    have cg := hg v y okv (by rw [← hy]; exact getD_ok ok0 (insL_ok okP okA okv okR) _)
    simp (maxSteps := 400000) (disch := omega) only [push_cast, ↓reduceIte, reduceCtorEq, Nat.reduceAdd, Nat.reduceSub, Nat.reduceEqDiff, Nat.reduceLeDiff, Nat.reduceLT, Nat.reduceBEq, Nat.reduceDiv, Nat.reduceMod, Nat.reducePow, Nat.reduceMul, Int.reduceToNat, Int.reduceLT, Int.reduceLE, keepL]
    repeat' (first | refine w1g ?_ | refine w1l ?_ | refine w1q ?_ | refine w1b ?_ | refine w1p ?_ | ((first | refine w1r ?_ | refine w1k ?_ | refine w1e ?_ | refine CallC.go _ (fun _ => ⟨trivial, cg⟩) rfl ?_); simp (maxSteps := 400000) (disch := omega) only [push_cast, ↓reduceIte, reduceCtorEq, Nat.reduceAdd, Nat.reduceSub, Nat.reduceEqDiff, Nat.reduceLeDiff, Nat.reduceLT, Nat.reduceBEq, Nat.reduceDiv, Nat.reduceMod, Nat.reducePow, Nat.reduceMul, Int.reduceToNat, Int.reduceLT, Int.reduceLE, keepL, hll, ea, hat, hy, hfz, beq_self_eq_true]) | refine an2 ?_ | fail)
    refine W_cond (by rfl) (fun hb => ?_) (fun hb => ?_)
    · simp only [Bool.and_eq_true, decide_eq_true_eq] at hb
      obtain ⟨e', rfl⟩ : ∃ e', e = e' + 1 := ⟨e - 1, by omega⟩
      have hdn := insL_dn (P := P) (Q := R) (v := v) (0 : Int) (show e' < A.length by omega)
      obtain ⟨q1, q2⟩ := hdn
      have eb : ((P.length : Int) + ((e' + 1 : Nat) : Int) - 1).toNat = P.length + e' := by omega
      rw [eb, q1] at hy
      have hlty : lt v y = true := by rw [hcv]; exact decide_eq_true hb.2
      have hall : ∀ u ∈ A.drop e', lt v u = true := by
        have he' : e' < A.length := by omega
        have e1 : A.drop e' = A.getD e' (0 : Int) :: A.drop (e' + 1) := by rw [List.drop_eq_getElem_cons he']; simp [List.getD, he']
        rw [e1, hy]
        intro u hu
        rcases List.mem_cons.1 hu with rfl | hu
        · exact hlty
        · exact he2 u hu
      have eb' : ((P.length : Int) + ((e' : Int) + 1) - 1).toNat = P.length + e' := by omega
      have ea' : ((P.length : Int) + ((e' : Int) + 1)).toNat = P.length + (e' + 1) := by omega
      rw [hy] at q1 q2
      repeat' (first | refine w1g ?_ | refine w1l ?_ | refine w1q ?_ | refine w1b ?_ | refine w1p ?_ | ((first | refine w1r ?_ | refine w1k ?_ | refine w1e ?_); simp (maxSteps := 400000) (disch := omega) only [push_cast, ↓reduceIte, reduceCtorEq, Nat.reduceAdd, Nat.reduceSub, Nat.reduceEqDiff, Nat.reduceLeDiff, Nat.reduceLT, Nat.reduceBEq, Nat.reduceDiv, Nat.reduceMod, Nat.reducePow, Nat.reduceMul, Int.reduceToNat, Int.reduceLT, Int.reduceLE, keepL, hll, ea', eb', hat, q1, beq_self_eq_true]) | refine an2 ?_ | fail)
      refine ⟨rfl, ⟨by dsimp only; omega, hasM_set _ _ _⟩, by omega, y, rfl, rfl, ?_⟩
      simp (maxSteps := 400000) (disch := omega) only [push_cast, ↓reduceIte, reduceCtorEq, Nat.reduceAdd, Nat.reduceSub, Nat.reduceEqDiff, Nat.reduceLeDiff, Nat.reduceLT, Nat.reduceBEq, Nat.reduceDiv, Nat.reduceMod, Nat.reducePow, Nat.reduceMul, Int.reduceToNat, Int.reduceLT, Int.reduceLE, hll, ea', eb', List.length_set]
      repeat' (first | refine w1g ?_ | refine w1l ?_ | refine w1q ?_ | refine w1b ?_ | refine w1p ?_ | ((first | refine w1r ?_ | refine w1k ?_ | refine w1e ?_); simp (maxSteps := 400000) (disch := omega) only [push_cast, ↓reduceIte, reduceCtorEq, Nat.reduceAdd, Nat.reduceSub, Nat.reduceEqDiff, Nat.reduceLeDiff, Nat.reduceLT, Nat.reduceBEq, Nat.reduceDiv, Nat.reduceMod, Nat.reducePow, Nat.reduceMul, Int.reduceToNat, Int.reduceLT, Int.reduceLE, keepL, hll, ea', eb', List.length_set, beq_self_eq_true]) | refine an2 ?_ | fail)
      refine ⟨rfl, ⟨by dsimp only; omega, hasM_set _ _ _⟩, by omega, v, rfl, rfl, ?_⟩
      rw [q2]
      (refine sy1 ?_; try exact True.intro)
      repeat' (first | refine w1g ?_ | refine w1l ?_ | refine w1q ?_ | refine w1b ?_ | refine w1p ?_ | ((first | refine w1r ?_ | refine w1k ?_ | refine w1e ?_); simp (maxSteps := 400000) (disch := omega) only [push_cast, ↓reduceIte, reduceCtorEq, Nat.reduceAdd, Nat.reduceSub, Nat.reduceEqDiff, Nat.reduceLeDiff, Nat.reduceLT, Nat.reduceBEq, Nat.reduceDiv, Nat.reduceMod, Nat.reducePow, Nat.reduceMul, Int.reduceToNat, Int.reduceLT, Int.reduceLE, keepL]) | refine an2 ?_ | fail)
      refine ⟨e', ⟨by omega, hall⟩, by omega, ?_, rfl⟩
      rw [show (P.length : Int) + ((e' : Int) + 1) - 1 = P.length + e' by omega]
    · have hstop : e = 0 ∨ lt v (A.getD (e - 1) (0 : Int)) = false := by
        by_cases e0 : e = 0
        · exact .inl e0
        · right
          obtain ⟨e', rfl⟩ : ∃ e', e = e' + 1 := ⟨e - 1, by omega⟩
          have q1 := (insL_dn (P := P) (Q := R) (v := v) (0 : Int) (show e' < A.length by omega)).1
          have eb : ((P.length : Int) + ((e' + 1 : Nat) : Int) - 1).toNat = P.length + e' := by omega
          rw [eb, q1] at hy
          rw [Nat.add_sub_cancel, hy, hcv]
          simp only [Bool.and_eq_false_iff, decide_eq_false_iff_not] at hb
          exact decide_eq_false (by omega)
      have hins := ins_at hw hA (0 : Int) v he1 hstop he2
      have hfin : insL P A v e R = P ++ (ins lt v A ++ (U.drop (c + 1 + 1) ++ Q)) := by
        unfold insL
        rw [hins, hR]; simp
      rw [hfin, ← hA2]
      repeat' (first | refine w1g ?_ | refine w1l ?_ | refine w1q ?_ | refine w1b ?_ | refine w1p ?_ | ((first | refine w1r ?_ | refine w1k ?_ | refine w1e ?_); simp (maxSteps := 400000) (disch := omega) only [push_cast, ↓reduceIte, reduceCtorEq, Nat.reduceAdd, Nat.reduceSub, Nat.reduceEqDiff, Nat.reduceLeDiff, Nat.reduceLT, Nat.reduceBEq, Nat.reduceDiv, Nat.reduceMod, Nat.reducePow, Nat.reduceMul, Int.reduceToNat, Int.reduceLT, Int.reduceLE, keepL]) | refine an2 ?_ | fail)
      refine ⟨c + 1, .inr (by omega), by omega, ?_, rfl⟩
      rw [show (P.length : Int) + 1 + ((c + 1 : Nat) : Int) = P.length + 1 + c + 1 by omega]
  · have hcl : U.length ≤ c + 1 := by omega
    rw [List.take_of_length_le hcl, List.drop_of_length_le hcl, List.nil_append]
    repeat' (first | refine w1g ?_ | refine w1l ?_ | refine w1q ?_ | refine w1b ?_ | refine w1p ?_ | ((first | refine w1r ?_ | refine w1k ?_ | refine w1e ?_); simp (maxSteps := 400000) (disch := omega) only [push_cast, ↓reduceIte, reduceCtorEq, Nat.reduceAdd, Nat.reduceSub, Nat.reduceEqDiff, Nat.reduceLeDiff, Nat.reduceLT, Nat.reduceBEq, Nat.reduceDiv, Nat.reduceMod, Nat.reducePow, Nat.reduceMul, Int.reduceToNat, Int.reduceLT, Int.reduceLE, keepL]) | refine an2 ?_ | fail)
end Go.Proofs.Ytoiohkjomcbadaa

namespace Go.Proofs.Ytoiohkjomcbadaa
open Go Sy
set_option maxRecDepth 100000
set_option maxHeartbeats 4000000
set_option linter.unusedVariables false
set_option linter.unusedSimpArgs false
theorem w119a {M : List (Nat × Blk)} {k st nx : Nat} {gc : Nat} {ca : List AV} {lt : Int → Int → Bool} {cv : Int → Int → Int} (hw : SW lt) (hfz : frzAll ca = true) (hcv : ∀ x y, lt x y = decide (cv x y < 0))
    {ok : Int → Prop} (ok0 : ok 0) (hg : ∀ x y, ok x → ok y → Sy.Fn Try.prog gc (iv x :: iv y :: ca) (iv (cv x y))) (P V Q : List Int) (u : Int) (oku : ok u) (okV : ∀ x ∈ V, ok x) (hV0 : 0 < V.length) (sV : SrtL lt V) (hlen : P.length + 1 + V.length + Q.length ≤ 1000000) (hk : k < nx) (hfr : ∀ j, nx ≤ j → lm M j = none) :
    W Try.prog 220 Xn138_0 ⟨initT 0 [.row k st, iv P.length, iv ((P.length : Int) + 1), iv ((P.length : Int) + 1 + V.length), .clo gc [] ca], setm M k (rI st (insL P V u 0 Q)), nx⟩
      (fun e s' => (e = .n ∨ e = .r) ∧ s'.mem = setm M k (rI st (P ++ (mrg lt [u] V ++ Q)))) := by
  have hfr' : ∀ b : Blk, ∀ j, nx ≤ j → lm (setm M k b) j = none := fun b j hj => by rw [lm_set_other _ _ (by omega)]; exact hfr j hj
  have e1 : (P.length : Int) + 1 - P.length = 1 := by omega
  have hll0 := insL_len (P := P) (Q := Q) (v := u) (show 0 ≤ V.length by omega)
  have hat0 := insL_at (P := P) (Q := Q) (v := u) (0 : Int) (show 0 ≤ V.length by omega)
  rw [Nat.add_zero] at hat0
  have hpn : ((P.length : Int)).toNat = P.length := by omega
  have hgV : ∀ c, c < V.length → (insL P V u 0 Q).getD (P.length + 1 + c) (0 : Int) = V.getD c (0 : Int) := fun c hc => by
    have : insL P V u 0 Q = P ++ ([u] ++ (V ++ Q)) := by simp [insL]
    rw [this]
    exact get_V (U := [u]) (0 : Int) hc
  simp (maxSteps := 400000) (disch := omega) only [push_cast, ↓reduceIte, reduceCtorEq, Nat.reduceAdd, Nat.reduceSub, Nat.reduceEqDiff, Nat.reduceLeDiff, Nat.reduceLT, Nat.reduceBEq, Nat.reduceDiv, Nat.reduceMod, Nat.reducePow, Nat.reduceMul, Int.reduceToNat, Int.reduceLT, Int.reduceLE, initT]
  repeat' (first | refine w1g ?_ | refine w1l ?_ | refine w1q ?_ | refine w1b ?_ | refine w1p ?_ | ((first | refine w1r ?_ | refine w1k ?_ | refine w1e ?_); simp (maxSteps := 400000) (disch := omega) only [push_cast, ↓reduceIte, reduceCtorEq, Nat.reduceAdd, Nat.reduceSub, Nat.reduceEqDiff, Nat.reduceLeDiff, Nat.reduceLT, Nat.reduceBEq, Nat.reduceDiv, Nat.reduceMod, Nat.reducePow, Nat.reduceMul, Int.reduceToNat, Int.reduceLT, Int.reduceLE, e1]) | refine an2 ?_ | fail)
  refine W_cond (by rfl) (fun hb => ?_) (fun hb => by first | cases hb | (simp at hb))
  repeat' (first | refine w1g ?_ | refine w1l ?_ | refine w1q ?_ | refine w1b ?_ | refine w1p ?_ | ((first | refine w1r ?_ | refine w1k ?_ | refine w1e ?_); (refine sy1 ?_; try exact True.intro)) | refine an2 ?_ | fail)
  refine W_loopM (fun q : Nat × Nat => [(10, iv ((P.length : Int) + 1 + q.1)), (11, iv ((P.length : Int) + 1 + q.2))]) (fun q => setm M k (rI st (insL P V u 0 Q))) (fun q => (q.1 ≤ q.2 ∧ q.2 ≤ V.length) ∧ (q.1 = 0 ∨ lt (V.getD (q.1 - 1) (0 : Int)) u = true) ∧ (q.2 = V.length ∨ lt (V.getD q.2 (0 : Int)) u = false)) (fun q => q.2 - q.1) nx (fun c _ => hfr' _) (0, V.length) ⟨⟨by simp, by simp⟩, .inl rfl, .inl rfl⟩ (by
    simp only [Int.natCast_zero, Int.add_zero]
    rfl) (by rfl) (fun q hq => ?_)
  obtain ⟨c, e⟩ := q
  obtain ⟨⟨h1, h2⟩, h3, h4⟩ := hq
  simp only at h1 h2 h3 h4
  simp (maxSteps := 400000) (disch := omega) only [push_cast, ↓reduceIte, reduceCtorEq, Nat.reduceAdd, Nat.reduceSub, Nat.reduceEqDiff, Nat.reduceLeDiff, Nat.reduceLT, Nat.reduceBEq, Nat.reduceDiv, Nat.reduceMod, Nat.reducePow, Nat.reduceMul, Int.reduceToNat, Int.reduceLT, Int.reduceLE, keepL]
  repeat' (first | refine w1g ?_ | refine w1l ?_ | refine w1q ?_ | refine w1b ?_ | refine w1p ?_ | ((first | refine w1r ?_ | refine w1k ?_ | refine w1e ?_); simp (maxSteps := 400000) (disch := omega) only [push_cast, ↓reduceIte, reduceCtorEq, Nat.reduceAdd, Nat.reduceSub, Nat.reduceEqDiff, Nat.reduceLeDiff, Nat.reduceLT, Nat.reduceBEq, Nat.reduceDiv, Nat.reduceMod, Nat.reducePow, Nat.reduceMul, Int.reduceToNat, Int.reduceLT, Int.reduceLE, keepL]) | refine an2 ?_ | fail)
  refine W_condD (by rfl) (fun h5 => ?_) (fun h5 => ?_)
  · have hlt : c < e := by omega
    obtain ⟨h, hh⟩ : ∃ h, h = (c + e) / 2 := ⟨_, rfl⟩
    have w1 : IntKind.u64.wrap ((P.length : Int) + 1 + c + (P.length + 1 + e)) = P.length + 1 + c + (P.length + 1 + e) := wrapU ⟨by omega, by omega⟩
    have w2 : IntKind.i64.wrap (((P.length : Int) + 1 + c + (P.length + 1 + e)) / 2) = P.length + 1 + h := by rw [wrap64 ⟨by omega, by omega⟩]; omega
    have et : ((P.length : Int) + 1 + h).toNat = P.length + 1 + h := by omega
    have hv := hgV h (by omega)
    have cg := hg (V.getD h (0 : Int)) u (getD_ok ok0 okV _) oku
    generalize hx : V.getD h (0 : Int) = x at *
    repeat' (first | refine w1g ?_ | refine w1l ?_ | refine w1q ?_ | refine w1b ?_ | refine w1p ?_ | ((first | refine w1r ?_ | refine w1k ?_ | refine w1e ?_ | refine CallC.go _ (fun _ => ⟨trivial, cg⟩) rfl ?_); simp (maxSteps := 400000) (disch := omega) only [push_cast, ↓reduceIte, reduceCtorEq, Nat.reduceAdd, Nat.reduceSub, Nat.reduceEqDiff, Nat.reduceLeDiff, Nat.reduceLT, Nat.reduceBEq, Nat.reduceDiv, Nat.reduceMod, Nat.reducePow, Nat.reduceMul, Int.reduceToNat, Int.reduceLT, Int.reduceLE, keepL, w1, w2, shr1, hll0, hat0, hpn, et, hv, hfz, beq_self_eq_true]) | refine an2 ?_ | fail)
    refine W_cond (by rfl) (fun hb2 => ?_) (fun hb2 => ?_)
    · have hl : lt x u = true := by rw [hcv]; exact hb2
      repeat' (first | refine w1g ?_ | refine w1l ?_ | refine w1q ?_ | refine w1b ?_ | refine w1p ?_ | ((first | refine w1r ?_ | refine w1k ?_ | refine w1e ?_); simp (maxSteps := 400000) (disch := omega) only [push_cast, ↓reduceIte, reduceCtorEq, Nat.reduceAdd, Nat.reduceSub, Nat.reduceEqDiff, Nat.reduceLeDiff, Nat.reduceLT, Nat.reduceBEq, Nat.reduceDiv, Nat.reduceMod, Nat.reducePow, Nat.reduceMul, Int.reduceToNat, Int.reduceLT, Int.reduceLE, keepL]) | refine an2 ?_ | fail)
      refine ⟨(h + 1, e), ⟨⟨by dsimp only; omega, h2⟩, .inr (by rw [Nat.add_sub_cancel, hx]; exact hl), h4⟩, by dsimp only; omega, ?_⟩
      rw [show (P.length : Int) + 1 + ((h + 1 : Nat) : Int) = P.length + 1 + h + 1 by omega]
    · have hl : lt x u = false := by rw [hcv]; exact hb2
      repeat' (first | refine w1g ?_ | refine w1l ?_ | refine w1q ?_ | refine w1b ?_ | refine w1p ?_ | ((first | refine w1r ?_ | refine w1k ?_ | refine w1e ?_); simp (maxSteps := 400000) (disch := omega) only [push_cast, ↓reduceIte, reduceCtorEq, Nat.reduceAdd, Nat.reduceSub, Nat.reduceEqDiff, Nat.reduceLeDiff, Nat.reduceLT, Nat.reduceBEq, Nat.reduceDiv, Nat.reduceMod, Nat.reducePow, Nat.reduceMul, Int.reduceToNat, Int.reduceLT, Int.reduceLE, keepL]) | refine an2 ?_ | fail)
      exact ⟨(c, h), ⟨⟨by dsimp only; omega, by dsimp only; omega⟩, h3, .inr (by rw [hx]; exact hl)⟩, by dsimp only; omega, rfl⟩
  · obtain rfl : c = e := by omega
    have hm := one_at hw sV (0 : Int) u h2 h3 h4
    have hfin : insL P V u c Q = P ++ (mrg lt [u] V ++ Q) := by
      unfold insL
      rw [hm]; simp
    repeat' (first | refine w1g ?_ | refine w1l ?_ | refine w1q ?_ | refine w1b ?_ | refine w1p ?_ | ((first | refine w1r ?_ | refine w1k ?_ | refine w1e ?_); simp (maxSteps := 400000) (disch := omega) only [push_cast, ↓reduceIte, reduceCtorEq, Nat.reduceAdd, Nat.reduceSub, Nat.reduceEqDiff, Nat.reduceLeDiff, Nat.reduceLT, Nat.reduceBEq, Nat.reduceDiv, Nat.reduceMod, Nat.reducePow, Nat.reduceMul, Int.reduceToNat, Int.reduceLT, Int.reduceLE, keepL]) | refine an2 ?_ | fail)
    refine W_loopM (fun i : Nat => [(13, iv ((P.length : Int) + i))]) (fun i => setm M k (rI st (insL P V u i Q))) (fun i => i ≤ c) (fun i => c - i) nx (fun c _ => hfr' _) 0 (by omega) (by
      simp only [Int.natCast_zero, Int.add_zero]
      rfl) (by rfl) (fun i hi => ?_)
    have hll := insL_len (P := P) (Q := Q) (v := u) (show i ≤ V.length by omega)
    simp (maxSteps := 400000) (disch := omega) only [push_cast, ↓reduceIte, reduceCtorEq, Nat.reduceAdd, Nat.reduceSub, Nat.reduceEqDiff, Nat.reduceLeDiff, Nat.reduceLT, Nat.reduceBEq, Nat.reduceDiv, Nat.reduceMod, Nat.reducePow, Nat.reduceMul, Int.reduceToNat, Int.reduceLT, Int.reduceLE, keepL]
    repeat' (first | refine w1g ?_ | refine w1l ?_ | refine w1q ?_ | refine w1b ?_ | refine w1p ?_ | ((first | refine w1r ?_ | refine w1k ?_ | refine w1e ?_); simp (maxSteps := 400000) (disch := omega) only [push_cast, ↓reduceIte, reduceCtorEq, Nat.reduceAdd, Nat.reduceSub, Nat.reduceEqDiff, Nat.reduceLeDiff, Nat.reduceLT, Nat.reduceBEq, Nat.reduceDiv, Nat.reduceMod, Nat.reducePow, Nat.reduceMul, Int.reduceToNat, Int.reduceLT, Int.reduceLE, keepL]) | refine an2 ?_ | fail)
    refine W_condD (by rfl) (fun h6 => ?_) (fun h6 => ?_)
    · have hic : i < c := by omega
      obtain ⟨q1, q2⟩ := insL_up (P := P) (Q := Q) (v := u) (0 : Int) (show i < V.length by omega)
      have hat := insL_at (P := P) (Q := Q) (v := u) (0 : Int) (show i ≤ V.length by omega)
      have ea : ((P.length : Int) + i).toNat = P.length + i := by omega
      have eb : ((P.length : Int) + i + 1).toNat = P.length + i + 1 := by omega
      generalize V.getD i (0 : Int) = y at *
      repeat' (first | refine w1g ?_ | refine w1l ?_ | refine w1q ?_ | refine w1b ?_ | refine w1p ?_ | ((first | refine w1r ?_ | refine w1k ?_ | refine w1e ?_); simp (maxSteps := 400000) (disch := omega) only [push_cast, ↓reduceIte, reduceCtorEq, Nat.reduceAdd, Nat.reduceSub, Nat.reduceEqDiff, Nat.reduceLeDiff, Nat.reduceLT, Nat.reduceBEq, Nat.reduceDiv, Nat.reduceMod, Nat.reducePow, Nat.reduceMul, Int.reduceToNat, Int.reduceLT, Int.reduceLE, keepL, hll, ea, eb, hat, q1, beq_self_eq_true]) | refine an2 ?_ | fail)
      refine ⟨rfl, ⟨by dsimp only; omega, hasM_set _ _ _⟩, by omega, y, rfl, rfl, ?_⟩
      simp (maxSteps := 400000) (disch := omega) only [push_cast, ↓reduceIte, reduceCtorEq, Nat.reduceAdd, Nat.reduceSub, Nat.reduceEqDiff, Nat.reduceLeDiff, Nat.reduceLT, Nat.reduceBEq, Nat.reduceDiv, Nat.reduceMod, Nat.reducePow, Nat.reduceMul, Int.reduceToNat, Int.reduceLT, Int.reduceLE, hll, ea, eb, List.length_set]
      repeat' (first | refine w1g ?_ | refine w1l ?_ | refine w1q ?_ | refine w1b ?_ | refine w1p ?_ | ((first | refine w1r ?_ | refine w1k ?_ | refine w1e ?_); simp (maxSteps := 400000) (disch := omega) only [push_cast, ↓reduceIte, reduceCtorEq, Nat.reduceAdd, Nat.reduceSub, Nat.reduceEqDiff, Nat.reduceLeDiff, Nat.reduceLT, Nat.reduceBEq, Nat.reduceDiv, Nat.reduceMod, Nat.reducePow, Nat.reduceMul, Int.reduceToNat, Int.reduceLT, Int.reduceLE, keepL, hll, ea, eb, List.length_set, beq_self_eq_true]) | refine an2 ?_ | fail)
      refine ⟨rfl, ⟨by dsimp only; omega, hasM_set _ _ _⟩, by omega, u, rfl, rfl, ?_⟩
      rw [q2]
      (refine sy1 ?_; try exact True.intro)
      repeat' (first | refine w1g ?_ | refine w1l ?_ | refine w1q ?_ | refine w1b ?_ | refine w1p ?_ | ((first | refine w1r ?_ | refine w1k ?_ | refine w1e ?_); simp (maxSteps := 400000) (disch := omega) only [push_cast, ↓reduceIte, reduceCtorEq, Nat.reduceAdd, Nat.reduceSub, Nat.reduceEqDiff, Nat.reduceLeDiff, Nat.reduceLT, Nat.reduceBEq, Nat.reduceDiv, Nat.reduceMod, Nat.reducePow, Nat.reduceMul, Int.reduceToNat, Int.reduceLT, Int.reduceLE, keepL]) | refine an2 ?_ | fail)
      refine ⟨i + 1, by omega, by omega, ?_, rfl⟩
      rw [show (P.length : Int) + ((i + 1 : Nat) : Int) = P.length + i + 1 by omega]
    · obtain rfl : i = c := by omega
      rw [hfin]
      repeat' (first | refine w1g ?_ | refine w1l ?_ | refine w1q ?_ | refine w1b ?_ | refine w1p ?_ | ((first | refine w1r ?_ | refine w1k ?_ | refine w1e ?_); simp (maxSteps := 400000) (disch := omega) only [push_cast, ↓reduceIte, reduceCtorEq, Nat.reduceAdd, Nat.reduceSub, Nat.reduceEqDiff, Nat.reduceLeDiff, Nat.reduceLT, Nat.reduceBEq, Nat.reduceDiv, Nat.reduceMod, Nat.reducePow, Nat.reduceMul, Int.reduceToNat, Int.reduceLT, Int.reduceLE, keepL]) | refine an2 ?_ | fail)
      exact W_ret ⟨.inr rfl, rfl⟩
theorem w119b {M : List (Nat × Blk)} {k st nx : Nat} {gc : Nat} {ca : List AV} {lt : Int → Int → Bool} {cv : Int → Int → Int} (hw : SW lt) (hfz : frzAll ca = true) (hcv : ∀ x y, lt x y = decide (cv x y < 0))
    {ok : Int → Prop} (ok0 : ok 0) (hg : ∀ x y, ok x → ok y → Sy.Fn Try.prog gc (iv x :: iv y :: ca) (iv (cv x y))) (P U Q : List Int) (v : Int) (okv : ok v) (okU : ∀ x ∈ U, ok x) (hU0 : 1 < U.length) (sU : SrtL lt U) (hlen : P.length + 1 + U.length + Q.length ≤ 1000000) (hk : k < nx) (hfr : ∀ j, nx ≤ j → lm M j = none) :
    W Try.prog 220 Xn138_0 ⟨initT 0 [.row k st, iv P.length, iv ((P.length : Int) + U.length), iv ((P.length : Int) + U.length + 1), .clo gc [] ca], setm M k (rI st (insL P U v U.length Q)), nx⟩
      (fun e s' => (e = .n ∨ e = .r) ∧ s'.mem = setm M k (rI st (P ++ (mrg lt U [v] ++ Q)))) := by
  have hfr' : ∀ b : Blk, ∀ j, nx ≤ j → lm (setm M k b) j = none := fun b j hj => by rw [lm_set_other _ _ (by omega)]; exact hfr j hj
  have e1 : (P.length : Int) + U.length - P.length = U.length := by omega
  have e2 : (P.length : Int) + U.length + 1 - (P.length + U.length) = 1 := by omega
  have hll0 := insL_len (P := P) (Q := Q) (v := v) (show U.length ≤ U.length by omega)
  have hat0 := insL_at (P := P) (Q := Q) (v := v) (0 : Int) (show U.length ≤ U.length by omega)
  have hpn : ((P.length : Int) + U.length).toNat = P.length + U.length := by omega
  have hgU : ∀ c, c < U.length → (insL P U v U.length Q).getD (P.length + c) (0 : Int) = U.getD c (0 : Int) := fun c hc => by
    have : insL P U v U.length Q = P ++ (U ++ ([v] ++ Q)) := by simp [insL]
    rw [this]
    exact get_U (0 : Int) hc
  simp (maxSteps := 400000) (disch := omega) only [push_cast, ↓reduceIte, reduceCtorEq, Nat.reduceAdd, Nat.reduceSub, Nat.reduceEqDiff, Nat.reduceLeDiff, Nat.reduceLT, Nat.reduceBEq, Nat.reduceDiv, Nat.reduceMod, Nat.reducePow, Nat.reduceMul, Int.reduceToNat, Int.reduceLT, Int.reduceLE, initT]
  repeat' (first | refine w1g ?_ | refine w1l ?_ | refine w1q ?_ | refine w1b ?_ | refine w1p ?_ | ((first | refine w1r ?_ | refine w1k ?_ | refine w1e ?_); simp (maxSteps := 400000) (disch := omega) only [push_cast, ↓reduceIte, reduceCtorEq, Nat.reduceAdd, Nat.reduceSub, Nat.reduceEqDiff, Nat.reduceLeDiff, Nat.reduceLT, Nat.reduceBEq, Nat.reduceDiv, Nat.reduceMod, Nat.reducePow, Nat.reduceMul, Int.reduceToNat, Int.reduceLT, Int.reduceLE, e1]) | refine an2 ?_ | fail)
  refine W_cond (by rfl) (fun hb => by simp only [beq_iff_eq] at hb; omega) (fun hb => ?_)
  repeat' (first | refine w1g ?_ | refine w1l ?_ | refine w1q ?_ | refine w1b ?_ | refine w1p ?_ | ((first | refine w1r ?_ | refine w1k ?_ | refine w1e ?_); simp (maxSteps := 400000) (disch := omega) only [push_cast, ↓reduceIte, reduceCtorEq, Nat.reduceAdd, Nat.reduceSub, Nat.reduceEqDiff, Nat.reduceLeDiff, Nat.reduceLT, Nat.reduceBEq, Nat.reduceDiv, Nat.reduceMod, Nat.reducePow, Nat.reduceMul, Int.reduceToNat, Int.reduceLT, Int.reduceLE, e2]) | refine an2 ?_ | fail)
  refine W_cond (by rfl) (fun hb => ?_) (fun hb => by first | cases hb | (simp at hb))
  repeat' (first | refine w1g ?_ | refine w1l ?_ | refine w1q ?_ | refine w1b ?_ | refine w1p ?_ | ((first | refine w1r ?_ | refine w1k ?_ | refine w1e ?_); (refine sy1 ?_; try exact True.intro)) | refine an2 ?_ | fail)
  refine W_loopM (fun q : Nat × Nat => [(14, iv ((P.length : Int) + q.1)), (15, iv ((P.length : Int) + q.2))]) (fun q => setm M k (rI st (insL P U v U.length Q))) (fun q => (q.1 ≤ q.2 ∧ q.2 ≤ U.length) ∧ (q.1 = 0 ∨ lt v (U.getD (q.1 - 1) (0 : Int)) = false) ∧ (q.2 = U.length ∨ lt v (U.getD q.2 (0 : Int)) = true)) (fun q => q.2 - q.1) nx (fun c _ => hfr' _) (0, U.length) ⟨⟨by simp, by simp⟩, .inl rfl, .inl rfl⟩ (by
    simp only [Int.natCast_zero, Int.add_zero]
    rfl) (by rfl) (fun q hq => ?_)
  obtain ⟨c, e⟩ := q
  obtain ⟨⟨h1, h2⟩, h3, h4⟩ := hq
  simp only at h1 h2 h3 h4
  simp (maxSteps := 400000) (disch := omega) only [push_cast, ↓reduceIte, reduceCtorEq, Nat.reduceAdd, Nat.reduceSub, Nat.reduceEqDiff, Nat.reduceLeDiff, Nat.reduceLT, Nat.reduceBEq, Nat.reduceDiv, Nat.reduceMod, Nat.reducePow, Nat.reduceMul, Int.reduceToNat, Int.reduceLT, Int.reduceLE, keepL]
  repeat' (first | refine w1g ?_ | refine w1l ?_ | refine w1q ?_ | refine w1b ?_ | refine w1p ?_ | ((first | refine w1r ?_ | refine w1k ?_ | refine w1e ?_); simp (maxSteps := 400000) (disch := omega) only [push_cast, ↓reduceIte, reduceCtorEq, Nat.reduceAdd, Nat.reduceSub, Nat.reduceEqDiff, Nat.reduceLeDiff, Nat.reduceLT, Nat.reduceBEq, Nat.reduceDiv, Nat.reduceMod, Nat.reducePow, Nat.reduceMul, Int.reduceToNat, Int.reduceLT, Int.reduceLE, keepL]) | refine an2 ?_ | fail)
  refine W_condD (by rfl) (fun h5 => ?_) (fun h5 => ?_)
  · have hlt : c < e := by omega
    obtain ⟨h, hh⟩ : ∃ h, h = (c + e) / 2 := ⟨_, rfl⟩
    have w1 : IntKind.u64.wrap ((P.length : Int) + c + (P.length + e)) = P.length + c + (P.length + e) := wrapU ⟨by omega, by omega⟩
    have w2 : IntKind.i64.wrap (((P.length : Int) + c + (P.length + e)) / 2) = P.length + h := by rw [wrap64 ⟨by omega, by omega⟩]; omega
    have et : ((P.length : Int) + h).toNat = P.length + h := by omega
    have hv := hgU h (by omega)
    have cg := hg v (U.getD h (0 : Int)) okv (getD_ok ok0 okU _)
    generalize hx : U.getD h (0 : Int) = x at *
    repeat' (first | refine w1g ?_ | refine w1l ?_ | refine w1q ?_ | refine w1b ?_ | refine w1p ?_ | ((first | refine w1r ?_ | refine w1k ?_ | refine w1e ?_ | refine CallC.go _ (fun _ => ⟨trivial, cg⟩) rfl ?_); simp (maxSteps := 400000) (disch := omega) only [push_cast, ↓reduceIte, reduceCtorEq, Nat.reduceAdd, Nat.reduceSub, Nat.reduceEqDiff, Nat.reduceLeDiff, Nat.reduceLT, Nat.reduceBEq, Nat.reduceDiv, Nat.reduceMod, Nat.reducePow, Nat.reduceMul, Int.reduceToNat, Int.reduceLT, Int.reduceLE, keepL, w1, w2, shr1, hll0, hat0, hpn, et, hv, hfz, beq_self_eq_true]) | refine an2 ?_ | fail)
    refine W_cond (by rfl) (fun hb2 => ?_) (fun hb2 => ?_)
    · have hl : lt v x = false := by rw [hcv]; simpa using hb2
      repeat' (first | refine w1g ?_ | refine w1l ?_ | refine w1q ?_ | refine w1b ?_ | refine w1p ?_ | ((first | refine w1r ?_ | refine w1k ?_ | refine w1e ?_); simp (maxSteps := 400000) (disch := omega) only [push_cast, ↓reduceIte, reduceCtorEq, Nat.reduceAdd, Nat.reduceSub, Nat.reduceEqDiff, Nat.reduceLeDiff, Nat.reduceLT, Nat.reduceBEq, Nat.reduceDiv, Nat.reduceMod, Nat.reducePow, Nat.reduceMul, Int.reduceToNat, Int.reduceLT, Int.reduceLE, keepL]) | refine an2 ?_ | fail)
      refine ⟨(h + 1, e), ⟨⟨by dsimp only; omega, h2⟩, .inr (by rw [Nat.add_sub_cancel, hx]; exact hl), h4⟩, by dsimp only; omega, ?_⟩
      rw [show (P.length : Int) + ((h + 1 : Nat) : Int) = P.length + h + 1 by omega]
    · have hl : lt v x = true := by rw [hcv]; simpa using hb2
      repeat' (first | refine w1g ?_ | refine w1l ?_ | refine w1q ?_ | refine w1b ?_ | refine w1p ?_ | ((first | refine w1r ?_ | refine w1k ?_ | refine w1e ?_); simp (maxSteps := 400000) (disch := omega) only [push_cast, ↓reduceIte, reduceCtorEq, Nat.reduceAdd, Nat.reduceSub, Nat.reduceEqDiff, Nat.reduceLeDiff, Nat.reduceLT, Nat.reduceBEq, Nat.reduceDiv, Nat.reduceMod, Nat.reducePow, Nat.reduceMul, Int.reduceToNat, Int.reduceLT, Int.reduceLE, keepL]) | refine an2 ?_ | fail)
      exact ⟨(c, h), ⟨⟨by dsimp only; omega, by dsimp only; omega⟩, h3, .inr (by rw [hx]; exact hl)⟩, by dsimp only; omega, rfl⟩
  · obtain rfl : c = e := by omega
    have hm := at_one hw sU (0 : Int) v h2 h3 h4
    have hfin : insL P U v c Q = P ++ (mrg lt U [v] ++ Q) := by
      unfold insL
      rw [hm]; simp
    repeat' (first | refine w1g ?_ | refine w1l ?_ | refine w1q ?_ | refine w1b ?_ | refine w1p ?_ | ((first | refine w1r ?_ | refine w1k ?_ | refine w1e ?_); simp (maxSteps := 400000) (disch := omega) only [push_cast, ↓reduceIte, reduceCtorEq, Nat.reduceAdd, Nat.reduceSub, Nat.reduceEqDiff, Nat.reduceLeDiff, Nat.reduceLT, Nat.reduceBEq, Nat.reduceDiv, Nat.reduceMod, Nat.reducePow, Nat.reduceMul, Int.reduceToNat, Int.reduceLT, Int.reduceLE, keepL]) | refine an2 ?_ | fail)
    refine W_loopM (fun i : Nat => [(17, iv ((P.length : Int) + i))]) (fun i => setm M k (rI st (insL P U v i Q))) (fun i => c ≤ i ∧ i ≤ U.length) (fun i => i - c) nx (fun c _ => hfr' _) U.length ⟨h2, Nat.le_refl _⟩ (by rfl) (by rfl) (fun i hi => ?_)
    obtain ⟨hi1, hi2⟩ := hi
    simp (maxSteps := 400000) (disch := omega) only [push_cast, ↓reduceIte, reduceCtorEq, Nat.reduceAdd, Nat.reduceSub, Nat.reduceEqDiff, Nat.reduceLeDiff, Nat.reduceLT, Nat.reduceBEq, Nat.reduceDiv, Nat.reduceMod, Nat.reducePow, Nat.reduceMul, Int.reduceToNat, Int.reduceLT, Int.reduceLE, keepL]
    repeat' (first | refine w1g ?_ | refine w1l ?_ | refine w1q ?_ | refine w1b ?_ | refine w1p ?_ | ((first | refine w1r ?_ | refine w1k ?_ | refine w1e ?_); simp (maxSteps := 400000) (disch := omega) only [push_cast, ↓reduceIte, reduceCtorEq, Nat.reduceAdd, Nat.reduceSub, Nat.reduceEqDiff, Nat.reduceLeDiff, Nat.reduceLT, Nat.reduceBEq, Nat.reduceDiv, Nat.reduceMod, Nat.reducePow, Nat.reduceMul, Int.reduceToNat, Int.reduceLT, Int.reduceLE, keepL]) | refine an2 ?_ | fail)
    refine W_condD (by rfl) (fun h6 => ?_) (fun h6 => ?_)
    · obtain ⟨i', rfl⟩ : ∃ i', i = i' + 1 := ⟨i - 1, by omega⟩
      have hll := insL_len (P := P) (Q := Q) (v := v) hi2
      obtain ⟨q1, q2⟩ := insL_dn (P := P) (Q := Q) (v := v) (0 : Int) (show i' < U.length by omega)
      have hat := insL_at (P := P) (Q := Q) (v := v) (0 : Int) hi2
      have ea : ((P.length : Int) + ((i' : Int) + 1)).toNat = P.length + (i' + 1) := by omega
      have eb : ((P.length : Int) + ((i' : Int) + 1) - 1).toNat = P.length + i' := by omega
      generalize U.getD i' (0 : Int) = y at *
      repeat' (first | refine w1g ?_ | refine w1l ?_ | refine w1q ?_ | refine w1b ?_ | refine w1p ?_ | ((first | refine w1r ?_ | refine w1k ?_ | refine w1e ?_); simp (maxSteps := 400000) (disch := omega) only [push_cast, ↓reduceIte, reduceCtorEq, Nat.reduceAdd, Nat.reduceSub, Nat.reduceEqDiff, Nat.reduceLeDiff, Nat.reduceLT, Nat.reduceBEq, Nat.reduceDiv, Nat.reduceMod, Nat.reducePow, Nat.reduceMul, Int.reduceToNat, Int.reduceLT, Int.reduceLE, keepL, hll, ea, eb, hat, q1, beq_self_eq_true]) | refine an2 ?_ | fail)
      refine ⟨rfl, ⟨by dsimp only; omega, hasM_set _ _ _⟩, by omega, y, rfl, rfl, ?_⟩
      simp (maxSteps := 400000) (disch := omega) only [push_cast, ↓reduceIte, reduceCtorEq, Nat.reduceAdd, Nat.reduceSub, Nat.reduceEqDiff, Nat.reduceLeDiff, Nat.reduceLT, Nat.reduceBEq, Nat.reduceDiv, Nat.reduceMod, Nat.reducePow, Nat.reduceMul, Int.reduceToNat, Int.reduceLT, Int.reduceLE, hll, ea, eb, List.length_set]
      repeat' (first | refine w1g ?_ | refine w1l ?_ | refine w1q ?_ | refine w1b ?_ | refine w1p ?_ | ((first | refine w1r ?_ | refine w1k ?_ | refine w1e ?_); simp (maxSteps := 400000) (disch := omega) only [push_cast, ↓reduceIte, reduceCtorEq, Nat.reduceAdd, Nat.reduceSub, Nat.reduceEqDiff, Nat.reduceLeDiff, Nat.reduceLT, Nat.reduceBEq, Nat.reduceDiv, Nat.reduceMod, Nat.reducePow, Nat.reduceMul, Int.reduceToNat, Int.reduceLT, Int.reduceLE, keepL, hll, ea, eb, List.length_set, beq_self_eq_true]) | refine an2 ?_ | fail)
      refine ⟨rfl, ⟨by dsimp only; omega, hasM_set _ _ _⟩, by omega, v, rfl, rfl, ?_⟩
      rw [q2]
      (refine sy1 ?_; try exact True.intro)
      repeat' (first | refine w1g ?_ | refine w1l ?_ | refine w1q ?_ | refine w1b ?_ | refine w1p ?_ | ((first | refine w1r ?_ | refine w1k ?_ | refine w1e ?_); simp (maxSteps := 400000) (disch := omega) only [push_cast, ↓reduceIte, reduceCtorEq, Nat.reduceAdd, Nat.reduceSub, Nat.reduceEqDiff, Nat.reduceLeDiff, Nat.reduceLT, Nat.reduceBEq, Nat.reduceDiv, Nat.reduceMod, Nat.reducePow, Nat.reduceMul, Int.reduceToNat, Int.reduceLT, Int.reduceLE, keepL]) | refine an2 ?_ | fail)
      refine ⟨i', ⟨by omega, by omega⟩, by omega, ?_, rfl⟩
      rw [show (P.length : Int) + ((i' : Int) + 1) - 1 = P.length + i' by omega]
    · obtain rfl : i = c := by omega
      rw [hfin]
      repeat' (first | refine w1g ?_ | refine w1l ?_ | refine w1q ?_ | refine w1b ?_ | refine w1p ?_ | ((first | refine w1r ?_ | refine w1k ?_ | refine w1e ?_); simp (maxSteps := 400000) (disch := omega) only [push_cast, ↓reduceIte, reduceCtorEq, Nat.reduceAdd, Nat.reduceSub, Nat.reduceEqDiff, Nat.reduceLeDiff, Nat.reduceLT, Nat.reduceBEq, Nat.reduceDiv, Nat.reduceMod, Nat.reducePow, Nat.reduceMul, Int.reduceToNat, Int.reduceLT, Int.reduceLE, keepL]) | refine an2 ?_ | fail)
      exact W_ret ⟨.inr rfl, rfl⟩
end Go.Proofs.Ytoiohkjomcbadaa

namespace Go.Proofs.Ytoiohkjomcbadaa
open Go Sy
set_option maxRecDepth 100000
set_option maxHeartbeats 4000000
set_option linter.unusedVariables false
set_option linter.unusedSimpArgs false
def SymW (ok : Int → Prop) (gc : Nat) (ca : List AV) (lt : Int → Int → Bool) (n : Nat) : Prop :=
  ∀ (P U V Q : List Int), (∀ x ∈ U, ok x) → (∀ x ∈ V, ok x) → U.length + V.length ≤ n → 0 < U.length → 0 < V.length → SrtL lt U → SrtL lt V → P.length + U.length + V.length + Q.length ≤ 1000000 → ∀ (M : List (Nat × Blk)) (k st nx : Nat), k < nx → (∀ j, nx ≤ j → lm M j = none) →
    W Try.prog 220 Xn138_0 ⟨initT 0 [.row k st, iv P.length, iv ((P.length : Int) + U.length), iv ((P.length : Int) + U.length + V.length), .clo gc [] ca], setm M k (rI st (P ++ (U ++ (V ++ Q)))), nx⟩
      (fun e s' => (e = .n ∨ e = .r) ∧ s'.mem = setm M k (rI st (P ++ (mrg lt U V ++ Q))))
theorem i119 {gc : Nat} {ca : List AV} {lt : Int → Int → Bool} {n : Nat} {ok : Int → Prop} (ih : SymW ok gc ca lt n) {s : S} {k st : Nat} {L L' : List Int} (P U V Q : List Int) (okU : ∀ x ∈ U, ok x) (okV : ∀ x ∈ V, ok x) {a b c : Int} {K : AV → S → Prop} (hk : lm s.mem k = some (rI st L)) (hfr : ∀ j, s.nx ≤ j → lm s.mem j = none) (hlen : L.length ≤ 1000000)
    (hn : U.length + V.length ≤ n) (hU : 0 < U.length) (hV : 0 < V.length) (sU : SrtL lt U) (sV : SrtL lt V) (hL : L = P ++ (U ++ (V ++ Q))) (hL' : P ++ (mrg lt U V ++ Q) = L') (ha : a = P.length) (hb : b = P.length + U.length) (hc : c = P.length + U.length + V.length) (hK : K (.tup []) ⟨s.tm, setm s.mem k (rI st L'), s.nx⟩) :
    Inl Try.prog 138 [.row k st, iv a, iv b, iv c, .clo gc [] ca] s K := by
  subst ha hb hc hL'
  subst hL
  simp only [List.length_append] at hlen
  exact Inl_row mixed Xt138 rfl hk hfr (fun M nx h1 h2 => ih P U V Q okU okV hn hU hV sU sV (by omega) M k st nx h1 h2) hK
theorem w119 {gc : Nat} {ca : List AV} {lt : Int → Int → Bool} {cv : Int → Int → Int} (hw : SW lt) (hfz : frzAll ca = true) (hcv : ∀ x y, lt x y = decide (cv x y < 0))
    {ok : Int → Prop} (ok0 : ok 0) (hg : ∀ x y, ok x → ok y → Sy.Fn Try.prog gc (iv x :: iv y :: ca) (iv (cv x y))) : ∀ n, SymW ok gc ca lt n
  | 0 => fun P U V Q _ _ h1 h2 h3 => by omega
  | n + 1 => fun P U V Q okU okV hn hU hV sU sV hlen M k st nx hk hfr => by
    have ih := w119 hw hfz hcv ok0 hg n
    by_cases u1 : U.length = 1
    · obtain ⟨u, rfl⟩ := List.length_eq_one_iff.1 u1
      have := w119a hw hfz hcv ok0 hg P V Q u (okU u (by simp)) okV hV sV (by rw [u1] at hlen; omega) hk hfr (st := st)
      have e : insL P V u 0 Q = P ++ ([u] ++ (V ++ Q)) := by simp [insL]
      rw [e] at this
      exact this
    by_cases v1 : V.length = 1
    · obtain ⟨v, rfl⟩ := List.length_eq_one_iff.1 v1
      have := w119b hw hfz hcv ok0 hg P U Q v (okV v (by simp)) okU (by omega) sU (by rw [v1] at hlen; omega) hk hfr (st := st)
      have e : insL P U v U.length Q = P ++ (U ++ ([v] ++ Q)) := by simp [insL]
      rw [e] at this
      exact this
    have hfr' : ∀ b : Blk, ∀ j, nx ≤ j → lm (setm M k b) j = none := fun b j hj => by rw [lm_set_other _ _ (by omega)]; exact hfr j hj
    obtain ⟨h, hh⟩ : ∃ h, h = (U.length + V.length) / 2 := ⟨_, rfl⟩
    obtain ⟨a, ha⟩ : ∃ a : Int, a = P.length := ⟨_, rfl⟩
    obtain ⟨m, hm⟩ : ∃ m : Int, m = a + U.length := ⟨_, rfl⟩
    obtain ⟨b, hb⟩ : ∃ b : Int, b = m + V.length := ⟨_, rfl⟩
    obtain ⟨mid, hmid⟩ : ∃ mid : Int, mid = a + h := ⟨_, rfl⟩
    obtain ⟨nn, hnn⟩ : ∃ nn : Int, nn = mid + m := ⟨_, rfl⟩
    obtain ⟨pp, hpp⟩ : ∃ pp : Int, pp = nn - 1 := ⟨_, rfl⟩
    obtain ⟨s0, hs0⟩ : ∃ s0, s0 = h - V.length := ⟨_, rfl⟩
    obtain ⟨r0, hr0⟩ : ∃ r0, r0 = min U.length h := ⟨_, rfl⟩
    have w1 : IntKind.u64.wrap (a + b) = a + b := wrapU ⟨by omega, by omega⟩
    have w2 : IntKind.i64.wrap ((a + b) / 2) = mid := by rw [wrap64 ⟨by omega, by omega⟩]; omega
    have e1 : m - a = U.length := by omega
    have e2 : b - m = V.length := by omega
    have hLl : (P ++ (U ++ (V ++ Q))).length = P.length + U.length + V.length + Q.length := by simp only [List.length_append]; omega
    have gU : ∀ c, c < U.length → (P ++ (U ++ (V ++ Q))).getD (P.length + c) (0 : Int) = U.getD c (0 : Int) := fun c hc => get_U (0 : Int) hc
    have gV : ∀ c, c < V.length → (P ++ (U ++ (V ++ Q))).getD (P.length + U.length + c) (0 : Int) = V.getD c (0 : Int) := fun c hc => get_V (0 : Int) hc
    rw [← ha, ← hm, ← hb]
    generalize hL0 : P ++ (U ++ (V ++ Q)) = L0 at *
    simp (maxSteps := 400000) (disch := omega) only [push_cast, ↓reduceIte, reduceCtorEq, Nat.reduceAdd, Nat.reduceSub, Nat.reduceEqDiff, Nat.reduceLeDiff, Nat.reduceLT, Nat.reduceBEq, Nat.reduceDiv, Nat.reduceMod, Nat.reducePow, Nat.reduceMul, Int.reduceToNat, Int.reduceLT, Int.reduceLE, initT]
    repeat' (first | refine w1g ?_ | refine w1l ?_ | refine w1q ?_ | refine w1b ?_ | refine w1p ?_ | ((first | refine w1r ?_ | refine w1k ?_ | refine w1e ?_); simp (maxSteps := 400000) (disch := omega) only [push_cast, ↓reduceIte, reduceCtorEq, Nat.reduceAdd, Nat.reduceSub, Nat.reduceEqDiff, Nat.reduceLeDiff, Nat.reduceLT, Nat.reduceBEq, Nat.reduceDiv, Nat.reduceMod, Nat.reducePow, Nat.reduceMul, Int.reduceToNat, Int.reduceLT, Int.reduceLE, e1]) | refine an2 ?_ | fail)
    refine W_cond (by rfl) (fun hb1 => by simp only [beq_iff_eq] at hb1; omega) (fun _ => ?_)
    repeat' (first | refine w1g ?_ | refine w1l ?_ | refine w1q ?_ | refine w1b ?_ | refine w1p ?_ | ((first | refine w1r ?_ | refine w1k ?_ | refine w1e ?_); simp (maxSteps := 400000) (disch := omega) only [push_cast, ↓reduceIte, reduceCtorEq, Nat.reduceAdd, Nat.reduceSub, Nat.reduceEqDiff, Nat.reduceLeDiff, Nat.reduceLT, Nat.reduceBEq, Nat.reduceDiv, Nat.reduceMod, Nat.reducePow, Nat.reduceMul, Int.reduceToNat, Int.reduceLT, Int.reduceLE, e2]) | refine an2 ?_ | fail)
    refine W_cond (by rfl) (fun hb1 => by simp only [beq_iff_eq] at hb1; omega) (fun _ => ?_)
    repeat' (first | refine w1g ?_ | refine w1l ?_ | refine w1q ?_ | refine w1b ?_ | refine w1p ?_ | ((first | refine w1r ?_ | refine w1k ?_ | refine w1e ?_); simp (maxSteps := 400000) (disch := omega) only [push_cast, ↓reduceIte, reduceCtorEq, Nat.reduceAdd, Nat.reduceSub, Nat.reduceEqDiff, Nat.reduceLeDiff, Nat.reduceLT, Nat.reduceBEq, Nat.reduceDiv, Nat.reduceMod, Nat.reducePow, Nat.reduceMul, Int.reduceToNat, Int.reduceLT, Int.reduceLE, w1, w2, shr1, ← hnn]) | refine an2 ?_ | fail)
    refine W_meetM [(20, iv (a + s0)), (21, iv (a + r0))] (setm M k (rI st L0)) nx (hfr' _) ?_ ?_
    · refine W_condD (by rfl) (fun h5 => ?_) (fun h5 => ?_)
      · have q1 : nn - b = a + s0 := by omega
        have q2 : mid = a + r0 := by omega
        repeat' (first | refine w1g ?_ | refine w1l ?_ | refine w1q ?_ | refine w1b ?_ | refine w1p ?_ | ((first | refine w1r ?_ | refine w1k ?_ | refine w1e ?_); simp (maxSteps := 400000) (disch := omega) only [push_cast, ↓reduceIte, reduceCtorEq, Nat.reduceAdd, Nat.reduceSub, Nat.reduceEqDiff, Nat.reduceLeDiff, Nat.reduceLT, Nat.reduceBEq, Nat.reduceDiv, Nat.reduceMod, Nat.reducePow, Nat.reduceMul, Int.reduceToNat, Int.reduceLT, Int.reduceLE, keepL, q1]) | refine an2 ?_ | fail)
        rw [q2]
      · have q1 : a = a + s0 := by omega
        have q2 : m = a + r0 := by omega
        repeat' (first | refine w1g ?_ | refine w1l ?_ | refine w1q ?_ | refine w1b ?_ | refine w1p ?_ | ((first | refine w1r ?_ | refine w1k ?_ | refine w1e ?_); simp (maxSteps := 400000) (disch := omega) only [push_cast, ↓reduceIte, reduceCtorEq, Nat.reduceAdd, Nat.reduceSub, Nat.reduceEqDiff, Nat.reduceLeDiff, Nat.reduceLT, Nat.reduceBEq, Nat.reduceDiv, Nat.reduceMod, Nat.reducePow, Nat.reduceMul, Int.reduceToNat, Int.reduceLT, Int.reduceLE, keepL]) | refine an2 ?_ | fail)
        rw [← q1, ← q2]
    simp (maxSteps := 400000) (disch := omega) only [push_cast, ↓reduceIte, reduceCtorEq, Nat.reduceAdd, Nat.reduceSub, Nat.reduceEqDiff, Nat.reduceLeDiff, Nat.reduceLT, Nat.reduceBEq, Nat.reduceDiv, Nat.reduceMod, Nat.reducePow, Nat.reduceMul, Int.reduceToNat, Int.reduceLT, Int.reduceLE, keepL]
    repeat' (first | refine w1g ?_ | refine w1l ?_ | refine w1q ?_ | refine w1b ?_ | refine w1p ?_ | ((first | refine w1r ?_ | refine w1k ?_ | refine w1e ?_); simp (maxSteps := 400000) (disch := omega) only [push_cast, ↓reduceIte, reduceCtorEq, Nat.reduceAdd, Nat.reduceSub, Nat.reduceEqDiff, Nat.reduceLeDiff, Nat.reduceLT, Nat.reduceBEq, Nat.reduceDiv, Nat.reduceMod, Nat.reducePow, Nat.reduceMul, Int.reduceToNat, Int.reduceLT, Int.reduceLE, keepL, ← hpp]) | refine an2 ?_ | fail)
    refine W_loopM (fun q : Nat × Nat => [(20, iv (a + q.1)), (21, iv (a + q.2))]) (fun q => setm M k (rI st L0)) (fun q => (s0 ≤ q.1 ∧ q.1 ≤ q.2 ∧ q.2 ≤ r0) ∧ (q.1 = s0 ∨ lt (V.getD (h - q.1) (0 : Int)) (U.getD (q.1 - 1) (0 : Int)) = false) ∧ (q.2 = r0 ∨ lt (V.getD (h - 1 - q.2) (0 : Int)) (U.getD q.2 (0 : Int)) = true)) (fun q => q.2 - q.1) nx (fun c _ => hfr' _) (s0, r0) ⟨⟨Nat.le_refl _, by dsimp only; omega, Nat.le_refl _⟩, .inl rfl, .inl rfl⟩ (by rfl) (by rfl) (fun q hq => ?_)
    obtain ⟨s, r⟩ := q
    obtain ⟨⟨p1, p2, p3⟩, p4, p5⟩ := hq
    simp only at p1 p2 p3 p4 p5
    simp (maxSteps := 400000) (disch := omega) only [push_cast, ↓reduceIte, reduceCtorEq, Nat.reduceAdd, Nat.reduceSub, Nat.reduceEqDiff, Nat.reduceLeDiff, Nat.reduceLT, Nat.reduceBEq, Nat.reduceDiv, Nat.reduceMod, Nat.reducePow, Nat.reduceMul, Int.reduceToNat, Int.reduceLT, Int.reduceLE, keepL]
    repeat' (first | refine w1g ?_ | refine w1l ?_ | refine w1q ?_ | refine w1b ?_ | refine w1p ?_ | ((first | refine w1r ?_ | refine w1k ?_ | refine w1e ?_); simp (maxSteps := 400000) (disch := omega) only [push_cast, ↓reduceIte, reduceCtorEq, Nat.reduceAdd, Nat.reduceSub, Nat.reduceEqDiff, Nat.reduceLeDiff, Nat.reduceLT, Nat.reduceBEq, Nat.reduceDiv, Nat.reduceMod, Nat.reducePow, Nat.reduceMul, Int.reduceToNat, Int.reduceLT, Int.reduceLE, keepL]) | refine an2 ?_ | fail)
    refine W_condD (by rfl) (fun h5 => ?_) (fun h5 => ?_)
    · have hlt : s < r := by omega
      obtain ⟨c, hc⟩ : ∃ c, c = (s + r) / 2 := ⟨_, rfl⟩
      have w3 : IntKind.u64.wrap (a + s + (a + r)) = a + s + (a + r) := wrapU ⟨by omega, by omega⟩
      have w4 : IntKind.i64.wrap ((a + s + (a + r)) / 2) = a + c := by rw [wrap64 ⟨by omega, by omega⟩]; omega
      have et1 : (a + (c : Int)).toNat = P.length + c := by omega
      have et2 : (pp - (a + (c : Int))).toNat = P.length + U.length + (h - 1 - c) := by omega
      have q1 := gU c (by omega)
      have q2 := gV (h - 1 - c) (by omega)
      have cg := hg (V.getD (h - 1 - c) (0 : Int)) (U.getD c (0 : Int)) (getD_ok ok0 okV _) (getD_ok ok0 okU _)
      generalize hx : U.getD c (0 : Int) = x at *
      generalize hy : V.getD (h - 1 - c) (0 : Int) = y at *
      repeat' (first | refine w1g ?_ | refine w1l ?_ | refine w1q ?_ | refine w1b ?_ | refine w1p ?_ | ((first | refine w1r ?_ | refine w1k ?_ | refine w1e ?_ | refine CallC.go _ (fun _ => ⟨trivial, cg⟩) rfl ?_); simp (maxSteps := 400000) (disch := omega) only [push_cast, ↓reduceIte, reduceCtorEq, Nat.reduceAdd, Nat.reduceSub, Nat.reduceEqDiff, Nat.reduceLeDiff, Nat.reduceLT, Nat.reduceBEq, Nat.reduceDiv, Nat.reduceMod, Nat.reducePow, Nat.reduceMul, Int.reduceToNat, Int.reduceLT, Int.reduceLE, keepL, w3, w4, shr1, hLl, et1, et2, q1, q2, hfz, beq_self_eq_true]) | refine an2 ?_ | fail)
      refine W_cond (by rfl) (fun hb2 => ?_) (fun hb2 => ?_)
      · have hl : lt y x = false := by rw [hcv]; simpa using hb2
        repeat' (first | refine w1g ?_ | refine w1l ?_ | refine w1q ?_ | refine w1b ?_ | refine w1p ?_ | ((first | refine w1r ?_ | refine w1k ?_ | refine w1e ?_); simp (maxSteps := 400000) (disch := omega) only [push_cast, ↓reduceIte, reduceCtorEq, Nat.reduceAdd, Nat.reduceSub, Nat.reduceEqDiff, Nat.reduceLeDiff, Nat.reduceLT, Nat.reduceBEq, Nat.reduceDiv, Nat.reduceMod, Nat.reducePow, Nat.reduceMul, Int.reduceToNat, Int.reduceLT, Int.reduceLE, keepL]) | refine an2 ?_ | fail)
        refine ⟨(c + 1, r), ⟨⟨by dsimp only; omega, by dsimp only; omega, p3⟩, .inr (by rw [Nat.add_sub_cancel, hx, show h - (c + 1) = h - 1 - c by omega, hy]; exact hl), p5⟩, by dsimp only; omega, ?_⟩
        rw [show a + ((c + 1 : Nat) : Int) = a + c + 1 by omega]
      · have hl : lt y x = true := by rw [hcv]; simpa using hb2
        repeat' (first | refine w1g ?_ | refine w1l ?_ | refine w1q ?_ | refine w1b ?_ | refine w1p ?_ | ((first | refine w1r ?_ | refine w1k ?_ | refine w1e ?_); simp (maxSteps := 400000) (disch := omega) only [push_cast, ↓reduceIte, reduceCtorEq, Nat.reduceAdd, Nat.reduceSub, Nat.reduceEqDiff, Nat.reduceLeDiff, Nat.reduceLT, Nat.reduceBEq, Nat.reduceDiv, Nat.reduceMod, Nat.reducePow, Nat.reduceMul, Int.reduceToNat, Int.reduceLT, Int.reduceLE, keepL]) | refine an2 ?_ | fail)
        exact ⟨(s, c), ⟨⟨p1, by dsimp only; omega, by dsimp only; omega⟩, p4, .inr (by rw [hx, hy]; exact hl)⟩, by dsimp only; omega, rfl⟩
    · obtain rfl : s = r := by omega
      obtain ⟨e, he⟩ : ∃ e, e = h - s := ⟨_, rfl⟩
      obtain ⟨E, hE⟩ : ∃ E : Int, E = m + e := ⟨_, rfl⟩
      have e3 : nn - (a + (s : Int)) = E := by omega
      have hsp := sym_split hw sU sV (0 : Int) (s := s) (e := e) (by omega) (by omega) (by
        rcases p4 with p4 | p4
        · omega
        · exact .inr (.inr (by rw [he]; exact p4))) (by
        rcases p5 with p5 | p5
        · omega
        · exact .inr (.inr (by rw [he, show h - s - 1 = h - 1 - s by omega]; exact p5)))
      have t1 : (U.take s).length = s := by rw [List.length_take]; omega
      have t2 : (U.drop s).length = U.length - s := List.length_drop
      have t3 : (V.take e).length = e := by rw [List.length_take]; omega
      have t4 : (V.drop e).length = V.length - e := List.length_drop
      have t5 : U.take s ++ U.drop s = U := List.take_append_drop _ _
      have t6 : V.take e ++ V.drop e = V := List.take_append_drop _ _
      have o1 : ∀ x ∈ U.take s, ok x := fun x hx => okU x (List.mem_of_mem_take hx)
      have o2 : ∀ x ∈ U.drop s, ok x := fun x hx => okU x (List.mem_of_mem_drop hx)
      have o3 : ∀ x ∈ V.take e, ok x := fun x hx => okV x (List.mem_of_mem_take hx)
      have o4 : ∀ x ∈ V.drop e, ok x := fun x hx => okV x (List.mem_of_mem_drop hx)
      have t7 := srt_take sU s
      have t8 := srt_drop sU s
      have t9 := srt_take sV e
      have t10 := srt_drop sV e
      generalize U.take s = U1 at *
      generalize U.drop s = U2 at *
      generalize V.take e = V1 at *
      generalize V.drop e = V2 at *
      have m1 : (mrg lt U1 V1).length = U1.length + V1.length := mrg_len _ _
      repeat' (first | refine w1g ?_ | refine w1l ?_ | refine w1q ?_ | refine w1b ?_ | refine w1p ?_ | ((first | refine w1r ?_ | refine w1k ?_ | refine w1e ?_); simp (maxSteps := 400000) (disch := omega) only [push_cast, ↓reduceIte, reduceCtorEq, Nat.reduceAdd, Nat.reduceSub, Nat.reduceEqDiff, Nat.reduceLeDiff, Nat.reduceLT, Nat.reduceBEq, Nat.reduceDiv, Nat.reduceMod, Nat.reducePow, Nat.reduceMul, Int.reduceToNat, Int.reduceLT, Int.reduceLE, keepL, e3]) | refine an2 ?_ | fail)
      refine W_meetM [] (setm M k (rI st (P ++ (U1 ++ (V1 ++ (U2 ++ (V2 ++ Q))))))) nx (hfr' _) ?_ ?_
      · refine W_cond (by rfl) (fun hb3 => ?_) (fun hb3 => ?_)
        · simp only [Bool.and_eq_true, decide_eq_true_eq] at hb3
          repeat' (first | refine w1g ?_ | refine w1l ?_ | refine w1q ?_ | refine w1b ?_ | refine w1p ?_ | ((first | refine w1r ?_ | refine w1k ?_ | refine w1e ?_); simp (maxSteps := 400000) (disch := omega) only [push_cast, ↓reduceIte, reduceCtorEq, Nat.reduceAdd, Nat.reduceSub, Nat.reduceEqDiff, Nat.reduceLeDiff, Nat.reduceLT, Nat.reduceBEq, Nat.reduceDiv, Nat.reduceMod, Nat.reducePow, Nat.reduceMul, Int.reduceToNat, Int.reduceLT, Int.reduceLE, keepL]) | refine an2 ?_ | fail)
          refine CallC.inl (i125 (P ++ U1) U2 V1 (V2 ++ Q) (lm_set_same _ _ _) (fun j hj => hfr' _ j (by dsimp only at hj; omega)) (by omega) (by omega) (by omega) (by rw [← hL0, ← t5, ← t6]; simp) rfl (by rw [List.length_append]; omega) (by rw [List.length_append]; omega) (by rw [List.length_append]; omega) ?_)
          (refine sy1 ?_; try exact True.intro)
          repeat' (first | refine w1g ?_ | refine w1l ?_ | refine w1q ?_ | refine w1b ?_ | refine w1p ?_ | ((first | refine w1r ?_ | refine w1k ?_ | refine w1e ?_); simp (maxSteps := 400000) (disch := omega) only [push_cast, ↓reduceIte, reduceCtorEq, Nat.reduceAdd, Nat.reduceSub, Nat.reduceEqDiff, Nat.reduceLeDiff, Nat.reduceLT, Nat.reduceBEq, Nat.reduceDiv, Nat.reduceMod, Nat.reducePow, Nat.reduceMul, Int.reduceToNat, Int.reduceLT, Int.reduceLE, keepL, List.append_assoc]) | refine an2 ?_ | fail)
          rw [List.append_assoc]
        · simp only [Bool.and_eq_false_iff, decide_eq_false_iff_not] at hb3
          have hL2 : L0 = P ++ (U1 ++ (V1 ++ (U2 ++ (V2 ++ Q)))) := by
            rw [← hL0, ← t5, ← t6]
            by_cases z : U2.length = 0
            · rw [List.length_eq_zero_iff.1 z]; simp
            · have z2 : V1.length = 0 := by omega
              rw [List.length_eq_zero_iff.1 z2]; simp
          repeat' (first | refine w1g ?_ | refine w1l ?_ | refine w1q ?_ | refine w1b ?_ | refine w1p ?_ | ((first | refine w1r ?_ | refine w1k ?_ | refine w1e ?_); simp (maxSteps := 400000) (disch := omega) only [push_cast, ↓reduceIte, reduceCtorEq, Nat.reduceAdd, Nat.reduceSub, Nat.reduceEqDiff, Nat.reduceLeDiff, Nat.reduceLT, Nat.reduceBEq, Nat.reduceDiv, Nat.reduceMod, Nat.reducePow, Nat.reduceMul, Int.reduceToNat, Int.reduceLT, Int.reduceLE, keepL]) | refine an2 ?_ | fail)
          rw [hL2]
      simp (maxSteps := 400000) (disch := omega) only [push_cast, ↓reduceIte, reduceCtorEq, Nat.reduceAdd, Nat.reduceSub, Nat.reduceEqDiff, Nat.reduceLeDiff, Nat.reduceLT, Nat.reduceBEq, Nat.reduceDiv, Nat.reduceMod, Nat.reducePow, Nat.reduceMul, Int.reduceToNat, Int.reduceLT, Int.reduceLE, keepL]
      repeat' (first | refine w1g ?_ | refine w1l ?_ | refine w1q ?_ | refine w1b ?_ | refine w1p ?_ | ((first | refine w1r ?_ | refine w1k ?_ | refine w1e ?_); simp (maxSteps := 400000) (disch := omega) only [push_cast, ↓reduceIte, reduceCtorEq, Nat.reduceAdd, Nat.reduceSub, Nat.reduceEqDiff, Nat.reduceLeDiff, Nat.reduceLT, Nat.reduceBEq, Nat.reduceDiv, Nat.reduceMod, Nat.reducePow, Nat.reduceMul, Int.reduceToNat, Int.reduceLT, Int.reduceLE, keepL]) | refine an2 ?_ | fail)
      refine W_meetM [] (setm M k (rI st (P ++ (mrg lt U1 V1 ++ (U2 ++ (V2 ++ Q)))))) nx (hfr' _) ?_ ?_
      · refine W_cond (by rfl) (fun hb4 => ?_) (fun hb4 => ?_)
        · simp only [Bool.and_eq_true, decide_eq_true_eq] at hb4
          repeat' (first | refine w1g ?_ | refine w1l ?_ | refine w1q ?_ | refine w1b ?_ | refine w1p ?_ | ((first | refine w1r ?_ | refine w1k ?_ | refine w1e ?_); simp (maxSteps := 400000) (disch := omega) only [push_cast, ↓reduceIte, reduceCtorEq, Nat.reduceAdd, Nat.reduceSub, Nat.reduceEqDiff, Nat.reduceLeDiff, Nat.reduceLT, Nat.reduceBEq, Nat.reduceDiv, Nat.reduceMod, Nat.reducePow, Nat.reduceMul, Int.reduceToNat, Int.reduceLT, Int.reduceLE, keepL]) | refine an2 ?_ | fail)
          refine CallC.inl (i119 ih P U1 V1 (U2 ++ (V2 ++ Q)) o1 o3 (lm_set_same _ _ _) (fun j hj => hfr' _ j (by dsimp only at hj; omega)) (by simp only [List.length_append]; omega) (by omega) (by omega) (by omega) t7 t9 rfl rfl (by omega) (by omega) (by omega) ?_)
          (refine sy1 ?_; try exact True.intro)
          repeat' (first | refine w1g ?_ | refine w1l ?_ | refine w1q ?_ | refine w1b ?_ | refine w1p ?_ | ((first | refine w1r ?_ | refine w1k ?_ | refine w1e ?_); simp (maxSteps := 400000) (disch := omega) only [push_cast, ↓reduceIte, reduceCtorEq, Nat.reduceAdd, Nat.reduceSub, Nat.reduceEqDiff, Nat.reduceLeDiff, Nat.reduceLT, Nat.reduceBEq, Nat.reduceDiv, Nat.reduceMod, Nat.reducePow, Nat.reduceMul, Int.reduceToNat, Int.reduceLT, Int.reduceLE, keepL]) | refine an2 ?_ | fail)
        · simp only [Bool.and_eq_false_iff, decide_eq_false_iff_not] at hb4
          have hL3 : mrg lt U1 V1 = U1 ++ V1 := by
            by_cases z : U1.length = 0
            · rw [List.length_eq_zero_iff.1 z, nil_mrg]; rfl
            · have z2 : V1.length = 0 := by omega
              rw [List.length_eq_zero_iff.1 z2, mrg_nil, List.append_nil]
          repeat' (first | refine w1g ?_ | refine w1l ?_ | refine w1q ?_ | refine w1b ?_ | refine w1p ?_ | ((first | refine w1r ?_ | refine w1k ?_ | refine w1e ?_); simp (maxSteps := 400000) (disch := omega) only [push_cast, ↓reduceIte, reduceCtorEq, Nat.reduceAdd, Nat.reduceSub, Nat.reduceEqDiff, Nat.reduceLeDiff, Nat.reduceLT, Nat.reduceBEq, Nat.reduceDiv, Nat.reduceMod, Nat.reducePow, Nat.reduceMul, Int.reduceToNat, Int.reduceLT, Int.reduceLE, keepL]) | refine an2 ?_ | fail)
          rw [hL3, List.append_assoc]
      simp (maxSteps := 400000) (disch := omega) only [push_cast, ↓reduceIte, reduceCtorEq, Nat.reduceAdd, Nat.reduceSub, Nat.reduceEqDiff, Nat.reduceLeDiff, Nat.reduceLT, Nat.reduceBEq, Nat.reduceDiv, Nat.reduceMod, Nat.reducePow, Nat.reduceMul, Int.reduceToNat, Int.reduceLT, Int.reduceLE, keepL]
      repeat' (first | refine w1g ?_ | refine w1l ?_ | refine w1q ?_ | refine w1b ?_ | refine w1p ?_ | ((first | refine w1r ?_ | refine w1k ?_ | refine w1e ?_); simp (maxSteps := 400000) (disch := omega) only [push_cast, ↓reduceIte, reduceCtorEq, Nat.reduceAdd, Nat.reduceSub, Nat.reduceEqDiff, Nat.reduceLeDiff, Nat.reduceLT, Nat.reduceBEq, Nat.reduceDiv, Nat.reduceMod, Nat.reducePow, Nat.reduceMul, Int.reduceToNat, Int.reduceLT, Int.reduceLE, keepL]) | refine an2 ?_ | fail)
      have hfin : P ++ (mrg lt U V ++ Q) = (P ++ mrg lt U1 V1) ++ (mrg lt U2 V2 ++ Q) := by rw [hsp]; simp
      rw [hfin]
      refine W_cond (by rfl) (fun hb4 => ?_) (fun hb4 => ?_)
      · simp only [Bool.and_eq_true, decide_eq_true_eq] at hb4
        repeat' (first | refine w1g ?_ | refine w1l ?_ | refine w1q ?_ | refine w1b ?_ | refine w1p ?_ | ((first | refine w1r ?_ | refine w1k ?_ | refine w1e ?_); simp (maxSteps := 400000) (disch := omega) only [push_cast, ↓reduceIte, reduceCtorEq, Nat.reduceAdd, Nat.reduceSub, Nat.reduceEqDiff, Nat.reduceLeDiff, Nat.reduceLT, Nat.reduceBEq, Nat.reduceDiv, Nat.reduceMod, Nat.reducePow, Nat.reduceMul, Int.reduceToNat, Int.reduceLT, Int.reduceLE, keepL]) | refine an2 ?_ | fail)
        refine CallC.inl (i119 ih (P ++ mrg lt U1 V1) U2 V2 Q o2 o4 (lm_set_same _ _ _) (fun j hj => hfr' _ j (by dsimp only at hj; omega)) (by simp only [List.length_append]; omega) (by omega) (by omega) (by omega) t8 t10 (by simp) rfl (by rw [List.length_append]; omega) (by rw [List.length_append]; omega) (by rw [List.length_append]; omega) ?_)
        (refine sy1 ?_; try exact True.intro)
        repeat' (first | refine w1g ?_ | refine w1l ?_ | refine w1q ?_ | refine w1b ?_ | refine w1p ?_ | ((first | refine w1r ?_ | refine w1k ?_ | refine w1e ?_); simp (maxSteps := 400000) (disch := omega) only [push_cast, ↓reduceIte, reduceCtorEq, Nat.reduceAdd, Nat.reduceSub, Nat.reduceEqDiff, Nat.reduceLeDiff, Nat.reduceLT, Nat.reduceBEq, Nat.reduceDiv, Nat.reduceMod, Nat.reducePow, Nat.reduceMul, Int.reduceToNat, Int.reduceLT, Int.reduceLE, keepL]) | refine an2 ?_ | fail)
      · simp only [Bool.and_eq_false_iff, decide_eq_false_iff_not] at hb4
        have hL3 : mrg lt U2 V2 = U2 ++ V2 := by
          by_cases z : U2.length = 0
          · rw [List.length_eq_zero_iff.1 z, nil_mrg]; rfl
          · have z2 : V2.length = 0 := by omega
            rw [List.length_eq_zero_iff.1 z2, mrg_nil, List.append_nil]
        rw [hL3]
        repeat' (first | refine w1g ?_ | refine w1l ?_ | refine w1q ?_ | refine w1b ?_ | refine w1p ?_ | ((first | refine w1r ?_ | refine w1k ?_ | refine w1e ?_); simp (maxSteps := 400000) (disch := omega) only [push_cast, ↓reduceIte, reduceCtorEq, Nat.reduceAdd, Nat.reduceSub, Nat.reduceEqDiff, Nat.reduceLeDiff, Nat.reduceLT, Nat.reduceBEq, Nat.reduceDiv, Nat.reduceMod, Nat.reducePow, Nat.reduceMul, Int.reduceToNat, Int.reduceLT, Int.reduceLE, keepL]) | refine an2 ?_ | fail)
        simp only [List.append_assoc]
end Go.Proofs.Ytoiohkjomcbadaa

namespace Go.Proofs.Ytoiohkjomcbadaa
open Go Sy
set_option maxRecDepth 100000
set_option maxHeartbeats 4000000
set_option linter.unusedVariables false
set_option linter.unusedSimpArgs false
theorem i118 {gc : Nat} {ca : List AV} {lt : Int → Int → Bool} {cv : Int → Int → Int} (hw : SW lt) (hfz : frzAll ca = true) (hcv : ∀ x y, lt x y = decide (cv x y < 0))
    {ok : Int → Prop} (ok0 : ok 0) (hg : ∀ x y, ok x → ok y → Sy.Fn Try.prog gc (iv x :: iv y :: ca) (iv (cv x y))) {s : S} {k st : Nat} {L L' : List Int} (P U Q : List Int) (okP : ∀ x ∈ P, ok x) (okU : ∀ x ∈ U, ok x) (okQ : ∀ x ∈ Q, ok x) {a b : Int} {K : AV → S → Prop} (hk : lm s.mem k = some (rI st L)) (hfr : ∀ j, s.nx ≤ j → lm s.mem j = none) (hlen : L.length ≤ 1000000)
    (hL : L = P ++ (U ++ Q)) (hL' : P ++ (isort lt U ++ Q) = L') (ha : a = P.length) (hb : b = P.length + U.length) (hK : K (.tup []) ⟨s.tm, setm s.mem k (rI st L'), s.nx⟩) :
    Inl Try.prog 137 [.row k st, iv a, iv b, .clo gc [] ca] s K := by
  subst ha hb hL'
  subst hL
  simp only [List.length_append] at hlen
  exact Inl_row mixed Xt137 rfl hk hfr (fun M nx h1 h2 => w118 hw hfz hcv ok0 hg P U Q okP okU okQ (by omega) h1 h2) hK
theorem chS_mem {lt : Int → Int → Bool} {n : Nat} (hn : 0 < n) {x : Int} : ∀ (k : Nat) (l : List Int), l.length ≤ k → (x ∈ chS lt n l ↔ x ∈ l)
  | 0, l, h => by rw [chS_one (by omega), isort_mem]
  | k + 1, l, h => by
    by_cases q : l.length ≤ n
    · rw [chS_one q, isort_mem]
    · rw [chS_eq hn, List.mem_append, isort_mem, chS_mem hn k _ (by rw [List.length_drop]; omega), ← List.mem_append, List.take_append_drop]
theorem w103 {M : List (Nat × Blk)} {k st nx : Nat} {gc : Nat} {ca : List AV} {lt : Int → Int → Bool} {cv : Int → Int → Int} (hw : SW lt) (hfz : frzAll ca = true) (hcv : ∀ x y, lt x y = decide (cv x y < 0))
    {ok : Int → Prop} (ok0 : ok 0) (hg : ∀ x y, ok x → ok y → Sy.Fn Try.prog gc (iv x :: iv y :: ca) (iv (cv x y))) (L : List Int) (okL : ∀ x ∈ L, ok x) (hlen : L.length ≤ 1000000) (hk : k < nx) (hfr : ∀ j, nx ≤ j → lm M j = none) :
    W Try.prog 63 Xn126_0 ⟨initT 0 [.row k st, iv L.length, .clo gc [] ca], setm M k (rI st L), nx⟩
      (fun e s' => (e = .n ∨ e = .r) ∧ s'.mem = setm M k (rI st (isort lt L))) := by
  have hfr' : ∀ b : Blk, ∀ j, nx ≤ j → lm (setm M k b) j = none := fun b j hj => by rw [lm_set_other _ _ (by omega)]; exact hfr j hj
  have hsym := w119 hw hfz hcv ok0 hg L.length
  simp (maxSteps := 400000) (disch := omega) only [push_cast, ↓reduceIte, reduceCtorEq, Nat.reduceAdd, Nat.reduceSub, Nat.reduceEqDiff, Nat.reduceLeDiff, Nat.reduceLT, Nat.reduceBEq, Nat.reduceDiv, Nat.reduceMod, Nat.reducePow, Nat.reduceMul, Int.reduceToNat, Int.reduceLT, Int.reduceLE, initT]
  repeat' (first | refine w1g ?_ | refine w1l ?_ | refine w1q ?_ | refine w1b ?_ | refine w1p ?_ | ((first | refine w1r ?_ | refine w1k ?_ | refine w1e ?_); (refine sy1 ?_; try exact True.intro)) | refine an2 ?_ | fail)
  refine W_loopM (fun q : List Int × List Int => [(7, iv q.1.length), (8, iv ((q.1.length : Int) + 20))]) (fun q => setm M k (rI st (q.1 ++ q.2))) (fun q => q.1.length + q.2.length = L.length ∧ q.1 ++ chS lt 20 q.2 = chS lt 20 L) (fun q => q.2.length) nx (fun c _ => hfr' _) ([], L) ⟨by simp, by simp⟩ (by rfl) (by rfl) (fun q hq => ?_)
  obtain ⟨A, R⟩ := q
  obtain ⟨h1, h2⟩ := hq
  simp only at h1 h2
  have okA : ∀ x ∈ A, ok x := fun x hx => okL x ((chS_mem (lt := lt) (n := 20) (by omega) L.length L (Nat.le_refl _)).1 (by rw [← h2]; exact List.mem_append_left _ hx))
  have okR : ∀ x ∈ R, ok x := fun x hx => okL x ((chS_mem (lt := lt) (n := 20) (by omega) L.length L (Nat.le_refl _)).1 (by rw [← h2]; exact List.mem_append_right _ ((chS_mem (by omega) R.length R (Nat.le_refl _)).2 hx)))
  simp (maxSteps := 400000) (disch := omega) only [push_cast, ↓reduceIte, reduceCtorEq, Nat.reduceAdd, Nat.reduceSub, Nat.reduceEqDiff, Nat.reduceLeDiff, Nat.reduceLT, Nat.reduceBEq, Nat.reduceDiv, Nat.reduceMod, Nat.reducePow, Nat.reduceMul, Int.reduceToNat, Int.reduceLT, Int.reduceLE, keepL]
  repeat' (first | refine w1g ?_ | refine w1l ?_ | refine w1q ?_ | refine w1b ?_ | refine w1p ?_ | ((first | refine w1r ?_ | refine w1k ?_ | refine w1e ?_); simp (maxSteps := 400000) (disch := omega) only [push_cast, ↓reduceIte, reduceCtorEq, Nat.reduceAdd, Nat.reduceSub, Nat.reduceEqDiff, Nat.reduceLeDiff, Nat.reduceLT, Nat.reduceBEq, Nat.reduceDiv, Nat.reduceMod, Nat.reducePow, Nat.reduceMul, Int.reduceToNat, Int.reduceLT, Int.reduceLE, keepL]) | refine an2 ?_ | fail)
  refine W_condD (by rfl) (fun h5 => ?_) (fun h5 => ?_)
  · have hR : 20 ≤ R.length := by omega
    have t1 : (R.take 20).length = 20 := by rw [List.length_take]; omega
    have t2 : (R.drop 20).length = R.length - 20 := List.length_drop
    have t3 : (isort lt (R.take 20)).length = 20 := by rw [isort_len, t1]
    have hch := chS_eq (lt := lt) (n := 20) (by omega) R
    repeat' (first | refine w1g ?_ | refine w1l ?_ | refine w1q ?_ | refine w1b ?_ | refine w1p ?_ | ((first | refine w1r ?_ | refine w1k ?_ | refine w1e ?_); simp (maxSteps := 400000) (disch := omega) only [push_cast, ↓reduceIte, reduceCtorEq, Nat.reduceAdd, Nat.reduceSub, Nat.reduceEqDiff, Nat.reduceLeDiff, Nat.reduceLT, Nat.reduceBEq, Nat.reduceDiv, Nat.reduceMod, Nat.reducePow, Nat.reduceMul, Int.reduceToNat, Int.reduceLT, Int.reduceLE, keepL]) | refine an2 ?_ | fail)
    refine CallC.inl (i118 hw hfz hcv ok0 hg A (R.take 20) (R.drop 20) okA (fun x hx => okR x (List.mem_of_mem_take hx)) (fun x hx => okR x (List.mem_of_mem_drop hx)) (lm_set_same _ _ _) (fun j hj => hfr' _ j (by dsimp only at hj; omega)) (by rw [List.length_append]; omega) (by rw [List.take_append_drop]) rfl (by omega) (by omega) ?_)
    (refine sy1 ?_; try exact True.intro)
    repeat' (first | refine w1g ?_ | refine w1l ?_ | refine w1q ?_ | refine w1b ?_ | refine w1p ?_ | ((first | refine w1r ?_ | refine w1k ?_ | refine w1e ?_); simp (maxSteps := 400000) (disch := omega) only [push_cast, ↓reduceIte, reduceCtorEq, Nat.reduceAdd, Nat.reduceSub, Nat.reduceEqDiff, Nat.reduceLeDiff, Nat.reduceLT, Nat.reduceBEq, Nat.reduceDiv, Nat.reduceMod, Nat.reducePow, Nat.reduceMul, Int.reduceToNat, Int.reduceLT, Int.reduceLE, keepL]) | refine an2 ?_ | fail)
    have t4 : (A ++ isort lt (R.take 20)).length = A.length + 20 := by rw [List.length_append, t3]
    refine ⟨(A ++ isort lt (R.take 20), R.drop 20), ⟨by dsimp only; omega, ?_⟩, by dsimp only; omega, ?_, ?_⟩
    · dsimp only
      rw [← h2, hch, List.append_assoc]
    · dsimp only
      rw [t4]; rfl
    · dsimp only
      rw [List.append_assoc]
  · have hR : R.length < 20 := by omega
    have hch : chS lt 20 R = isort lt R := chS_one (by omega)
    repeat' (first | refine w1g ?_ | refine w1l ?_ | refine w1q ?_ | refine w1b ?_ | refine w1p ?_ | ((first | refine w1r ?_ | refine w1k ?_ | refine w1e ?_); simp (maxSteps := 400000) (disch := omega) only [push_cast, ↓reduceIte, reduceCtorEq, Nat.reduceAdd, Nat.reduceSub, Nat.reduceEqDiff, Nat.reduceLeDiff, Nat.reduceLT, Nat.reduceBEq, Nat.reduceDiv, Nat.reduceMod, Nat.reducePow, Nat.reduceMul, Int.reduceToNat, Int.reduceLT, Int.reduceLE, keepL]) | refine an2 ?_ | fail)
    refine CallC.inl (i118 hw hfz hcv ok0 hg A R [] okA okR (fun x hx => by cases hx) (lm_set_same _ _ _) (fun j hj => hfr' _ j (by dsimp only at hj; omega)) (by rw [List.length_append]; omega) (by rw [List.append_nil]) (L' := chS lt 20 L) (by rw [← h2, hch, List.append_nil]) (by omega) (by omega) ?_)
    (refine sy1 ?_; try exact True.intro)
    repeat' (first | refine w1g ?_ | refine w1l ?_ | refine w1q ?_ | refine w1b ?_ | refine w1p ?_ | ((first | refine w1r ?_ | refine w1k ?_ | refine w1e ?_); simp (maxSteps := 400000) (disch := omega) only [push_cast, ↓reduceIte, reduceCtorEq, Nat.reduceAdd, Nat.reduceSub, Nat.reduceEqDiff, Nat.reduceLeDiff, Nat.reduceLT, Nat.reduceBEq, Nat.reduceDiv, Nat.reduceMod, Nat.reducePow, Nat.reduceMul, Int.reduceToNat, Int.reduceLT, Int.reduceLE, keepL]) | refine an2 ?_ | fail)
    refine W_loopM (fun q : Nat => [(6, iv q)]) (fun q => setm M k (rI st (chS lt q L))) (fun q => 20 ≤ q ∧ (q = 20 ∨ q ≤ 2 * L.length)) (fun q => L.length - q) nx (fun c _ => hfr' _) 20 ⟨by omega, .inl rfl⟩ (by rfl) (by rfl) (fun q hq => ?_)
    obtain ⟨g1, g2⟩ := hq
    simp (maxSteps := 400000) (disch := omega) only [push_cast, ↓reduceIte, reduceCtorEq, Nat.reduceAdd, Nat.reduceSub, Nat.reduceEqDiff, Nat.reduceLeDiff, Nat.reduceLT, Nat.reduceBEq, Nat.reduceDiv, Nat.reduceMod, Nat.reducePow, Nat.reduceMul, Int.reduceToNat, Int.reduceLT, Int.reduceLE, keepL]
    repeat' (first | refine w1g ?_ | refine w1l ?_ | refine w1q ?_ | refine w1b ?_ | refine w1p ?_ | ((first | refine w1r ?_ | refine w1k ?_ | refine w1e ?_); simp (maxSteps := 400000) (disch := omega) only [push_cast, ↓reduceIte, reduceCtorEq, Nat.reduceAdd, Nat.reduceSub, Nat.reduceEqDiff, Nat.reduceLeDiff, Nat.reduceLT, Nat.reduceBEq, Nat.reduceDiv, Nat.reduceMod, Nat.reducePow, Nat.reduceMul, Int.reduceToNat, Int.reduceLT, Int.reduceLE, keepL]) | refine an2 ?_ | fail)
    refine W_condD (by rfl) (fun h6 => ?_) (fun h6 => ?_)
    · have hqL : q < L.length := by omega
      repeat' (first | refine w1g ?_ | refine w1l ?_ | refine w1q ?_ | refine w1b ?_ | refine w1p ?_ | ((first | refine w1r ?_ | refine w1k ?_ | refine w1e ?_); simp (maxSteps := 400000) (disch := omega) only [push_cast, ↓reduceIte, reduceCtorEq, Nat.reduceAdd, Nat.reduceSub, Nat.reduceEqDiff, Nat.reduceLeDiff, Nat.reduceLT, Nat.reduceBEq, Nat.reduceDiv, Nat.reduceMod, Nat.reducePow, Nat.reduceMul, Int.reduceToNat, Int.reduceLT, Int.reduceLE, keepL]) | refine an2 ?_ | fail)
      refine W_loopM (fun p : List Int × List Int => [(7, iv p.1.length), (8, iv ((p.1.length : Int) + 2 * q))]) (fun p => setm M k (rI st (p.1 ++ chS lt q p.2))) (fun p => p.1.length + p.2.length = L.length ∧ p.1 ++ chS lt (2 * q) p.2 = chS lt (2 * q) L) (fun p => p.2.length) nx (fun c _ => hfr' _) ([], L) ⟨by simp, by simp⟩ (by
        have : ((([] : List Int).length : Int) + 2 * q) = 2 * q := by simp
        dsimp only
        rw [this]; rfl) (by rfl) (fun p hp => ?_)
      clear h1 h2 h5 hR hch okA okR A R
      obtain ⟨A, R⟩ := p
      obtain ⟨h1, h2⟩ := hp
      simp only at h1 h2
      have okR : ∀ x ∈ R, ok x := fun x hx => okL x ((chS_mem (lt := lt) (n := 2 * q) (by omega) L.length L (Nat.le_refl _)).1 (by rw [← h2]; exact List.mem_append_right _ ((chS_mem (by omega) R.length R (Nat.le_refl _)).2 hx)))
      have hcl : (A ++ chS lt q R).length = L.length := by rw [List.length_append, chS_len (by omega) R.length R (Nat.le_refl _)]; exact h1
      simp (maxSteps := 400000) (disch := omega) only [push_cast, ↓reduceIte, reduceCtorEq, Nat.reduceAdd, Nat.reduceSub, Nat.reduceEqDiff, Nat.reduceLeDiff, Nat.reduceLT, Nat.reduceBEq, Nat.reduceDiv, Nat.reduceMod, Nat.reducePow, Nat.reduceMul, Int.reduceToNat, Int.reduceLT, Int.reduceLE, keepL]
      repeat' (first | refine w1g ?_ | refine w1l ?_ | refine w1q ?_ | refine w1b ?_ | refine w1p ?_ | ((first | refine w1r ?_ | refine w1k ?_ | refine w1e ?_); simp (maxSteps := 400000) (disch := omega) only [push_cast, ↓reduceIte, reduceCtorEq, Nat.reduceAdd, Nat.reduceSub, Nat.reduceEqDiff, Nat.reduceLeDiff, Nat.reduceLT, Nat.reduceBEq, Nat.reduceDiv, Nat.reduceMod, Nat.reducePow, Nat.reduceMul, Int.reduceToNat, Int.reduceLT, Int.reduceLE, keepL]) | refine an2 ?_ | fail)
      refine W_condD (by rfl) (fun h7 => ?_) (fun h7 => ?_)
      · have hR : 2 * q ≤ R.length := by omega
        have c1 := chS_eq (lt := lt) (n := q) (by omega) R
        have c2 := chS_eq (lt := lt) (n := q) (by omega) (R.drop q)
        have c3 := chS_eq (lt := lt) (n := 2 * q) (by omega) R
        have c4 : R.take q ++ (R.drop q).take q = R.take (2 * q) := by rw [Nat.two_mul, List.take_add]
        have c5 : (R.drop q).drop q = R.drop (2 * q) := by rw [List.drop_drop, Nat.two_mul]
        have l1 : (isort lt (R.take q)).length = q := by rw [isort_len, List.length_take]; omega
        have l2 : (isort lt ((R.drop q).take q)).length = q := by rw [isort_len, List.length_take, List.length_drop]; omega
        have l3 : (isort lt (R.take (2 * q))).length = 2 * q := by rw [isort_len, List.length_take]; omega
        have l4 : (R.drop (2 * q)).length = R.length - 2 * q := List.length_drop
        have c6 := mrg_isort hw (R.take q) ((R.drop q).take q)
        have s1 := srt_isort hw (R.take q)
        have s2 := srt_isort hw ((R.drop q).take q)
        rw [c4] at c6
        rw [c5] at c2
        rw [c2] at c1
        repeat' (first | refine w1g ?_ | refine w1l ?_ | refine w1q ?_ | refine w1b ?_ | refine w1p ?_ | ((first | refine w1r ?_ | refine w1k ?_ | refine w1e ?_); simp (maxSteps := 400000) (disch := omega) only [push_cast, ↓reduceIte, reduceCtorEq, Nat.reduceAdd, Nat.reduceSub, Nat.reduceEqDiff, Nat.reduceLeDiff, Nat.reduceLT, Nat.reduceBEq, Nat.reduceDiv, Nat.reduceMod, Nat.reducePow, Nat.reduceMul, Int.reduceToNat, Int.reduceLT, Int.reduceLE, keepL]) | refine an2 ?_ | fail)
        refine CallC.inl (i119 hsym A (isort lt (R.take q)) (isort lt ((R.drop q).take q)) (chS lt q (R.drop (2 * q))) (fun x hx => okR x (List.mem_of_mem_take ((isort_mem _).1 hx))) (fun x hx => okR x (List.mem_of_mem_drop (List.mem_of_mem_take ((isort_mem _).1 hx)))) (lm_set_same _ _ _) (fun j hj => hfr' _ j (by dsimp only at hj; omega)) (by omega) (by omega) (by omega) (by omega) s1 s2 (by rw [c1]) rfl (by omega) (by omega) (by omega) ?_)
        rw [c6]
        (refine sy1 ?_; try exact True.intro)
        repeat' (first | refine w1g ?_ | refine w1l ?_ | refine w1q ?_ | refine w1b ?_ | refine w1p ?_ | ((first | refine w1r ?_ | refine w1k ?_ | refine w1e ?_); simp (maxSteps := 400000) (disch := omega) only [push_cast, ↓reduceIte, reduceCtorEq, Nat.reduceAdd, Nat.reduceSub, Nat.reduceEqDiff, Nat.reduceLeDiff, Nat.reduceLT, Nat.reduceBEq, Nat.reduceDiv, Nat.reduceMod, Nat.reducePow, Nat.reduceMul, Int.reduceToNat, Int.reduceLT, Int.reduceLE, keepL]) | refine an2 ?_ | fail)
        have t4 : (A ++ isort lt (R.take (2 * q))).length = A.length + 2 * q := by rw [List.length_append, l3]
        refine ⟨(A ++ isort lt (R.take (2 * q)), R.drop (2 * q)), ⟨by dsimp only; omega, ?_⟩, by dsimp only; omega, ?_, ?_⟩
        · dsimp only
          rw [← h2, c3, List.append_assoc]
        · dsimp only
          rw [t4]
          have e1 : ((A.length + 2 * q : Nat) : Int) = A.length + 2 * q := by omega
          rw [e1]
        · dsimp only
          rw [List.append_assoc]
      · have hR : R.length < 2 * q := by omega
        have c3 : chS lt (2 * q) R = isort lt R := chS_one (by omega)
        rw [c3] at h2
        repeat' (first | refine w1g ?_ | refine w1l ?_ | refine w1q ?_ | refine w1b ?_ | refine w1p ?_ | ((first | refine w1r ?_ | refine w1k ?_ | refine w1e ?_); simp (maxSteps := 400000) (disch := omega) only [push_cast, ↓reduceIte, reduceCtorEq, Nat.reduceAdd, Nat.reduceSub, Nat.reduceEqDiff, Nat.reduceLeDiff, Nat.reduceLT, Nat.reduceBEq, Nat.reduceDiv, Nat.reduceMod, Nat.reducePow, Nat.reduceMul, Int.reduceToNat, Int.reduceLT, Int.reduceLE, keepL]) | refine an2 ?_ | fail)
        refine W_meetM [] (setm M k (rI st (chS lt (2 * q) L))) nx (hfr' _) ?_ ?_
        · refine W_condD (by rfl) (fun h8 => ?_) (fun h8 => ?_)
          · have hR2 : q < R.length := by omega
            have c1 := chS_eq (lt := lt) (n := q) (by omega) R
            have l0 : (R.drop q).length = R.length - q := List.length_drop
            have c2 : chS lt q (R.drop q) = isort lt (R.drop q) := chS_one (by omega)
            have l1 : (isort lt (R.take q)).length = q := by rw [isort_len, List.length_take]; omega
            have l2 : (isort lt (R.drop q)).length = R.length - q := by rw [isort_len, l0]
            have c6 := mrg_isort hw (R.take q) (R.drop q)
            rw [List.take_append_drop] at c6
            have s1 := srt_isort hw (R.take q)
            have s2 := srt_isort hw (R.drop q)
            rw [c2] at c1
            repeat' (first | refine w1g ?_ | refine w1l ?_ | refine w1q ?_ | refine w1b ?_ | refine w1p ?_ | ((first | refine w1r ?_ | refine w1k ?_ | refine w1e ?_); simp (maxSteps := 400000) (disch := omega) only [push_cast, ↓reduceIte, reduceCtorEq, Nat.reduceAdd, Nat.reduceSub, Nat.reduceEqDiff, Nat.reduceLeDiff, Nat.reduceLT, Nat.reduceBEq, Nat.reduceDiv, Nat.reduceMod, Nat.reducePow, Nat.reduceMul, Int.reduceToNat, Int.reduceLT, Int.reduceLE, keepL]) | refine an2 ?_ | fail)
            refine CallC.inl (i119 hsym A (isort lt (R.take q)) (isort lt (R.drop q)) [] (fun x hx => okR x (List.mem_of_mem_take ((isort_mem _).1 hx))) (fun x hx => okR x (List.mem_of_mem_drop ((isort_mem _).1 hx))) (lm_set_same _ _ _) (fun j hj => hfr' _ j (by dsimp only at hj; omega)) (by omega) (by omega) (by omega) (by omega) s1 s2 (by rw [c1, List.append_nil]) (L' := chS lt (2 * q) L) (by rw [c6, List.append_nil]; exact h2) (by omega) (by omega) (by omega) ?_)
            (refine sy1 ?_; try exact True.intro)
            repeat' (first | refine w1g ?_ | refine w1l ?_ | refine w1q ?_ | refine w1b ?_ | refine w1p ?_ | ((first | refine w1r ?_ | refine w1k ?_ | refine w1e ?_); simp (maxSteps := 400000) (disch := omega) only [push_cast, ↓reduceIte, reduceCtorEq, Nat.reduceAdd, Nat.reduceSub, Nat.reduceEqDiff, Nat.reduceLeDiff, Nat.reduceLT, Nat.reduceBEq, Nat.reduceDiv, Nat.reduceMod, Nat.reducePow, Nat.reduceMul, Int.reduceToNat, Int.reduceLT, Int.reduceLE, keepL]) | refine an2 ?_ | fail)
          · have hR2 : R.length ≤ q := by omega
            have c1 : chS lt q R = isort lt R := chS_one hR2
            rw [c1, h2]
            repeat' (first | refine w1g ?_ | refine w1l ?_ | refine w1q ?_ | refine w1b ?_ | refine w1p ?_ | ((first | refine w1r ?_ | refine w1k ?_ | refine w1e ?_); simp (maxSteps := 400000) (disch := omega) only [push_cast, ↓reduceIte, reduceCtorEq, Nat.reduceAdd, Nat.reduceSub, Nat.reduceEqDiff, Nat.reduceLeDiff, Nat.reduceLT, Nat.reduceBEq, Nat.reduceDiv, Nat.reduceMod, Nat.reducePow, Nat.reduceMul, Int.reduceToNat, Int.reduceLT, Int.reduceLE, keepL]) | refine an2 ?_ | fail)
        simp (maxSteps := 400000) (disch := omega) only [push_cast, ↓reduceIte, reduceCtorEq, Nat.reduceAdd, Nat.reduceSub, Nat.reduceEqDiff, Nat.reduceLeDiff, Nat.reduceLT, Nat.reduceBEq, Nat.reduceDiv, Nat.reduceMod, Nat.reducePow, Nat.reduceMul, Int.reduceToNat, Int.reduceLT, Int.reduceLE, keepL]
        repeat' (first | refine w1g ?_ | refine w1l ?_ | refine w1q ?_ | refine w1b ?_ | refine w1p ?_ | ((first | refine w1r ?_ | refine w1k ?_ | refine w1e ?_); simp (maxSteps := 400000) (disch := omega) only [push_cast, ↓reduceIte, reduceCtorEq, Nat.reduceAdd, Nat.reduceSub, Nat.reduceEqDiff, Nat.reduceLeDiff, Nat.reduceLT, Nat.reduceBEq, Nat.reduceDiv, Nat.reduceMod, Nat.reducePow, Nat.reduceMul, Int.reduceToNat, Int.reduceLT, Int.reduceLE, keepL]) | refine an2 ?_ | fail)
        refine ⟨2 * q, ⟨by omega, .inr (by omega)⟩, by omega, ?_, rfl⟩
        rw [show ((2 * q : Nat) : Int) = q * 2 by omega]
    · have hqL : chS lt q L = isort lt L := chS_one (by omega)
      rw [hqL]
      repeat' (first | refine w1g ?_ | refine w1l ?_ | refine w1q ?_ | refine w1b ?_ | refine w1p ?_ | ((first | refine w1r ?_ | refine w1k ?_ | refine w1e ?_); simp (maxSteps := 400000) (disch := omega) only [push_cast, ↓reduceIte, reduceCtorEq, Nat.reduceAdd, Nat.reduceSub, Nat.reduceEqDiff, Nat.reduceLeDiff, Nat.reduceLT, Nat.reduceBEq, Nat.reduceDiv, Nat.reduceMod, Nat.reducePow, Nat.reduceMul, Int.reduceToNat, Int.reduceLT, Int.reduceLE, keepL]) | refine an2 ?_ | fail)
theorem i77 {gc : Nat} {ca : List AV} {lt : Int → Int → Bool} {cv : Int → Int → Int} (hw : SW lt) (hfz : frzAll ca = true) (hcv : ∀ x y, lt x y = decide (cv x y < 0))
    {ok : Int → Prop} (ok0 : ok 0) (hg : ∀ x y, ok x → ok y → Sy.Fn Try.prog gc (iv x :: iv y :: ca) (iv (cv x y))) {s : S} {k st : Nat} {L : List Int} (okL : ∀ x ∈ L, ok x) {K : AV → S → Prop} (hk : lm s.mem k = some (rI st L)) (hfr : ∀ j, s.nx ≤ j → lm s.mem j = none) (hlen : L.length ≤ 1000000)
    (hK : K (.tup []) ⟨s.tm, setm s.mem k (rI st (isort lt L)), s.nx⟩) : Inl Try.prog 97 [.row k st, .clo gc [] ca] s K := by
  refine Inl_row mixed Xt97 rfl hk hfr (fun M nx h1 h2 => ?_) hK
  have hfr' : ∀ b : Blk, ∀ j, nx ≤ j → lm (setm M k b) j = none := fun b j hj => by rw [lm_set_other _ _ (by omega)]; exact h2 j hj
  simp (maxSteps := 400000) (disch := omega) only [push_cast, ↓reduceIte, reduceCtorEq, Nat.reduceAdd, Nat.reduceSub, Nat.reduceEqDiff, Nat.reduceLeDiff, Nat.reduceLT, Nat.reduceBEq, Nat.reduceDiv, Nat.reduceMod, Nat.reducePow, Nat.reduceMul, Int.reduceToNat, Int.reduceLT, Int.reduceLE, initT]
  repeat' (first | refine w1g ?_ | refine w1l ?_ | refine w1q ?_ | refine w1b ?_ | refine w1p ?_ | ((first | refine w1r ?_ | refine w1k ?_ | refine w1e ?_); (refine sy1 ?_; try exact True.intro)) | refine an2 ?_ | fail)
  refine CallC.inl (Inl_row mixed Xt126 rfl (lm_set_same _ _ _) (fun j hj => hfr' _ j (by dsimp only at hj; omega)) (fun M' nx' h1 h2 => w103 hw hfz hcv ok0 hg L okL hlen h1 h2) ?_)
  (refine sy1 ?_; try exact True.intro)
  repeat' (first | refine w1g ?_ | refine w1l ?_ | refine w1q ?_ | refine w1b ?_ | refine w1p ?_ | ((first | refine w1r ?_ | refine w1k ?_ | refine w1e ?_); simp (maxSteps := 400000) (disch := omega) only [push_cast, ↓reduceIte, reduceCtorEq, Nat.reduceAdd, Nat.reduceSub, Nat.reduceEqDiff, Nat.reduceLeDiff, Nat.reduceLT, Nat.reduceBEq, Nat.reduceDiv, Nat.reduceMod, Nat.reducePow, Nat.reduceMul, Int.reduceToNat, Int.reduceLT, Int.reduceLE, keepL]) | refine an2 ?_ | fail)
end Go.Proofs.Ytoiohkjomcbadaa

namespace Go.Proofs.Ytoiohkjomcbadaa
open Go Sy
set_option maxRecDepth 100000
set_option maxHeartbeats 4000000
set_option linter.unusedVariables false
set_option linter.unusedSimpArgs false
theorem fn127 (x : Int) : Sy.Fn Try.prog 127 [iv x] (bv false) := by
  refine Fn_of_W mixed Xt127 rfl ?_
  repeat' (first | refine w1g ?_ | refine w1l ?_ | refine w1q ?_ | refine w1b ?_ | refine w1p ?_ | ((first | refine w1r ?_ | refine w1k ?_ | refine w1e ?_); simp (maxSteps := 400000) (disch := omega) only [push_cast, ↓reduceIte, reduceCtorEq, Nat.reduceAdd, Nat.reduceSub, Nat.reduceEqDiff, Nat.reduceLeDiff, Nat.reduceLT, Nat.reduceBEq, Nat.reduceDiv, Nat.reduceMod, Nat.reducePow, Nat.reduceMul, Int.reduceToNat, Int.reduceLT, Int.reduceLE, bne_self_eq_false]) | refine an2 ?_ | fail)
  exact W_ret ⟨[_], ⟨rfl, rfl⟩, rfl⟩
def cmI (x y : Int) : Int := if x < y then -1 else if y < x then 1 else 0
theorem fn100 (x y : Int) : Sy.Fn Try.prog 100 [iv x, iv y] (iv (cmI x y)) := by
  refine Fn_of_W mixed Xt100 rfl ?_
  repeat' (first | refine w1g ?_ | refine w1l ?_ | refine w1q ?_ | refine w1b ?_ | refine w1p ?_ | ((first | refine w1r ?_ | refine w1k ?_ | refine w1e ?_ | refine CallC.go _ (fun _ => ⟨trivial, fn127 _⟩) rfl ?_); (refine sy1 ?_; try exact True.intro)) | refine an2 ?_ | fail)
  refine W_cond (by rfl) (fun h => by cases h) (fun _ => ?_)
  repeat' (first | refine w1g ?_ | refine w1l ?_ | refine w1q ?_ | refine w1b ?_ | refine w1p ?_ | ((first | refine w1r ?_ | refine w1k ?_ | refine w1e ?_); (refine sy1 ?_; try exact True.intro)) | refine an2 ?_ | fail)
  refine W_cond (by rfl) (fun h => by cases h) (fun _ => ?_)
  repeat' (first | refine w1g ?_ | refine w1l ?_ | refine w1q ?_ | refine w1b ?_ | refine w1p ?_ | ((first | refine w1r ?_ | refine w1k ?_ | refine w1e ?_); (refine sy1 ?_; try exact True.intro)) | refine an2 ?_ | fail)
  refine W_condD (by rfl) (fun h1 => ?_) (fun h1 => ?_)
  · rw [show cmI x y = -1 by unfold cmI; rw [if_pos h1]]
    repeat' (first | refine w1g ?_ | refine w1l ?_ | refine w1q ?_ | refine w1b ?_ | refine w1p ?_ | ((first | refine w1r ?_ | refine w1k ?_ | refine w1e ?_); (refine sy1 ?_; try exact True.intro)) | refine an2 ?_ | fail)
    exact W_ret ⟨[_], ⟨rfl, rfl⟩, rfl⟩
  repeat' (first | refine w1g ?_ | refine w1l ?_ | refine w1q ?_ | refine w1b ?_ | refine w1p ?_ | ((first | refine w1r ?_ | refine w1k ?_ | refine w1e ?_); (refine sy1 ?_; try exact True.intro)) | refine an2 ?_ | fail)
  refine W_condD (by rfl) (fun h2 => ?_) (fun h2 => ?_)
  · rw [show cmI x y = 1 by unfold cmI; rw [if_neg h1, if_pos h2]]
    repeat' (first | refine w1g ?_ | refine w1l ?_ | refine w1q ?_ | refine w1b ?_ | refine w1p ?_ | ((first | refine w1r ?_ | refine w1k ?_ | refine w1e ?_); (refine sy1 ?_; try exact True.intro)) | refine an2 ?_ | fail)
    exact W_ret ⟨[_], ⟨rfl, rfl⟩, rfl⟩
  · rw [show cmI x y = 0 by unfold cmI; rw [if_neg h1, if_neg h2]]
    repeat' (first | refine w1g ?_ | refine w1l ?_ | refine w1q ?_ | refine w1b ?_ | refine w1p ?_ | ((first | refine w1r ?_ | refine w1k ?_ | refine w1e ?_); (refine sy1 ?_; try exact True.intro)) | refine an2 ?_ | fail)
    exact W_ret ⟨[_], ⟨rfl, rfl⟩, rfl⟩
theorem fn99 (x y : Int) : Sy.Fn Try.prog 99 [aI [x, y]] (iv (if x = 0 then y else x)) := by
  refine Fn_of_W mixed Xt99 rfl ?_
  repeat' (first | refine w1g ?_ | refine w1l ?_ | refine w1q ?_ | refine w1b ?_ | refine w1p ?_ | ((first | refine w1r ?_ | refine w1k ?_ | refine w1e ?_); (refine sy1 ?_; try exact True.intro)) | refine an2 ?_ | fail)
  refine W_loopU (fun i : Nat => [(8, iv i)]) (fun i => []) (fun i => i ≤ 2 ∧ (0 < i → x = 0) ∧ (1 < i → y = 0)) (fun i => 2 - i) 0 ⟨by omega, fun h => by omega, fun h => by omega⟩ (by rfl) (by rfl) (fun i hi => ?_)
  obtain ⟨hi, h0, h1⟩ := hi
  (refine sy1 ?_; try exact True.intro)
  repeat' (first | refine w1g ?_ | refine w1l ?_ | refine w1q ?_ | refine w1b ?_ | refine w1p ?_ | ((first | refine w1r ?_ | refine w1k ?_ | refine w1e ?_); (refine sy1 ?_; try exact True.intro)) | refine an2 ?_ | fail)
  refine W_condD (by rfl) (fun h5 => ?_) (fun h5 => ?_)
  · have key : ∀ z, [x, y].getD i 0 = z → (z ≠ 0 → (if x = 0 then y else x) = z) ∧ (z = 0 → (0 < i + 1 → x = 0) ∧ (1 < i + 1 → y = 0)) := fun z hz => by
      rcases i with _ | _ | i
      · have hz : x = z := hz
        subst hz
        exact ⟨fun q => by rw [if_neg q], fun q => ⟨fun _ => q, fun w => absurd w (by omega)⟩⟩
      · have hz : y = z := hz
        subst hz
        have hx := h0 (by omega)
        exact ⟨fun _ => by rw [if_pos hx], fun q => ⟨fun _ => hx, fun _ => q⟩⟩
      · omega
    obtain ⟨z, hz⟩ : ∃ z, [x, y].getD i 0 = z := ⟨_, rfl⟩
    obtain ⟨k1, k2⟩ := key z hz
    repeat' (first | refine w1g ?_ | refine w1l ?_ | refine w1q ?_ | refine w1b ?_ | refine w1p ?_ | ((first | refine w1r ?_ | refine w1k ?_ | refine w1e ?_); simp (maxSteps := 400000) (disch := omega) only [push_cast, ↓reduceIte, reduceCtorEq, Nat.reduceAdd, Nat.reduceSub, Nat.reduceEqDiff, Nat.reduceLeDiff, Nat.reduceLT, Nat.reduceBEq, Nat.reduceDiv, Nat.reduceMod, Nat.reducePow, Nat.reduceMul, Int.reduceToNat, Int.reduceLT, Int.reduceLE, hz]) | refine an2 ?_ | fail)
    by_cases q : z = 0
    · obtain ⟨k3, k4⟩ := k2 q
      rw [show (z != 0) = false by rw [q]; rfl]
      refine W_cond (by rfl) (fun h => by cases h) (fun _ => ?_)
      repeat' (first | refine w1g ?_ | refine w1l ?_ | refine w1q ?_ | refine w1b ?_ | refine w1p ?_ | ((first | refine w1r ?_ | refine w1k ?_ | refine w1e ?_); (refine sy1 ?_; try exact True.intro)) | refine an2 ?_ | fail)
      refine ⟨i + 1, ⟨by omega, k3, k4⟩, by omega, by rfl, ?_⟩
      (refine syE ?_; try exact True.intro)
    · rw [show (z != 0) = true from bne_iff_ne.2 q, k1 q]
      refine W_cond (by rfl) (fun _ => ?_) (fun h => by cases h)
      repeat' (first | refine w1g ?_ | refine w1l ?_ | refine w1q ?_ | refine w1b ?_ | refine w1p ?_ | ((first | refine w1r ?_ | refine w1k ?_ | refine w1e ?_); (refine sy1 ?_; try exact True.intro)) | refine an2 ?_ | fail)
      exact W_ret ⟨[_], ⟨rfl, rfl⟩, rfl⟩
  · rw [if_pos (h0 (by omega)), h1 (by omega)]
    repeat' (first | refine w1g ?_ | refine w1l ?_ | refine w1q ?_ | refine w1b ?_ | refine w1p ?_ | ((first | refine w1r ?_ | refine w1k ?_ | refine w1e ?_); (refine sy1 ?_; try exact True.intro)) | refine an2 ?_ | fail)
    exact W_ret ⟨[_], ⟨rfl, rfl⟩, rfl⟩
def k1O (l : List Int) (x : Int) : Int := gi l x.toNat
def k2O (j : Jb) (x : Int) : Int := (gt j.ts x.toNat).mi
def cvO (j : Jb) (l : List Int) (x y : Int) : Int := if cmI (k1O l x) (k1O l y) = 0 then cmI (k2O j x) (k2O j y) else cmI (k1O l x) (k1O l y)
def ltO (j : Jb) (l : List Int) (x y : Int) : Bool := decide (cvO j l x y < 0)
theorem cm_lt (x y : Int) : cmI x y < 0 ↔ x < y := by unfold cmI; repeat' split <;> omega
theorem cm_eq (x y : Int) : cmI x y = 0 ↔ x = y := by unfold cmI; repeat' split <;> omega
theorem ltO_iff {j : Jb} {l : List Int} {x y : Int} : ltO j l x y = true ↔ k1O l x < k1O l y ∨ (k1O l x = k1O l y ∧ k2O j x < k2O j y) := by
  unfold ltO cvO
  rw [decide_eq_true_eq]
  have h1 := cm_lt (k1O l x) (k1O l y)
  have h2 := cm_eq (k1O l x) (k1O l y)
  have h3 := cm_lt (k2O j x) (k2O j y)
  split <;> omega
theorem ltO_no {j : Jb} {l : List Int} {x y : Int} : ltO j l x y = false ↔ k1O l y < k1O l x ∨ (k1O l x = k1O l y ∧ k2O j y ≤ k2O j x) := by
  rw [← Bool.not_eq_true, ltO_iff]
  omega
theorem ltO_sw (j : Jb) (l : List Int) : SW (ltO j l) := { asym := fun {a b} h => by rw [ltO_iff] at h; rw [ltO_no]; omega, nt := fun {a b c} h1 h2 => by rw [ltO_no] at h1 h2 ⊢; omega }
def okX (n : Nat) (x : Int) : Prop := 0 ≤ x ∧ x.toNat < n
theorem fn98 (j : Jb) (l : List Int) (hl : l.length = j.ts.length) (x y : Int) (hx : okX j.ts.length x) (hy : okX j.ts.length y) : Sy.Fn Try.prog 98 [iv x, iv y, .fp [aI l] 0, .fp (cJ j) 0] (iv (cvO j l x y)) := by
  refine Fn_of_W mixed Xt98 rfl ?_
  have e : cvO j l x y = if cmI (k1O l x) (k1O l y) = 0 then cmI (k2O j x) (k2O j y) else cmI (k1O l x) (k1O l y) := rfl
  have c1 := fn100 (k1O l x) (k1O l y)
  have c2 := fn100 (k2O j x) (k2O j y)
  have c3 := fn99 (cmI (k1O l x) (k1O l y)) (cmI (k2O j x) (k2O j y))
  rw [← e] at c3
  have g1 : ∀ x : Int, l.getD x.toNat 0 = k1O l x := fun _ => rfl
  have g2 : ∀ x : Int, (j.ts.getD x.toNat dTk).mi = k2O j x := fun _ => rfl
  obtain ⟨hx1, hx2⟩ := hx
  obtain ⟨hy1, hy2⟩ := hy
  generalize cvO j l x y = r at *
  generalize cmI (k1O l x) (k1O l y) = u at *
  generalize cmI (k2O j x) (k2O j y) = v at *
  repeat' (first | refine w1g ?_ | refine w1l ?_ | refine w1q ?_ | refine w1b ?_ | refine w1p ?_ | ((first | refine w1r ?_ | refine w1k ?_ | refine w1e ?_ | refine CallC.now (c1) ?_ | refine CallC.now (c2) ?_); simp (maxSteps := 400000) (disch := omega) only [push_cast, ↓reduceIte, reduceCtorEq, Nat.reduceAdd, Nat.reduceSub, Nat.reduceEqDiff, Nat.reduceLeDiff, Nat.reduceLT, Nat.reduceBEq, Nat.reduceDiv, Nat.reduceMod, Nat.reducePow, Nat.reduceMul, Int.reduceToNat, Int.reduceLT, Int.reduceLE, g1, g2]) | refine an2 ?_ | fail)
  refine ⟨rfl, trivial, Int, 0, cI, [u, v], rfl, by omega, fun x _ => ⟨rfl, rfl⟩, rfl, ?_⟩
  (refine sy1 ?_; try exact True.intro)
  repeat' (first | refine w1g ?_ | refine w1l ?_ | refine w1q ?_ | refine w1b ?_ | refine w1p ?_ | ((first | refine w1r ?_ | refine w1k ?_ | refine w1e ?_ | refine CallC.go _ (fun _ => ⟨trivial, c3⟩) rfl ?_); (refine sy1 ?_; try exact True.intro)) | refine an2 ?_ | fail)
  exact W_ret ⟨[_], ⟨rfl, rfl⟩, rfl⟩
def rwL (j : Jb) (l : List Int) (t : Int) : List Int := isort (ltO j l) (memT j t)
def orS (j : Jb) (l : List Int) (k : Nat) : List (List Int) := (List.range k).map fun t => rwL j l (t : Nat)
theorem orS_len (j : Jb) (l : List Int) (k : Nat) : (orS j l k).length = k := by unfold orS; rw [List.length_map, List.length_range]
theorem orS_succ (j : Jb) (l : List Int) (k : Nat) : orS j l (k + 1) = orS j l k ++ [rwL j l (k : Nat)] := by unfold orS; rw [List.range_succ, List.map_append]; rfl
def orE (j : Jb) (l : List Int) : Int := if chkJ j = 0 then stE j l else chkJ j
def orL (j : Jb) (l : List Int) : List (List Int) := if orE j l = 0 then orS j l j.tm.length else []
theorem rwL_len (j : Jb) (l : List Int) (t : Int) : (rwL j l t).length ≤ j.ts.length := by
  unfold rwL; rw [isort_len]; exact memK_len j t _
theorem fn45 (j : Jb) (l : List Int) (h : Gj j) (hl : l.length ≤ 1000000) : Sy.Fn Try.prog 45 [aJ j, aI l] (.tup [aO (orL j l), iv (orE j l)]) := by
  refine Fn_of_W mixed Xt45 rfl ?_
  have c39 := fn39 j h
  have c51 := fn51 j l hl (by have := h.t; omega)
  have hE : orE j l = if chkJ j = 0 then stE j l else chkJ j := rfl
  have hO : orL j l = if orE j l = 0 then orS j l j.tm.length else [] := rfl
  have hok : chkJ j = 0 → OkJ j := chkJ_ok
  have hst : stE j l = 0 → l.length = j.ts.length := fun q => (stE_ok q).1
  by_cases h1 : chkJ j = 0
  rotate_left
  · rw [if_neg h1] at hE
    rw [hE] at hO
    rw [if_neg h1] at hO
    rw [hO, hE]
    generalize chkJ j = E at *
    repeat' (first | refine w1g ?_ | refine w1l ?_ | refine w1q ?_ | refine w1b ?_ | refine w1p ?_ | ((first | refine w1r ?_ | refine w1k ?_ | refine w1e ?_ | refine CallC.now (c39) ?_); (refine sy1 ?_; try exact True.intro)) | refine an2 ?_ | fail)
    refine W_cond (by rfl) (fun _ => ?_) (fun h => absurd (by simpa using h) h1)
    repeat' (first | refine w1g ?_ | refine w1l ?_ | refine w1q ?_ | refine w1b ?_ | refine w1p ?_ | ((first | refine w1r ?_ | refine w1k ?_ | refine w1e ?_); (refine sy1 ?_; try exact True.intro)) | refine an2 ?_ | fail)
    refine W_le (le_nil 4 1 ([] : List Int) cO rfl) ?_
    exact W_ret ⟨[_, _], ⟨rfl, rfl, rfl⟩, rfl⟩
  rw [if_pos h1] at hE
  have hok := hok h1
  rw [h1] at c39
  by_cases h2 : stE j l = 0
  rotate_left
  · rw [hE] at hO
    rw [if_neg h2] at hO
    rw [hO, hE]
    generalize stE j l = E at *
    repeat' (first | refine w1g ?_ | refine w1l ?_ | refine w1q ?_ | refine w1b ?_ | refine w1p ?_ | ((first | refine w1r ?_ | refine w1k ?_ | refine w1e ?_ | refine CallC.now (c39) ?_); (refine sy1 ?_; try exact True.intro)) | refine an2 ?_ | fail)
    refine W_cond (by rfl) (fun h => by cases h) (fun _ => ?_)
    repeat' (first | refine w1g ?_ | refine w1l ?_ | refine w1q ?_ | refine w1b ?_ | refine w1p ?_ | ((first | refine w1r ?_ | refine w1k ?_ | refine w1e ?_ | refine CallC.now (c51) ?_); (refine sy1 ?_; try exact True.intro)) | refine an2 ?_ | fail)
    refine W_cond (by rfl) (fun _ => ?_) (fun h => absurd (by simpa using h) h2)
    repeat' (first | refine w1g ?_ | refine w1l ?_ | refine w1q ?_ | refine w1b ?_ | refine w1p ?_ | ((first | refine w1r ?_ | refine w1k ?_ | refine w1e ?_); (refine sy1 ?_; try exact True.intro)) | refine an2 ?_ | fail)
    refine W_le (le_nil 4 1 ([] : List Int) cO rfl) ?_
    exact W_ret ⟨[_, _], ⟨rfl, rfl, rfl⟩, rfl⟩
  have hll := hst h2
  rw [h2] at c51 hE
  rw [hE] at hO ⊢
  rw [if_pos rfl] at hO
  rw [hO]
  have hn := hok.n
  have h0 := hok.n0
  have ht := hok.nt
  have hss := orS_succ j l
  have hsl := orS_len j l
  have hg : ∀ x y, okX j.ts.length x → okX j.ts.length y → Sy.Fn Try.prog 98 (iv x :: iv y :: [.fp [aI l] 0, .fp (cJ j) 0]) (iv (cvO j l x y)) := fun x y => fn98 j l hll x y
  have hmk : ∀ t : Int, ∀ x ∈ memT j t, okX j.ts.length x := fun t x hx => by
    have := memT_iff.1 hx
    exact ⟨this.1, this.2.1⟩
  have hml : ∀ t, (memT j t).length ≤ 1000000 := fun t => Nat.le_trans (memK_len j t j.ts.length) (by omega)
  have hrw : ∀ t, rwL j l t = isort (ltO j l) (memT j t) := fun _ => rfl
  repeat' (first | refine w1g ?_ | refine w1l ?_ | refine w1q ?_ | refine w1b ?_ | refine w1p ?_ | ((first | refine w1r ?_ | refine w1k ?_ | refine w1e ?_ | refine CallC.now (c39) ?_); (refine sy1 ?_; try exact True.intro)) | refine an2 ?_ | fail)
  refine W_cond (by rfl) (fun h => by cases h) (fun _ => ?_)
  repeat' (first | refine w1g ?_ | refine w1l ?_ | refine w1q ?_ | refine w1b ?_ | refine w1p ?_ | ((first | refine w1r ?_ | refine w1k ?_ | refine w1e ?_ | refine CallC.now (c51) ?_); (refine sy1 ?_; try exact True.intro)) | refine an2 ?_ | fail)
  refine W_cond (by rfl) (fun h => by cases h) (fun _ => ?_)
  repeat' (first | refine w1g ?_ | refine w1l ?_ | refine w1q ?_ | refine w1b ?_ | refine w1p ?_ | ((first | refine w1r ?_ | refine w1k ?_ | refine w1e ?_); (refine sy1 ?_; try exact True.intro)) | refine an2 ?_ | fail)
  refine W_le (le_adopt 8 52 1 ([] : List Int) cO (by omega) rfl) ?_
  (refine sy1 ?_; try exact True.intro)
  refine W_loopU (fun i : Nat => [(8, .row 20 i), (25, iv i)]) (fun i => [(20, .row i 52 1 [] cO (orS j l i))]) (fun i => i ≤ j.tm.length) (fun i => j.tm.length - i) 0 (by omega) (by rfl) (by rfl) (fun i hi => ?_)
  have hss := hss i
  have hsl := hsl i
  (refine sy1 ?_; try exact True.intro)
  repeat' (first | refine w1g ?_ | refine w1l ?_ | refine w1q ?_ | refine w1b ?_ | refine w1p ?_ | ((first | refine w1r ?_ | refine w1k ?_ | refine w1e ?_); (refine sy1 ?_; try exact True.intro)) | refine an2 ?_ | fail)
  refine W_condD (by rfl) (fun h5 => ?_) (fun h5 => ?_)
  · have f58 := fo58 j (i : Nat) (by omega)
    have hmk := hmk (i : Nat)
    have hml := hml (i : Nat)
    have hrw := hrw (i : Nat)
    generalize orS j l i = OS at *
    generalize rwL j l (i : Nat) = RW at *
    generalize memT j (i : Nat) = MM at *
    repeat' (first | refine w1g ?_ | refine w1l ?_ | refine w1q ?_ | refine w1b ?_ | refine w1p ?_ | ((first | refine w1r ?_ | refine w1k ?_ | refine w1e ?_); (refine sy1 ?_; try exact True.intro)) | refine an2 ?_ | (refine CallC.inl (Inl_of_FnO f58 (by rfl) ?_); (refine sy1 ?_; try exact True.intro)) | fail)
    refine CallC.inl (i77 (ltO_sw j l) (by rfl) (fun x y => rfl) (ok := okX j.ts.length) ⟨Int.le_refl 0, h0⟩ hg hmk rfl (fun k hk => by simp only [lm]; rw [if_neg (by dsimp only at hk; omega), if_neg (by dsimp only at hk; omega)]) hml ?_)
    rw [← hrw]
    (refine sy1 ?_; try exact True.intro)
    refine W_le (le_frzR 10 [2, 3, 8, 24, 25] [20] 31 26 0 3 1 0 cI RW rfl rfl rfl rfl) ?_
    simp (maxSteps := 400000) (disch := omega) only [push_cast, ↓reduceIte, reduceCtorEq, Nat.reduceAdd, Nat.reduceSub, Nat.reduceEqDiff, Nat.reduceLeDiff, Nat.reduceLT, Nat.reduceBEq, Nat.reduceDiv, Nat.reduceMod, Nat.reducePow, Nat.reduceMul, Int.reduceToNat, Int.reduceLT, Int.reduceLE, List.map_cons, List.map_nil, keepM]
    repeat' (first | refine w1g ?_ | refine w1l ?_ | refine w1q ?_ | refine w1b ?_ | refine w1p ?_ | ((first | refine w1r ?_ | refine w1k ?_ | refine w1e ?_); (refine sy1 ?_; try exact True.intro)) | refine an2 ?_ | fail)
    refine ⟨rfl, trivial, List Int, [], cO, [RW], rfl, by omega, fun x _ => ⟨rfl, rfl⟩, rfl, ?_⟩
    (refine sy1 ?_; try exact True.intro)
    refine ⟨rfl, ⟨Nat.le_of_ble_eq_true rfl, rfl⟩, trivial, [RW], rfl, by first | omega | (simp; omega), by first | omega | (simp; omega), ?_⟩
    (refine sy1 ?_; try exact True.intro)
    rw [← hss]
    repeat' (first | refine w1g ?_ | refine w1l ?_ | refine w1q ?_ | refine w1b ?_ | refine w1p ?_ | ((first | refine w1r ?_ | refine w1k ?_ | refine w1e ?_); (refine sy1 ?_; try exact True.intro)) | refine an2 ?_ | fail)
    refine ⟨i + 1, by omega, by omega, by rfl, ?_⟩
    (refine syE ?_; try exact True.intro)
  · obtain rfl : i = j.tm.length := by omega
    repeat' (first | refine w1g ?_ | refine w1l ?_ | refine w1q ?_ | refine w1b ?_ | refine w1p ?_ | ((first | refine w1r ?_ | refine w1k ?_ | refine w1e ?_); (refine sy1 ?_; try exact True.intro)) | refine an2 ?_ | fail)
    refine W_le (le_frzR 4 [5] [] 25 20 j.tm.length 52 1 [] cO (orS j l j.tm.length) rfl rfl rfl rfl) ?_
    simp (maxSteps := 400000) (disch := omega) only [push_cast, ↓reduceIte, reduceCtorEq, Nat.reduceAdd, Nat.reduceSub, Nat.reduceEqDiff, Nat.reduceLeDiff, Nat.reduceLT, Nat.reduceBEq, Nat.reduceDiv, Nat.reduceMod, Nat.reducePow, Nat.reduceMul, Int.reduceToNat, Int.reduceLT, Int.reduceLE, List.map_cons, List.map_nil, keepM]
    exact W_ret ⟨[_, _], ⟨rfl, rfl, rfl⟩, rfl⟩
end Go.Proofs.Ytoiohkjomcbadaa

namespace Go.Proofs.Ytoiohkjomcbadaa
open Go Sy
set_option maxRecDepth 100000
set_option maxHeartbeats 4000000
set_option linter.unusedVariables false
set_option linter.unusedSimpArgs false
end Go.Proofs.Ytoiohkjomcbadaa

namespace Go.Proofs.Ytoiohkjomcbadaa
open Go Sy
set_option maxRecDepth 100000
set_option maxHeartbeats 4000000
set_option linter.unusedVariables false
set_option linter.unusedSimpArgs false
end Go.Proofs.Ytoiohkjomcbadaa

namespace Go.Proofs.Ytoiohkjomcbadaa
open Go Sy
set_option maxRecDepth 100000
set_option maxHeartbeats 4000000
set_option linter.unusedVariables false
set_option linter.unusedSimpArgs false
abbrev gl (ls : List Lg) (i : Nat) : Lg := ls.getD i dLg
structure OkC (ls : List Lg) (a b st : Int) : Prop where
  n : ls.length ≤ 12
  w : ∀ i, i < ls.length → (gl ls i).ws.length ≤ 32
  ra : 1 ≤ a ∧ a ≤ 10080
  rb : 1 ≤ b ∧ b ≤ 10080
  m : ∀ i, i < ls.length → 1 ≤ (gl ls i).mi ∧ (gl ls i).mi ≤ a
  k : ∀ i, i < ls.length → WnOk 0 (gl ls i).ws
  s : 0 ≤ st ∧ st ≤ 1099511627776
theorem fit_rng {mi x : Int} {ws : List Wn} (hw : WnOk 0 ws) (hm : 0 ≤ mi) (h : fitB mi x ws = true) : 0 ≤ x ∧ x ≤ 1099511627776 := by
  obtain ⟨w, hw1, h1, h2⟩ := fitB_iff.1 h
  have := hw.all w hw1
  omega
end Go.Proofs.Ytoiohkjomcbadaa

namespace Go.Proofs.Ytoiohkjomcbadaa
open Go Sy
set_option maxRecDepth 100000
set_option maxHeartbeats 4000000
set_option linter.unusedVariables false
set_option linter.unusedSimpArgs false
def lxC : List Int → List Int → Int
  | [], [] => 0
  | [], _ => -1
  | _ :: _, [] => 1
  | x :: l, y :: m => if cmI x y = 0 then lxC l m else cmI x y
def bfC (l m : List Int) : Int := if cmI (gi l (l.length - 1)) (gi m (l.length - 1)) = 0 then lxC l m else cmI (gi l (l.length - 1)) (gi m (l.length - 1))
end Go.Proofs.Ytoiohkjomcbadaa

namespace Go.Proofs.Ytoiohkjomcbadaa
open Go Sy
set_option maxRecDepth 100000
set_option maxHeartbeats 4000000
set_option linter.unusedVariables false
set_option linter.unusedSimpArgs false
end Go.Proofs.Ytoiohkjomcbadaa

namespace Go.Proofs.Ytoiohkjomcbadaa
open Go Sy
set_option maxRecDepth 100000
set_option maxHeartbeats 4000000
set_option linter.unusedVariables false
set_option linter.unusedSimpArgs false
end Go.Proofs.Ytoiohkjomcbadaa

namespace Go.Proofs.Ytoiohkjomcbadaa
open Go Sy
set_option linter.unusedVariables false
structure Bst (S : List Int → Prop) (r : List Int) : Prop where
  mem : r = [] ∨ S r
  le : ∀ s, S s → r ≠ [] ∧ ¬ bfC s r < 0
end Go.Proofs.Ytoiohkjomcbadaa

namespace Go.Proofs.Ytoiohkjomcbadaa
open Go Sy
set_option linter.unusedVariables false
section
variable {ls : List Lg} {a b st : Int} {c : Nat → Bool}
end
end Go.Proofs.Ytoiohkjomcbadaa

namespace Go.Proofs.Ytoiohkjomcbadaa
open Go Sy
set_option linter.unusedVariables false
end Go.Proofs.Ytoiohkjomcbadaa

namespace Go.Proofs.Ytoiohkjomcbadaa
open Go Sy
set_option linter.unusedVariables false
end Go.Proofs.Ytoiohkjomcbadaa

namespace Go.Proofs.Ytoiohkjomcbadaa
open Go Sy
set_option maxRecDepth 100000
set_option maxHeartbeats 4000000
set_option linter.unusedVariables false
set_option linter.unusedSimpArgs false
theorem bq_l {k s : Nat} (h : k < s) : (k == s) = false := beq_eq_false_iff_ne.2 (by omega)
theorem bq_r {k s : Nat} (h : s < k) : (k == s) = false := beq_eq_false_iff_ne.2 (by omega)
theorem ls_l {k s : Nat} {m : Mem} {b : Blk} (h : k < s) : lm (setm m s b) k = lm m k := lm_set_other _ _ (by omega)
theorem ls_r {k s : Nat} {m : Mem} {b : Blk} (h : s < k) : lm (setm m s b) k = lm m k := lm_set_other _ _ (by omega)
theorem finN_of_finO {rv : List RV} {T n : Nat} {α : Type} {d : α} {F : α → List AV} {l : List α} (hp : ∀ x ∈ l, pureAll (F x) = true) : ∀ e s, FinO rv T n d F l e s → FinN rv (.sl n d F l) e s := fun e s q => by
  have key : ∀ k st, lm s.mem k = some (.row st T n d F l) → pack ([AV.row k st].map (view (lm s.mem) 4)) = .sl n d F l ∧ newL (lm s.mem) [AV.row k st] := fun k st h => by
    refine ⟨by simp only [List.map_cons, List.map_nil, view, h, if_true, pack], ⟨?_, trivial⟩⟩
    simp only [newB, h]
    exact hp
  cases e with
  | e id => exact q.elim
  | n => obtain ⟨k, st, h1, h2⟩ := q; exact ⟨_, h1, key k st h2⟩
  | r => obtain ⟨k, st, h1, h2⟩ := q; exact ⟨_, h1, key k st h2⟩
end Go.Proofs.Ytoiohkjomcbadaa

namespace Go.Proofs.Ytoiohkjomcbadaa
open Go Sy Go.RowKit
theorem infoV : (Try.prog.info? 3).map (fun i => (i.zero, i.size, i.bytes)) = some (some (.int .i64 0), 1, 8) := by kernel_rfl
theorem set_some (b : Nat) : ∀ (vs : List Value) (o : Nat) (w : World) (a : Addr), (w.cell? a).isSome = true → ((w.setCells b o vs).cell? a).isSome = true
  | [], o, w, a, h => h
  | v :: vs, o, w, a, h => by
    rw [World.setCells]
    refine set_some b vs _ _ a ?_
    by_cases e : (⟨b, o, none⟩ : Addr) = a
    · subst e
      rw [World.cell?_setCell_same' w _ v h]; rfl
    · rw [World.cell?_setCell_other _ _ _ _ e]; exact h
set_option maxHeartbeats 4000000 in
set_option maxRecDepth 1000000 in
theorem del_walk (b cap i n : Nat) (news : List Value) (w : World) (hn : i < n) (hnc : n ≤ cap) (hm : cap ≤ 9223372036854775807) (hlen : news.length = (n - (i + 1)) * 1)
    (hnews : ∀ j u, news[j]? = some u → w.drew.cell? ⟨b, (i + 1) * 1 + j, none⟩ = some u) (h1c : ∀ u ∈ news, u.oneCell' = true) (hall : ∀ j, j < cap * 1 → (w.cell? ⟨b, j, none⟩).isSome = true ∧ w.frozen? ⟨b, j, none⟩ = false) :
    Calls Try.prog 131 #[.slice (some ⟨b, 0, none⟩) n cap, .int .i64 i, .int .i64 ((i : Int) + 1)] w fun e w' => e = .returned (.slice (some ⟨b, 0, none⟩) (i + (n - (i + 1))) cap) ∧
      w' = (w.drew.setCells b (i * 1) news).setCells b ((i + (n - (i + 1))) * 1) [.int .i64 0] := by
  obtain ⟨i0, hi0, hz0, hz1, hz2⟩ := info_parts infoV
  obtain ⟨A, hA, hsrc⟩ : ∃ A : Addr, (if cap = i + 1 then some (⟨b, 0, none⟩ : Addr) else some ⟨b, (i + 1) * 1, none⟩) = some A ∧ Hid (∀ j u, news[j]? = some u → w.drew.cell? (A.add j) = some u) := by
    by_cases h : cap = i + 1
    · refine ⟨⟨b, 0, none⟩, by simp [h], fun j u hu => ?_⟩
      have h0 : news.length = 0 := by rw [hlen]; omega
      rw [List.length_eq_zero_iff.1 h0] at hu
      simp at hu
    · refine ⟨⟨b, (i + 1) * 1, none⟩, by simp [h], fun j u hu => ?_⟩
      rw [Addr.add_lit]
      exact hnews j u hu
  rw [Nat.mul_one] at hA
  have s1 : Hid (news.length = (n - (i + 1)) * 1) := hlen
  have s2 : Hid (∀ u ∈ news, u.oneCell' = true) := h1c
  have s3 : Hid (∀ j, j < news.length → (w.drew.cell? ⟨b, 0 + i * 1 + j, none⟩).isSome = true ∧ w.drew.frozen? ⟨b, 0 + i * 1 + j, none⟩ = false) := by
    intro j hj
    rw [hlen] at hj
    exact hall (0 + i * 1 + j) (by omega)
  have hic : i ≤ cap := by omega
  have hwr : IntKind.i64.wrap ((i : Int) + 1) = (i : Int) + 1 := by rw [IntKind.wrap_i64]; omega
  have hp0 : (0 : Int) ≤ (i : Int) + 1 := by omega
  have hp1 : (i : Int) + 1 ≤ (n : Int) := by omega
  have hp2 : ((i : Int) + 1).toNat = i + 1 := by omega
  obtain ⟨W1, hW1⟩ : ∃ W1, W1 = w.drew.setCells b (0 + i * 1) news := ⟨_, rfl⟩
  have hall1 : ∀ j, j < cap * 1 → (W1.cell? ⟨b, j, none⟩).isSome = true ∧ W1.frozen? ⟨b, j, none⟩ = false := fun j hj => by
    rw [hW1]
    exact ⟨set_some _ _ _ _ _ (hall j hj).1, by rw [World.frozen?_setCells]; exact (hall j hj).2⟩
  have hcl : ∀ ty, (Builtin.clear_ #[52] ty #[.slice (some ⟨b, (i + (n - (i + 1))) * 1, none⟩) (n - (i + (n - (i + 1)))) (cap - (i + (n - (i + 1))))]).run Try.prog W1 = .ok (.tuple #[]) (W1.setCells b ((i + (n - (i + 1))) * 1) [.int .i64 0]) := fun ty => by
    have e1 : n - (i + (n - (i + 1))) = 0 + 1 := by omega
    have hst := run_storeCells_cells (P := Try.prog) b ((i + (n - (i + 1))) * 1) [.int .i64 0] 0 W1 (fun j hj => (hall1 _ (by simp at hj; omega)).1) (fun j hj => (hall1 _ (by simp at hj; omega)).2) (by intro v hv; simp at hv; rw [hv]; rfl)
    simp only [Nat.add_zero, Nat.mul_one] at hst
    have hz : (zeroValue 3).run Try.prog W1 = .ok (Value.int IntKind.i64 0) W1 := Sy.run_zeroValue hi0 hz0
    rw [e1]
    have e3 : (Builtin.zeroCells (Value.int IntKind.i64 0).cells 1).toList = [.int .i64 0] := by
      simp [Builtin.zeroCells, Value.cells]
    simp [Builtin.clear_, run_underlying Try.underlying52, hz]
    rw [e3, hst]
    rfl
  simp only [Nat.mul_one] at hcl
  have hW : Hid (W1 = w.drew.setCells b (0 + i * 1) news) := hW1
  have X : Hid (W1 = w.drew.setCells b (0 + i * 1) news) := hW1
  clear hnews hlen h1c hW1 hall hall1
  go_enter Try.func131, Try.ntmps131
  go_wp2_with fail
  go_region_law (refine step_append_room rfl (.tmp 22) (.tmp 25) 52 rfl 3 i0 1 Try.underlying52 hi0 hz1 b 0 i cap (by simp [Act.eval, Act.put]) A (n - (i + 1)) (cap - (i + 1)) news (by simp [Act.eval, Act.put]) s1.out hsrc.out s2.out (by omega) s3.out ?_; rw [← hW.out])
  go_wp2
  go_ret
  refine ⟨rfl, ?_⟩
  rw [X.out, Nat.zero_add]
  simp only [Nat.mul_one]
theorem setCells_at (b : Nat) (e : TypeId) : ∀ (vs : List Value) (o : Nat) (w : World) (cur : Array Value), w.heap[b]? = some (.cells cur e (0, 0)) → o + vs.length ≤ cur.size →
    ∃ cur', (w.setCells b o vs).heap[b]? = some (.cells cur' e (0, 0)) ∧ cur'.size = cur.size ∧ ∀ j, cur'.toList[j]? = if o ≤ j ∧ j < o + vs.length then vs[j - o]? else cur.toList[j]?
  | [], o, w, cur, h, _ => ⟨cur, h, rfl, fun j => by rw [if_neg (by simp only [List.length_nil]; omega)]⟩
  | v :: vs, o, w, cur, h, hl => by
    have h1 : (w.setCell ⟨b, o, none⟩ v).heap[b]? = some (.cells (cur.setIfInBounds o v) e (0, 0)) := by
      have hlt : b < w.heap.size := (Array.getElem?_eq_some_iff.1 h).1
      simp [World.setCell, Array.getElem?_modify, h]
    simp only [List.length_cons] at hl
    obtain ⟨cur', g1, g2, g3⟩ := setCells_at b e vs (o + 1) _ _ h1 (by simp; omega)
    refine ⟨cur', by rw [World.setCells]; exact g1, by rw [g2]; simp, fun j => ?_⟩
    rw [g3]
    simp only [List.length_cons]
    by_cases c1 : o + 1 ≤ j ∧ j < o + 1 + vs.length
    · rw [if_pos c1, if_pos (by omega)]
      obtain ⟨k, rfl⟩ : ∃ k, j = o + 1 + k := ⟨j - (o + 1), by omega⟩
      rw [show o + 1 + k - (o + 1) = k by omega, show o + 1 + k - o = k + 1 by omega, List.getElem?_cons_succ]
    · rw [if_neg c1]
      by_cases c2 : j = o
      · subst c2
        rw [if_pos (by omega), Nat.sub_self]
        simp [show j < cur.size by omega]
      · rw [if_neg (by omega)]
        simp [show ¬ o = j by omega]
theorem grown_set {w w' : World} {g o : Nat} {vs : List Value} (h : w.grownBy w' (some g)) : w.grownBy (w'.setCells g o vs) (some g) := by
  induction vs generalizing o w' with
  | nil => exact h
  | cons v vs ih =>
    refine ih ⟨h.os, h.tape, h.output, by rw [World.size_setCell]; exact h.size, fun k hk hne => ?_⟩
    refine Eq.trans ?_ (h.block k hk hne)
    have : g ≠ k := fun e => hne (by rw [e])
    simp [World.setCell, Array.getElem?_modify, this]
theorem Inl_del {s : S} {k st i : Nat} {α : Type} {d : α} {F : α → List AV} {l : List α} (hk : lm s.mem k = some (.row st 3 1 d F l)) (hi : i < l.length) {K : AV → S → Prop}
    (hK : K (.row k (st + 1)) ⟨s.tm, setm s.mem k (.row (st + 1) 3 1 d F (l.eraseIdx i)), s.nx⟩) : Inl Try.prog 131 [.row k st, iv i, iv ((i : Int) + 1)] s K := by
  refine Inl_grow (P := Try.prog) (f := 131) (by kernel_rfl) hk (by omega) (ys := [.int .i64 i, .int .i64 ((i : Int) + 1)]) (fun B Fz w hh xs hown hrow => ?_) hK
  obtain ⟨hxl, hcase⟩ := hown
  rcases hcase with ⟨_, h0⟩ | ⟨g, cap, cur, e1, e2, e3, e4, e5, e6, e7⟩
  · omega
  rw [e1]
  have hcell : ∀ j, w.cell? ⟨g, j, none⟩ = cur.toList[j]? := fun j => by simp [World.cell?, e3]
  have hxs : ∀ j, j < l.length * 1 → xs[j]? = cur.toList[j]? := fun j hj => by rw [← e7, List.getElem?_take, if_pos hj]
  have h1c : ∀ u ∈ xs, u.oneCell' = true := fun u hu => by
    obtain ⟨j, hj, rfl⟩ := List.mem_iff_getElem.1 hu
    obtain ⟨x, hx⟩ : ∃ x, l[j / 1]? = some x := ⟨l[j / 1]'(by omega), List.getElem?_eq_getElem (by omega)⟩
    obtain ⟨q1, q2⟩ := hrow (j / 1) x hx
    have key : ∀ (cs : List AV) (vs : List Value), fsatL Fz w cs vs → ∀ v ∈ vs, v.oneCell' = true := fun cs => by
      induction cs with
      | nil => intro vs h v hv; simp only [fsatL] at h; subst h; cases hv
      | cons a cs ih =>
        intro vs h v hv
        simp only [fsatL] at h
        obtain ⟨y, ys, rfl, g1, _, g2⟩ := h
        rcases List.mem_cons.1 hv with rfl | hv
        · exact g1
        · exact ih ys g2 v hv
    refine key _ _ q2 _ ?_
    refine List.mem_iff_getElem?.2 ⟨j % 1, ?_⟩
    rw [List.getElem?_take, if_pos (by omega), List.getElem?_drop, show j / 1 * 1 + j % 1 = j by omega, List.getElem?_eq_getElem hj]
  refine (del_walk g cap i l.length (xs.drop ((i + 1) * 1)) w hi e4 e5 (by rw [List.length_drop, hxl]; omega) (fun j u hu => ?_) (fun u hu => h1c u (List.mem_of_mem_drop hu)) (fun j hj => ⟨?_, ?_⟩)).mono ?_
  · rw [List.getElem?_drop] at hu
    have hj : (i + 1) * 1 + j < xs.length := (List.getElem?_eq_some_iff.1 hu).1
    rw [hxs _ (by omega), ← hcell] at hu
    exact hu
  · rw [hcell, List.getElem?_eq_getElem (by simp; omega)]; rfl
  · simp [World.frozen?, e3]
  rintro e w' ⟨rfl, rfl⟩
  have hw1 : w.drew.heap[g]? = some (.cells cur 3 (0, 0)) := e3
  obtain ⟨c1, a1, a2, a3⟩ := setCells_at g 3 (xs.drop ((i + 1) * 1)) (i * 1) w.drew cur hw1 (by rw [List.length_drop, hxl]; omega)
  obtain ⟨c2, b1, b2, b3⟩ := setCells_at g 3 [.int .i64 0] ((i + (l.length - (i + 1))) * 1) _ c1 a1 (by simp; omega)
  have hle : (l.eraseIdx i).length = l.length - 1 := by rw [List.length_eraseIdx, if_pos hi]
  have hm1 : i + (l.length - (i + 1)) = l.length - 1 := by omega
  have hyl : (xs.take (i * 1) ++ xs.drop ((i + 1) * 1)).length = (l.length - 1) * 1 := by rw [List.length_append, List.length_take, List.length_drop, hxl]; omega
  have hgb : w.grownBy ((w.drew.setCells g (i * 1) (xs.drop ((i + 1) * 1))).setCells g ((i + (l.length - (i + 1))) * 1) [.int .i64 0]) (some g) :=
    grown_set (grown_set ⟨rfl, rfl, rfl, Nat.le_refl _, fun _ _ _ => rfl⟩)
  refine ⟨(some ⟨g, 0, none⟩, l.length - 1, cap), xs.take (i * 1) ++ xs.drop ((i + 1) * 1), by rw [hm1]; rfl, ⟨by rw [hyl, hle], .inr ⟨g, cap, c2, by rw [hle]; rfl, e2, b1, by rw [hle]; omega, e5, by rw [b2, a2, e6], ?_⟩⟩, hgb, fun j x hx => ?_, fun b hb => .inl hb⟩
  · rw [hle]
    apply List.ext_getElem?
    intro j
    rw [List.getElem?_take]
    by_cases hj : j < (l.length - 1) * 1
    · rw [if_pos hj, b3, if_neg (by simp; omega), a3]
      by_cases q : j < i * 1
      · rw [if_neg (by omega), List.getElem?_append_left (by rw [List.length_take, hxl]; omega), List.getElem?_take, if_pos q, hxs j (by omega)]
      · rw [if_pos (by rw [List.length_drop, hxl]; omega), List.getElem?_append_right (by rw [List.length_take, hxl]; omega)]
        congr 1
        rw [List.length_take, hxl]; omega
    · rw [if_neg hj, List.getElem?_eq_none (by omega)]
  · rw [List.getElem?_eraseIdx] at hx
    by_cases q : j < i
    · rw [if_pos q] at hx
      obtain ⟨q1, q2⟩ := hrow j x hx
      refine ⟨q1, ?_⟩
      rw [List.drop_append_of_le_length (by rw [List.length_take, hxl]; omega), List.take_append_of_le_length (by rw [List.length_drop, List.length_take, hxl]; omega), List.drop_take, List.take_take, show min 1 (i * 1 - j * 1) = 1 by omega]
      exact q2
    · rw [if_neg q] at hx
      obtain ⟨q1, q2⟩ := hrow (j + 1) x hx
      refine ⟨q1, ?_⟩
      rw [List.drop_append, List.drop_of_length_le (by rw [List.length_take, hxl]; omega), List.nil_append, List.drop_drop, List.length_take, hxl, show (i + 1) * 1 + (j * 1 - min (i * 1) (l.length * 1)) = (j + 1) * 1 by omega]
      exact q2
end Go.Proofs.Ytoiohkjomcbadaa

namespace Go.Proofs.Ytoiohkjomcbadaa
open Go Sy
set_option maxRecDepth 100000
set_option maxHeartbeats 4000000
set_option linter.unusedVariables false
set_option linter.unusedSimpArgs false
def prm : Nat → List Int → List Int → List (List Int)
  | 0, h, _ => [h]
  | k + 1, h, r => (List.range r.length).flatMap fun i => prm k (h ++ [gi r i]) (r.eraseIdx i)
def prmI (k : Nat) (h r : List Int) (n : Nat) : List (List Int) := (List.range n).flatMap fun i => prm k (h ++ [gi r i]) (r.eraseIdx i)
theorem prmI_succ (k : Nat) (h r : List Int) (n : Nat) : prmI k h r (n + 1) = prmI k h r n ++ prm k (h ++ [gi r n]) (r.eraseIdx n) := by
  unfold prmI
  rw [List.range_succ, List.flatMap_append]
  simp
theorem setm_appr {A B : Mem} {k : Nat} (b : Blk) (h : lm A k = none) : setm (A ++ B) k b = A ++ setm B k b := by
  induction A with
  | nil => rfl
  | cons p A ih =>
    obtain ⟨s, c⟩ := p
    simp only [lm] at h
    by_cases q : k = s
    · rw [if_pos q] at h; cases h
    · rw [if_neg q] at h
      simp only [List.cons_append, setm]
      rw [if_neg q, ih h]
theorem w130 (l : List Int) (hl : l.length ≤ 1000000) : W Try.prog 8 Xn130_0 (init [aI l]) (FinO [.t 2] 3 1 0 cI l) := by
  repeat (first | refine WK_go ?_ | refine W_seqL ?_ | refine W_seq ?_ | refine W_block ?_)
  refine W_regL ?_
  (refine sy1 ?_; try exact True.intro)
  repeat (first | refine WK_go ?_ | refine W_seqL ?_ | refine W_seq ?_ | refine W_block ?_)
  refine W_regX [1] ?_
  simp (maxSteps := 400000) (disch := omega) only [push_cast, ↓reduceIte, reduceCtorEq, Nat.reduceAdd, Nat.reduceSub, Nat.reduceEqDiff, Nat.reduceLeDiff, Nat.reduceLT, Nat.reduceBEq, Nat.reduceDiv, Nat.reduceMod, Nat.reducePow, Nat.reduceMul, Int.reduceToNat, Int.reduceLT, Int.reduceLE, chainX, SpM, List.take_succ_cons, List.take_zero, List.drop_succ_cons, List.drop_zero]
  refine ⟨[], rfl, 1, Int, 0, cI, l, rfl, fun b hb => ?_⟩
  (refine sy1 ?_; try exact True.intro)
  cases b
  · refine W_cond (by rfl) (fun h => by cases h) (fun _ => ?_)
    repeat' (first | refine w1g ?_ | refine w1l ?_ | refine w1q ?_ | refine w1b ?_ | refine w1p ?_ | ((first | refine w1r ?_ | refine w1k ?_ | refine w1e ?_); (refine sy1 ?_; try exact True.intro)) | refine an2 ?_ | fail)
    refine ⟨rfl, trivial, Int, 0, cI, [], rfl, by omega, fun x _ => ⟨rfl, rfl⟩, rfl, ?_⟩
    (refine sy1 ?_; try exact True.intro)
    refine ⟨rfl, ⟨Nat.le_of_ble_eq_true rfl, rfl⟩, trivial, l, rfl, by first | omega | (simp; omega), by first | omega | (simp; omega), ?_⟩
    (refine sy1 ?_; try exact True.intro)
    exact W_ret ⟨_, _, ⟨rfl, rfl⟩, rfl⟩
  · refine W_cond (by rfl) (fun _ => ?_) (fun h => by cases h)
    have e : l = [] := by
      cases l with
      | nil => rfl
      | cons x r => have := hb (by simp); cases this
    subst e
    repeat' (first | refine w1g ?_ | refine w1l ?_ | refine w1q ?_ | refine w1b ?_ | refine w1p ?_ | ((first | refine w1r ?_ | refine w1k ?_ | refine w1e ?_); (refine sy1 ?_; try exact True.intro)) | refine an2 ?_ | fail)
    refine W_le (le_adopt 2 3 1 0 cI (by omega) rfl) ?_
    (refine sy1 ?_; try exact True.intro)
    exact W_ret ⟨_, _, ⟨rfl, rfl⟩, rfl⟩
theorem fw130 (l : List Int) (hl : l.length ≤ 1000000) : FnN Try.prog 130 [aI l] (aI l) :=
  FnN_of_W mixed Xt130 rfl (W_mono' (w130 l hl) (finN_of_finO fun x _ => rfl))
section
variable {ι : Type} {B : ι → Mem} {step : ι → List Int → ι} {N0 l : Nat} {P : List Int → Prop}
abbrev YP (B : ι → Mem) (step : ι → List Int → ι) (N0 l : Nat) (P : List Int → Prop) : Prop := ∀ b x, P x → ∀ tm R nx, Opq N0 R nx → Yl Try.prog l [aI x] ⟨tm, B b ++ R, nx⟩ (MidY N0 tm nx R (fun r B' => r = true ∧ B' = B (step b x)))
abbrev goB (l kw : Nat) : Blk := .cells [.cq 129 [] [.fp [yv l] 0, .own kw 0]]
abbrev i129P (B : ι → Mem) (step : ι → List Int → ι) (N0 l : Nat) (P : List Int → Prop) (k : Nat) : Prop := ∀ (h r : List Int) (b : ι), r.length = k → (∀ x ∈ prm k h r, P x) → h.length + k ≤ 1000 →
  ∀ (tm : List (Nat × AV)) (R : Mem) (nx kw kh sh kr sr : Nat), Opq N0 R nx → (N0 ≤ kw ∧ kw < nx) → lm R kw = some (goB l kw) → (N0 ≤ kh ∧ kh < nx) → lm R kh = some (.row sh 3 1 0 cI h) → (N0 ≤ kr ∧ kr < nx) → lm R kr = some (.row sr 3 1 0 cI r) →
    Inl Try.prog 129 [.row kh sh, .row kr sr, .fp [yv l] 0, .own kw 0] ⟨tm, B b ++ R, nx⟩ (MidX N0 tm nx R fun v B' => v = bv true ∧ B' = B ((prm k h r).foldl step b))
theorem i129 (hBas : ∀ b, Bas N0 (B b)) (HY : YP B step N0 l P) (k : Nat) (ih : ∀ j, j < k → i129P B step N0 l P j) : i129P B step N0 l P k := by
  intro h r b hrl hP hlen tm R nx kw kh sh kr sr hR hkw hW hkh hH hkr hRr
  refine Inl_opqE mixed Xt129 rfl hR (hBas b) (fun R' nx' hR' hlt hE => ?_)
  have hW1 : lm R' kw = some (goB l kw) := (hE kw hkw.2).trans hW
  have hH1 : lm R' kh = some (.row sh 3 1 0 cI h) := (hE kh hkh.2).trans hH
  have hR1 : lm R' kr = some (.row sr 3 1 0 cI r) := (hE kr hkr.2).trans hRr
  have hN := hR'.n
  have hlb : ∀ (b : ι) (R : Mem) (j : Nat), N0 ≤ j → lm (B b ++ R) j = lm R j := fun b R j hj => lm_app_r (hBas b j hj)
  have hsb : ∀ (b : ι) (R : Mem) (j : Nat) (x : Blk), N0 ≤ j → setm (B b ++ R) j x = B b ++ setm R j x := fun b R j x hj => setm_appr x (hBas b j hj)
  have hbl := @bq_l
  obtain ⟨KK, hKK⟩ : ∃ KK : AV → Mem → Prop, KK = fun v B' => v = bv true ∧ B' = B ((prm k h r).foldl step b) := ⟨_, rfl⟩
  rw [← hKK]
  simp (maxSteps := 400000) (disch := omega) only [push_cast, ↓reduceIte, reduceCtorEq, Nat.reduceAdd, Nat.reduceSub, Nat.reduceEqDiff, Nat.reduceLeDiff, Nat.reduceLT, Nat.reduceBEq, Nat.reduceDiv, Nat.reduceMod, Nat.reducePow, Nat.reduceMul, Int.reduceToNat, Int.reduceLT, Int.reduceLE, initT]
  repeat' (first | refine w1g ?_ | refine w1l ?_ | refine w1q ?_ | refine w1b ?_ | refine w1p ?_ | ((first | refine w1r ?_ | refine w1k ?_ | refine w1e ?_); simp (maxSteps := 400000) (disch := omega) only [push_cast, ↓reduceIte, reduceCtorEq, Nat.reduceAdd, Nat.reduceSub, Nat.reduceEqDiff, Nat.reduceLeDiff, Nat.reduceLT, Nat.reduceBEq, Nat.reduceDiv, Nat.reduceMod, Nat.reducePow, Nat.reduceMul, Int.reduceToNat, Int.reduceLT, Int.reduceLE, ne_l, ne_r, bq_l, bq_r, ls_l, ls_r, lm_set_same, hlb, hsb, hH1, hR1]) | refine an2 ?_ | fail)
  by_cases hk0 : k = 0
  · subst hk0
    rw [show ((r.length : Int) == 0) = true by rw [beq_iff_eq]; omega]
    have cN := fw130 h (by omega)
    have hx : P h := hP h (List.mem_singleton.2 rfl)
    refine W_cond (by rfl) (fun _ => ?_) (fun h => by cases h)
    repeat' (first | refine w1g ?_ | refine w1l ?_ | refine w1q ?_ | refine w1b ?_ | refine w1p ?_ | ((first | refine W_regS 3 (by decide) (by decide) ?_ | refine w1r ?_ | refine w1k ?_ | refine w1e ?_); simp (maxSteps := 400000) (disch := omega) only [push_cast, ↓reduceIte, reduceCtorEq, Nat.reduceAdd, Nat.reduceSub, Nat.reduceEqDiff, Nat.reduceLeDiff, Nat.reduceLT, Nat.reduceBEq, Nat.reduceDiv, Nat.reduceMod, Nat.reducePow, Nat.reduceMul, Int.reduceToNat, Int.reduceLT, Int.reduceLE, ne_l, ne_r, bq_l, bq_r, ls_l, ls_r, lm_set_same, hlb, hsb, hH1, hR1]) | refine an2 ?_ | fail)
    refine CallC.new _ (fun _ => ⟨trivial, cN⟩) ?_
    simp (maxSteps := 400000) (disch := omega) only [push_cast, ↓reduceIte, reduceCtorEq, Nat.reduceAdd, Nat.reduceSub, Nat.reduceEqDiff, Nat.reduceLeDiff, Nat.reduceLT, Nat.reduceBEq, Nat.reduceDiv, Nat.reduceMod, Nat.reducePow, Nat.reduceMul, Int.reduceToNat, Int.reduceLT, Int.reduceLE, ne_l, ne_r, bq_l, bq_r, ls_l, ls_r, lm_set_same, hlb, hsb, hH1, hR1]
    refine StopC.yld (fun hpc => ⟨trivial, Yl_le (HY b h hx _ R' _ (hR'.le (by omega))) (fun v s' hs => ?_)⟩) (fun hpc => absurd trivial hpc)
    obtain ⟨B', R2, nx2, hB', hX, ⟨rfl, rfl⟩, hl⟩ := hs
    refine ⟨_, ?_, hl⟩
    (refine sy1 ?_; try exact True.intro)
    repeat' (first | refine w1g ?_ | refine w1l ?_ | refine w1q ?_ | refine w1b ?_ | refine w1p ?_ | ((first | refine w1r ?_ | refine w1k ?_ | refine w1e ?_); (refine sy1 ?_; try exact True.intro)) | refine an2 ?_ | fail)
    refine W_ret ?_
    exact ⟨[_], _, R2, ⟨rfl, rfl⟩, sameM.refl _, hBas _, (hX.dn (by omega)).up (by first | omega | (dsimp only; omega)), by rw [hKK]; exact ⟨rfl, rfl⟩⟩
  · rw [show ((r.length : Int) == 0) = false by rw [beq_eq_false_iff_ne]; omega]
    obtain ⟨k1, rfl⟩ : ∃ k1, k = k1 + 1 := ⟨k - 1, by omega⟩
    refine W_cond (by rfl) (fun h => by cases h) (fun _ => ?_)
    repeat' (first | refine w1g ?_ | refine w1l ?_ | refine w1q ?_ | refine w1b ?_ | refine w1p ?_ | ((first | refine w1r ?_ | refine w1k ?_ | refine w1e ?_); simp (maxSteps := 400000) (disch := omega) only [push_cast, ↓reduceIte, reduceCtorEq, Nat.reduceAdd, Nat.reduceSub, Nat.reduceEqDiff, Nat.reduceLeDiff, Nat.reduceLT, Nat.reduceBEq, Nat.reduceDiv, Nat.reduceMod, Nat.reducePow, Nat.reduceMul, Int.reduceToNat, Int.reduceLT, Int.reduceLE, ne_l, ne_r, bq_l, bq_r, ls_l, ls_r, lm_set_same, hlb, hsb, hH1, hR1]) | refine an2 ?_ | fail)
    refine W_loopX N0 (fun v : Nat × ι => [(19, iv v.1)]) (fun v => B v.2) (fun v => v.1 ≤ r.length ∧ v.2 = (prmI k1 h r v.1).foldl step b) (fun v => r.length - v.1) (fun v _ => hBas _) (hR'.le (show nx' ≤ nx' + 7 by omega)) (0, b) ⟨by dsimp only; omega, rfl⟩ (by rfl) (sameM.refl _) (fun v R1 nx1 hv hX => ?_)
    obtain ⟨i, c⟩ := v
    obtain ⟨hi, hc⟩ := hv
    dsimp only at hi hc ⊢
    have hX' : Ext nx' R' nx1 R1 := ((Ext.refl hR').up (show nx' ≤ nx' + 7 by omega)).trans hX
    have hN1 := hX'.n
    have hW2 : lm R1 kw = some (goB l kw) := (hX'.eq kw (by omega)).trans hW1
    have hH2 : lm R1 kh = some (.row sh 3 1 0 cI h) := (hX'.eq kh (by omega)).trans hH1
    have hR2 : lm R1 kr = some (.row sr 3 1 0 cI r) := (hX'.eq kr (by omega)).trans hR1
    have hO1 : Opq N0 R1 nx1 := hX'.opq hR'
    simp (maxSteps := 400000) (disch := omega) only [push_cast, ↓reduceIte, reduceCtorEq, Nat.reduceAdd, Nat.reduceSub, Nat.reduceEqDiff, Nat.reduceLeDiff, Nat.reduceLT, Nat.reduceBEq, Nat.reduceDiv, Nat.reduceMod, Nat.reducePow, Nat.reduceMul, Int.reduceToNat, Int.reduceLT, Int.reduceLE, keepL]
    repeat' (first | refine w1g ?_ | refine w1l ?_ | refine w1q ?_ | refine w1b ?_ | refine w1p ?_ | ((first | refine w1r ?_ | refine w1k ?_ | refine w1e ?_); simp (maxSteps := 400000) (disch := omega) only [push_cast, ↓reduceIte, reduceCtorEq, Nat.reduceAdd, Nat.reduceSub, Nat.reduceEqDiff, Nat.reduceLeDiff, Nat.reduceLT, Nat.reduceBEq, Nat.reduceDiv, Nat.reduceMod, Nat.reducePow, Nat.reduceMul, Int.reduceToNat, Int.reduceLT, Int.reduceLE, keepL, ne_l, ne_r, bq_l, bq_r, ls_l, ls_r, lm_set_same, hlb, hsb, hH2, hR2]) | refine an2 ?_ | fail)
    refine W_condD (by rfl) (fun h5 => ?_) (fun h5 => ?_)
    · have hil : i < r.length := by omega
      have g1 : r.getD i 0 = gi r i := rfl
      generalize hx : gi r i = x at *
      have hps : prmI k1 h r (i + 1) = prmI k1 h r i ++ prm k1 (h ++ [x]) (r.eraseIdx i) := by rw [prmI_succ, hx]
      have hel : (r.eraseIdx i).length = k1 := by rw [List.length_eraseIdx, if_pos hil]; omega
      have hPi : ∀ y ∈ prm k1 (h ++ [x]) (r.eraseIdx i), P y := fun y hy => hP y (List.mem_flatMap.2 ⟨i, List.mem_range.2 hil, by rw [hx]; exact hy⟩)
      have hI := ih k1 (Nat.lt_succ_self _) (h ++ [x]) (r.eraseIdx i) c hel hPi (by rw [List.length_append, List.length_singleton]; omega)
      repeat' (first | refine w1g ?_ | refine w1l ?_ | refine w1q ?_ | refine w1b ?_ | refine w1p ?_ | ((first | refine w1r ?_ | refine w1k ?_ | refine w1e ?_); simp (maxSteps := 400000) (disch := omega) only [push_cast, ↓reduceIte, reduceCtorEq, Nat.reduceAdd, Nat.reduceSub, Nat.reduceEqDiff, Nat.reduceLeDiff, Nat.reduceLT, Nat.reduceBEq, Nat.reduceDiv, Nat.reduceMod, Nat.reducePow, Nat.reduceMul, Int.reduceToNat, Int.reduceLT, Int.reduceLE, keepL, ne_l, ne_r, bq_l, bq_r, ls_l, ls_r, lm_set_same, hlb, hsb, hH2, hR2, g1]) | refine an2 ?_ | fail)
      refine CallC.row (fo130 r (by omega)) ?_
      simp (maxSteps := 400000) (disch := omega) only [push_cast, ↓reduceIte, reduceCtorEq, Nat.reduceAdd, Nat.reduceSub, Nat.reduceEqDiff, Nat.reduceLeDiff, Nat.reduceLT, Nat.reduceBEq, Nat.reduceDiv, Nat.reduceMod, Nat.reducePow, Nat.reduceMul, Int.reduceToNat, Int.reduceLT, Int.reduceLE, ne_l, ne_r, bq_l, bq_r, ls_l, ls_r, lm_set_same, hlb, hsb, hH2, hR2, g1]
      refine CallC.inl (Inl_del (by rw [hlb _ _ _ (by omega), lm_set_same]) hil ?_)
      simp (maxSteps := 400000) (disch := omega) only [push_cast, ↓reduceIte, reduceCtorEq, Nat.reduceAdd, Nat.reduceSub, Nat.reduceEqDiff, Nat.reduceLeDiff, Nat.reduceLT, Nat.reduceBEq, Nat.reduceDiv, Nat.reduceMod, Nat.reducePow, Nat.reduceMul, Int.reduceToNat, Int.reduceLT, Int.reduceLE, ne_l, ne_r, bq_l, bq_r, ls_l, ls_r, lm_set_same, hlb, hsb, hH2, hR2, g1, setm_setm]
      repeat' (first | refine w1g ?_ | refine w1l ?_ | refine w1q ?_ | refine w1b ?_ | refine w1p ?_ | ((first | refine W_regS 7 (by decide) (by decide) ?_ | refine w1r ?_ | refine w1k ?_ | refine w1e ?_); simp (maxSteps := 400000) (disch := omega) only [push_cast, ↓reduceIte, reduceCtorEq, Nat.reduceAdd, Nat.reduceSub, Nat.reduceEqDiff, Nat.reduceLeDiff, Nat.reduceLT, Nat.reduceBEq, Nat.reduceDiv, Nat.reduceMod, Nat.reducePow, Nat.reduceMul, Int.reduceToNat, Int.reduceLT, Int.reduceLE, ne_l, ne_r, bq_l, bq_r, ls_l, ls_r, lm_set_same, hlb, hsb, hH2, hR2, hW2, g1]) | refine an2 ?_ | fail)
      refine CallC.row (fo130 h (by omega)) ?_
      simp (maxSteps := 400000) (disch := omega) only [push_cast, ↓reduceIte, reduceCtorEq, Nat.reduceAdd, Nat.reduceSub, Nat.reduceEqDiff, Nat.reduceLeDiff, Nat.reduceLT, Nat.reduceBEq, Nat.reduceDiv, Nat.reduceMod, Nat.reducePow, Nat.reduceMul, Int.reduceToNat, Int.reduceLT, Int.reduceLE, ne_l, ne_r, bq_l, bq_r, ls_l, ls_r, lm_set_same, hlb, hsb, hH2, hR2, hW2, g1]
      refine ⟨rfl, trivial, Int, 0, cI, [x], rfl, by omega, fun x _ => ⟨rfl, rfl⟩, rfl, ?_⟩
      simp (maxSteps := 400000) (disch := omega) only [push_cast, ↓reduceIte, reduceCtorEq, Nat.reduceAdd, Nat.reduceSub, Nat.reduceEqDiff, Nat.reduceLeDiff, Nat.reduceLT, Nat.reduceBEq, Nat.reduceDiv, Nat.reduceMod, Nat.reducePow, Nat.reduceMul, Int.reduceToNat, Int.reduceLT, Int.reduceLE, ne_l, ne_r, bq_l, bq_r, ls_l, ls_r, lm_set_same, hlb, hsb, hH2, hR2, hW2, g1]
      refine ⟨rfl, ⟨by dsimp only; omega, (hasM_iff _ _).2 (by rw [hlb _ _ _ (by omega)]; simp (disch := omega) [lm, ne_l, ne_r, ls_l, ls_r, lm_set_same])⟩, trivial, [x], rfl, by first | omega | (simp; omega), by first | omega | (simp; omega), ?_⟩
      simp (maxSteps := 400000) (disch := omega) only [push_cast, ↓reduceIte, reduceCtorEq, Nat.reduceAdd, Nat.reduceSub, Nat.reduceEqDiff, Nat.reduceLeDiff, Nat.reduceLT, Nat.reduceBEq, Nat.reduceDiv, Nat.reduceMod, Nat.reducePow, Nat.reduceMul, Int.reduceToNat, Int.reduceLT, Int.reduceLE, ne_l, ne_r, bq_l, bq_r, ls_l, ls_r, lm_set_same, hlb, hsb, hH2, hR2, hW2, g1]
      have hX2 := fun (k1 k2 k3 N2 : Nat) (g1 g2 g3 g4 : Blk) (q1 : nx1 ≤ k1) (q2 : nx1 ≤ k2) (q3 : nx1 ≤ k3) (q4 : k1 < N2) (q5 : k2 < N2) (q6 : k3 < N2) => (((((Ext.refl hO1).put (g := g1) q1 q4 (by omega)).put (g := g2) q2 q5 (Nat.le_refl _)).put (g := g3) q3 q6 (Nat.le_refl _)).put (g := g4) q2 q5 (Nat.le_refl _))
      refine CallC.inl (Inl_le' (hI _ _ _ kw _ _ _ _ (Ext.opq (hX2 _ _ _ _ _ _ _ _ (by omega) (by omega) (by omega) (by omega) (by omega) (by omega)) hO1) ⟨by omega, by omega⟩ (by simp (disch := omega) only [ls_l, ls_r]; exact hW2) ⟨by omega, by omega⟩ (lm_set_same _ _ _) ⟨by omega, by omega⟩ (by rw [lm_set_other _ _ (by omega), lm_set_other _ _ (by omega), lm_set_other _ _ (by omega), lm_set_same])) (fun v s' hs2 => ?_))
      obtain ⟨B', R3, nx3, hB', hX3, ⟨rfl, rfl⟩, hl⟩ := hs2
      refine ⟨_, ?_, hl⟩
      (refine sy1 ?_; try exact True.intro)
      refine W_cond (by rfl) (fun h => by cases h) (fun _ => ?_)
      repeat' (first | refine w1g ?_ | refine w1l ?_ | refine w1q ?_ | refine w1b ?_ | refine w1p ?_ | ((first | refine w1r ?_ | refine w1k ?_ | refine w1e ?_); simp (maxSteps := 400000) (disch := omega) only [push_cast, ↓reduceIte, reduceCtorEq, Nat.reduceAdd, Nat.reduceSub, Nat.reduceEqDiff, Nat.reduceLeDiff, Nat.reduceLT, Nat.reduceBEq, Nat.reduceDiv, Nat.reduceMod, Nat.reducePow, Nat.reduceMul, Int.reduceToNat, Int.reduceLT, Int.reduceLE, keepL]) | refine an2 ?_ | fail)
      refine ⟨(i + 1, (prm k1 (h ++ [x]) (r.eraseIdx i)).foldl step c), R3, ⟨by dsimp only; omega, by dsimp only; rw [hps, List.foldl_append, ← hc]⟩, by dsimp only; omega, by rfl, sameM.refl _, ?_⟩
      exact ((hX2 _ _ _ _ _ _ _ _ (by omega) (by omega) (by omega) (by omega) (by omega) (by omega)).trans hX3).up (by first | omega | (dsimp only; omega))
    · obtain rfl : i = r.length := by omega
      repeat' (first | refine w1g ?_ | refine w1l ?_ | refine w1q ?_ | refine w1b ?_ | refine w1p ?_ | ((first | refine w1r ?_ | refine w1k ?_ | refine w1e ?_); (refine sy1 ?_; try exact True.intro)) | refine an2 ?_ | fail)
      refine W_ret ?_
      exact ⟨[_], _, R1, ⟨rfl, rfl⟩, sameM.refl _, hBas _, hX'.up (by first | omega | (dsimp only; omega)), by rw [hKK]; exact ⟨rfl, by rw [hc]; rfl⟩⟩
theorem i129_all (hBas : ∀ b, Bas N0 (B b)) (HY : YP B step N0 l P) (k : Nat) : i129P B step N0 l P k := by
  induction k using Nat.strongRecOn with
  | _ k ih => exact i129 hBas HY k ih
theorem i129F (hBas : ∀ b, Bas N0 (B b)) (HY : YP B step N0 l P) (k : Nat) (ih : ∀ j, i129P B step N0 l P j) (h r : List Int) (b : ι) (hrl : r.length = k) (hP : ∀ x ∈ prm k h r, P x) (hlen : h.length + k ≤ 1000) (tm : List (Nat × AV)) (R : Mem) (nx kw kh sh : Nat) (hR : Opq N0 R nx) (hkw : N0 ≤ kw ∧ kw < nx) (hW : lm R kw = some (goB l kw)) (hkh : N0 ≤ kh ∧ kh < nx) (hH : lm R kh = some (.row sh 3 1 0 cI h)) :
    Inl Try.prog 129 [.row kh sh, aI r, .fp [yv l] 0, .own kw 0] ⟨tm, B b ++ R, nx⟩ (MidX N0 tm nx R fun v B' => v = bv true ∧ B' = B ((prm k h r).foldl step b)) := by
  refine Inl_opqE mixed Xt129 rfl hR (hBas b) (fun R' nx' hR' hlt hE => ?_)
  have hW1 : lm R' kw = some (goB l kw) := (hE kw hkw.2).trans hW
  have hH1 : lm R' kh = some (.row sh 3 1 0 cI h) := (hE kh hkh.2).trans hH
  have hN := hR'.n
  have hlb : ∀ (b : ι) (R : Mem) (j : Nat), N0 ≤ j → lm (B b ++ R) j = lm R j := fun b R j hj => lm_app_r (hBas b j hj)
  have hsb : ∀ (b : ι) (R : Mem) (j : Nat) (x : Blk), N0 ≤ j → setm (B b ++ R) j x = B b ++ setm R j x := fun b R j x hj => setm_appr x (hBas b j hj)
  have hbl := @bq_l
  obtain ⟨KK, hKK⟩ : ∃ KK : AV → Mem → Prop, KK = fun v B' => v = bv true ∧ B' = B ((prm k h r).foldl step b) := ⟨_, rfl⟩
  rw [← hKK]
  simp (maxSteps := 400000) (disch := omega) only [push_cast, ↓reduceIte, reduceCtorEq, Nat.reduceAdd, Nat.reduceSub, Nat.reduceEqDiff, Nat.reduceLeDiff, Nat.reduceLT, Nat.reduceBEq, Nat.reduceDiv, Nat.reduceMod, Nat.reducePow, Nat.reduceMul, Int.reduceToNat, Int.reduceLT, Int.reduceLE, initT]
  repeat' (first | refine w1g ?_ | refine w1l ?_ | refine w1q ?_ | refine w1b ?_ | refine w1p ?_ | ((first | refine w1r ?_ | refine w1k ?_ | refine w1e ?_); simp (maxSteps := 400000) (disch := omega) only [push_cast, ↓reduceIte, reduceCtorEq, Nat.reduceAdd, Nat.reduceSub, Nat.reduceEqDiff, Nat.reduceLeDiff, Nat.reduceLT, Nat.reduceBEq, Nat.reduceDiv, Nat.reduceMod, Nat.reducePow, Nat.reduceMul, Int.reduceToNat, Int.reduceLT, Int.reduceLE, ne_l, ne_r, bq_l, bq_r, ls_l, ls_r, lm_set_same, hlb, hsb, hH1]) | refine an2 ?_ | fail)
  by_cases hk0 : k = 0
  · subst hk0
    rw [show ((r.length : Int) == 0) = true by rw [beq_iff_eq]; omega]
    have cN := fw130 h (by omega)
    have hx : P h := hP h (List.mem_singleton.2 rfl)
    refine W_cond (by rfl) (fun _ => ?_) (fun h => by cases h)
    repeat' (first | refine w1g ?_ | refine w1l ?_ | refine w1q ?_ | refine w1b ?_ | refine w1p ?_ | ((first | refine W_regS 3 (by decide) (by decide) ?_ | refine w1r ?_ | refine w1k ?_ | refine w1e ?_); simp (maxSteps := 400000) (disch := omega) only [push_cast, ↓reduceIte, reduceCtorEq, Nat.reduceAdd, Nat.reduceSub, Nat.reduceEqDiff, Nat.reduceLeDiff, Nat.reduceLT, Nat.reduceBEq, Nat.reduceDiv, Nat.reduceMod, Nat.reducePow, Nat.reduceMul, Int.reduceToNat, Int.reduceLT, Int.reduceLE, ne_l, ne_r, bq_l, bq_r, ls_l, ls_r, lm_set_same, hlb, hsb, hH1]) | refine an2 ?_ | fail)
    refine CallC.new _ (fun _ => ⟨trivial, cN⟩) ?_
    simp (maxSteps := 400000) (disch := omega) only [push_cast, ↓reduceIte, reduceCtorEq, Nat.reduceAdd, Nat.reduceSub, Nat.reduceEqDiff, Nat.reduceLeDiff, Nat.reduceLT, Nat.reduceBEq, Nat.reduceDiv, Nat.reduceMod, Nat.reducePow, Nat.reduceMul, Int.reduceToNat, Int.reduceLT, Int.reduceLE, ne_l, ne_r, bq_l, bq_r, ls_l, ls_r, lm_set_same, hlb, hsb, hH1]
    refine StopC.yld (fun hpc => ⟨trivial, Yl_le (HY b h hx _ R' _ (hR'.le (by omega))) (fun v s' hs => ?_)⟩) (fun hpc => absurd trivial hpc)
    obtain ⟨B', R2, nx2, hB', hX, ⟨rfl, rfl⟩, hl⟩ := hs
    refine ⟨_, ?_, hl⟩
    (refine sy1 ?_; try exact True.intro)
    repeat' (first | refine w1g ?_ | refine w1l ?_ | refine w1q ?_ | refine w1b ?_ | refine w1p ?_ | ((first | refine w1r ?_ | refine w1k ?_ | refine w1e ?_); (refine sy1 ?_; try exact True.intro)) | refine an2 ?_ | fail)
    refine W_ret ?_
    exact ⟨[_], _, R2, ⟨rfl, rfl⟩, sameM.refl _, hBas _, (hX.dn (by omega)).up (by first | omega | (dsimp only; omega)), by rw [hKK]; exact ⟨rfl, rfl⟩⟩
  · rw [show ((r.length : Int) == 0) = false by rw [beq_eq_false_iff_ne]; omega]
    obtain ⟨k1, rfl⟩ : ∃ k1, k = k1 + 1 := ⟨k - 1, by omega⟩
    refine W_cond (by rfl) (fun h => by cases h) (fun _ => ?_)
    repeat' (first | refine w1g ?_ | refine w1l ?_ | refine w1q ?_ | refine w1b ?_ | refine w1p ?_ | ((first | refine w1r ?_ | refine w1k ?_ | refine w1e ?_); simp (maxSteps := 400000) (disch := omega) only [push_cast, ↓reduceIte, reduceCtorEq, Nat.reduceAdd, Nat.reduceSub, Nat.reduceEqDiff, Nat.reduceLeDiff, Nat.reduceLT, Nat.reduceBEq, Nat.reduceDiv, Nat.reduceMod, Nat.reducePow, Nat.reduceMul, Int.reduceToNat, Int.reduceLT, Int.reduceLE, ne_l, ne_r, bq_l, bq_r, ls_l, ls_r, lm_set_same, hlb, hsb, hH1]) | refine an2 ?_ | fail)
    refine W_loopX N0 (fun v : Nat × ι => [(19, iv v.1)]) (fun v => B v.2) (fun v => v.1 ≤ r.length ∧ v.2 = (prmI k1 h r v.1).foldl step b) (fun v => r.length - v.1) (fun v _ => hBas _) (hR'.le (show nx' ≤ nx' + 7 by omega)) (0, b) ⟨by dsimp only; omega, rfl⟩ (by rfl) (sameM.refl _) (fun v R1 nx1 hv hX => ?_)
    obtain ⟨i, c⟩ := v
    obtain ⟨hi, hc⟩ := hv
    dsimp only at hi hc ⊢
    have hX' : Ext nx' R' nx1 R1 := ((Ext.refl hR').up (show nx' ≤ nx' + 7 by omega)).trans hX
    have hN1 := hX'.n
    have hW2 : lm R1 kw = some (goB l kw) := (hX'.eq kw (by omega)).trans hW1
    have hH2 : lm R1 kh = some (.row sh 3 1 0 cI h) := (hX'.eq kh (by omega)).trans hH1
    have hO1 : Opq N0 R1 nx1 := hX'.opq hR'
    simp (maxSteps := 400000) (disch := omega) only [push_cast, ↓reduceIte, reduceCtorEq, Nat.reduceAdd, Nat.reduceSub, Nat.reduceEqDiff, Nat.reduceLeDiff, Nat.reduceLT, Nat.reduceBEq, Nat.reduceDiv, Nat.reduceMod, Nat.reducePow, Nat.reduceMul, Int.reduceToNat, Int.reduceLT, Int.reduceLE, keepL]
    repeat' (first | refine w1g ?_ | refine w1l ?_ | refine w1q ?_ | refine w1b ?_ | refine w1p ?_ | ((first | refine w1r ?_ | refine w1k ?_ | refine w1e ?_); simp (maxSteps := 400000) (disch := omega) only [push_cast, ↓reduceIte, reduceCtorEq, Nat.reduceAdd, Nat.reduceSub, Nat.reduceEqDiff, Nat.reduceLeDiff, Nat.reduceLT, Nat.reduceBEq, Nat.reduceDiv, Nat.reduceMod, Nat.reducePow, Nat.reduceMul, Int.reduceToNat, Int.reduceLT, Int.reduceLE, keepL, ne_l, ne_r, bq_l, bq_r, ls_l, ls_r, lm_set_same, hlb, hsb, hH2]) | refine an2 ?_ | fail)
    refine W_condD (by rfl) (fun h5 => ?_) (fun h5 => ?_)
    · have hil : i < r.length := by omega
      have g1 : r.getD i 0 = gi r i := rfl
      generalize hx : gi r i = x at *
      have hps : prmI k1 h r (i + 1) = prmI k1 h r i ++ prm k1 (h ++ [x]) (r.eraseIdx i) := by rw [prmI_succ, hx]
      have hel : (r.eraseIdx i).length = k1 := by rw [List.length_eraseIdx, if_pos hil]; omega
      have hPi : ∀ y ∈ prm k1 (h ++ [x]) (r.eraseIdx i), P y := fun y hy => hP y (List.mem_flatMap.2 ⟨i, List.mem_range.2 hil, by rw [hx]; exact hy⟩)
      have hI := ih k1 (h ++ [x]) (r.eraseIdx i) c hel hPi (by rw [List.length_append, List.length_singleton]; omega)
      repeat' (first | refine w1g ?_ | refine w1l ?_ | refine w1q ?_ | refine w1b ?_ | refine w1p ?_ | ((first | refine w1r ?_ | refine w1k ?_ | refine w1e ?_); simp (maxSteps := 400000) (disch := omega) only [push_cast, ↓reduceIte, reduceCtorEq, Nat.reduceAdd, Nat.reduceSub, Nat.reduceEqDiff, Nat.reduceLeDiff, Nat.reduceLT, Nat.reduceBEq, Nat.reduceDiv, Nat.reduceMod, Nat.reducePow, Nat.reduceMul, Int.reduceToNat, Int.reduceLT, Int.reduceLE, keepL, ne_l, ne_r, bq_l, bq_r, ls_l, ls_r, lm_set_same, hlb, hsb, hH2, g1]) | refine an2 ?_ | fail)
      refine CallC.row (fo130 r (by omega)) ?_
      simp (maxSteps := 400000) (disch := omega) only [push_cast, ↓reduceIte, reduceCtorEq, Nat.reduceAdd, Nat.reduceSub, Nat.reduceEqDiff, Nat.reduceLeDiff, Nat.reduceLT, Nat.reduceBEq, Nat.reduceDiv, Nat.reduceMod, Nat.reducePow, Nat.reduceMul, Int.reduceToNat, Int.reduceLT, Int.reduceLE, ne_l, ne_r, bq_l, bq_r, ls_l, ls_r, lm_set_same, hlb, hsb, hH2, g1]
      refine CallC.inl (Inl_del (by rw [hlb _ _ _ (by omega), lm_set_same]) hil ?_)
      simp (maxSteps := 400000) (disch := omega) only [push_cast, ↓reduceIte, reduceCtorEq, Nat.reduceAdd, Nat.reduceSub, Nat.reduceEqDiff, Nat.reduceLeDiff, Nat.reduceLT, Nat.reduceBEq, Nat.reduceDiv, Nat.reduceMod, Nat.reducePow, Nat.reduceMul, Int.reduceToNat, Int.reduceLT, Int.reduceLE, ne_l, ne_r, bq_l, bq_r, ls_l, ls_r, lm_set_same, hlb, hsb, hH2, g1, setm_setm]
      repeat' (first | refine w1g ?_ | refine w1l ?_ | refine w1q ?_ | refine w1b ?_ | refine w1p ?_ | ((first | refine W_regS 7 (by decide) (by decide) ?_ | refine w1r ?_ | refine w1k ?_ | refine w1e ?_); simp (maxSteps := 400000) (disch := omega) only [push_cast, ↓reduceIte, reduceCtorEq, Nat.reduceAdd, Nat.reduceSub, Nat.reduceEqDiff, Nat.reduceLeDiff, Nat.reduceLT, Nat.reduceBEq, Nat.reduceDiv, Nat.reduceMod, Nat.reducePow, Nat.reduceMul, Int.reduceToNat, Int.reduceLT, Int.reduceLE, ne_l, ne_r, bq_l, bq_r, ls_l, ls_r, lm_set_same, hlb, hsb, hH2, hW2, g1]) | refine an2 ?_ | fail)
      refine CallC.row (fo130 h (by omega)) ?_
      simp (maxSteps := 400000) (disch := omega) only [push_cast, ↓reduceIte, reduceCtorEq, Nat.reduceAdd, Nat.reduceSub, Nat.reduceEqDiff, Nat.reduceLeDiff, Nat.reduceLT, Nat.reduceBEq, Nat.reduceDiv, Nat.reduceMod, Nat.reducePow, Nat.reduceMul, Int.reduceToNat, Int.reduceLT, Int.reduceLE, ne_l, ne_r, bq_l, bq_r, ls_l, ls_r, lm_set_same, hlb, hsb, hH2, hW2, g1]
      refine ⟨rfl, trivial, Int, 0, cI, [x], rfl, by omega, fun x _ => ⟨rfl, rfl⟩, rfl, ?_⟩
      simp (maxSteps := 400000) (disch := omega) only [push_cast, ↓reduceIte, reduceCtorEq, Nat.reduceAdd, Nat.reduceSub, Nat.reduceEqDiff, Nat.reduceLeDiff, Nat.reduceLT, Nat.reduceBEq, Nat.reduceDiv, Nat.reduceMod, Nat.reducePow, Nat.reduceMul, Int.reduceToNat, Int.reduceLT, Int.reduceLE, ne_l, ne_r, bq_l, bq_r, ls_l, ls_r, lm_set_same, hlb, hsb, hH2, hW2, g1]
      refine ⟨rfl, ⟨by dsimp only; omega, (hasM_iff _ _).2 (by rw [hlb _ _ _ (by omega)]; simp (disch := omega) [lm, ne_l, ne_r, ls_l, ls_r, lm_set_same])⟩, trivial, [x], rfl, by first | omega | (simp; omega), by first | omega | (simp; omega), ?_⟩
      simp (maxSteps := 400000) (disch := omega) only [push_cast, ↓reduceIte, reduceCtorEq, Nat.reduceAdd, Nat.reduceSub, Nat.reduceEqDiff, Nat.reduceLeDiff, Nat.reduceLT, Nat.reduceBEq, Nat.reduceDiv, Nat.reduceMod, Nat.reducePow, Nat.reduceMul, Int.reduceToNat, Int.reduceLT, Int.reduceLE, ne_l, ne_r, bq_l, bq_r, ls_l, ls_r, lm_set_same, hlb, hsb, hH2, hW2, g1]
      have hX2 := fun (k1 k2 k3 N2 : Nat) (g1 g2 g3 g4 : Blk) (q1 : nx1 ≤ k1) (q2 : nx1 ≤ k2) (q3 : nx1 ≤ k3) (q4 : k1 < N2) (q5 : k2 < N2) (q6 : k3 < N2) => (((((Ext.refl hO1).put (g := g1) q1 q4 (by omega)).put (g := g2) q2 q5 (Nat.le_refl _)).put (g := g3) q3 q6 (Nat.le_refl _)).put (g := g4) q2 q5 (Nat.le_refl _))
      refine CallC.inl (Inl_le' (hI _ _ _ kw _ _ _ _ (Ext.opq (hX2 _ _ _ _ _ _ _ _ (by omega) (by omega) (by omega) (by omega) (by omega) (by omega)) hO1) ⟨by omega, by omega⟩ (by simp (disch := omega) only [ls_l, ls_r]; exact hW2) ⟨by omega, by omega⟩ (lm_set_same _ _ _) ⟨by omega, by omega⟩ (by rw [lm_set_other _ _ (by omega), lm_set_other _ _ (by omega), lm_set_other _ _ (by omega), lm_set_same])) (fun v s' hs2 => ?_))
      obtain ⟨B', R3, nx3, hB', hX3, ⟨rfl, rfl⟩, hl⟩ := hs2
      refine ⟨_, ?_, hl⟩
      (refine sy1 ?_; try exact True.intro)
      refine W_cond (by rfl) (fun h => by cases h) (fun _ => ?_)
      repeat' (first | refine w1g ?_ | refine w1l ?_ | refine w1q ?_ | refine w1b ?_ | refine w1p ?_ | ((first | refine w1r ?_ | refine w1k ?_ | refine w1e ?_); simp (maxSteps := 400000) (disch := omega) only [push_cast, ↓reduceIte, reduceCtorEq, Nat.reduceAdd, Nat.reduceSub, Nat.reduceEqDiff, Nat.reduceLeDiff, Nat.reduceLT, Nat.reduceBEq, Nat.reduceDiv, Nat.reduceMod, Nat.reducePow, Nat.reduceMul, Int.reduceToNat, Int.reduceLT, Int.reduceLE, keepL]) | refine an2 ?_ | fail)
      refine ⟨(i + 1, (prm k1 (h ++ [x]) (r.eraseIdx i)).foldl step c), R3, ⟨by dsimp only; omega, by dsimp only; rw [hps, List.foldl_append, ← hc]⟩, by dsimp only; omega, by rfl, sameM.refl _, ?_⟩
      exact ((hX2 _ _ _ _ _ _ _ _ (by omega) (by omega) (by omega) (by omega) (by omega) (by omega)).trans hX3).up (by first | omega | (dsimp only; omega))
    · obtain rfl : i = r.length := by omega
      repeat' (first | refine w1g ?_ | refine w1l ?_ | refine w1q ?_ | refine w1b ?_ | refine w1p ?_ | ((first | refine w1r ?_ | refine w1k ?_ | refine w1e ?_); (refine sy1 ?_; try exact True.intro)) | refine an2 ?_ | fail)
      refine W_ret ?_
      exact ⟨[_], _, R1, ⟨rfl, rfl⟩, sameM.refl _, hBas _, hX'.up (by first | omega | (dsimp only; omega)), by rw [hKK]; exact ⟨rfl, by rw [hc]; rfl⟩⟩
theorem i128 (hBas : ∀ b, Bas N0 (B b)) (HY : YP B step N0 l P) (L : List Int) (b : ι) (hP : ∀ x ∈ prm L.length [] L, P x) (hlen : L.length ≤ 1000) (tm : List (Nat × AV)) (R : Mem) (nx : Nat) (hR : Opq N0 R nx) :
    Inl Try.prog 128 [yv l, .fp [aI L] 0] ⟨tm, B b ++ R, nx⟩ (MidX N0 tm nx R fun v B' => v = pack [] ∧ B' = B ((prm L.length [] L).foldl step b)) := by
  refine Inl_opqE mixed Xt128 rfl hR (hBas b) (fun R' nx' hR' hlt hE => ?_)
  have hN := hR'.n
  have hlb : ∀ (b : ι) (R : Mem) (j : Nat), N0 ≤ j → lm (B b ++ R) j = lm R j := fun b R j hj => lm_app_r (hBas b j hj)
  have hsb : ∀ (b : ι) (R : Mem) (j : Nat) (x : Blk), N0 ≤ j → setm (B b ++ R) j x = B b ++ setm R j x := fun b R j x hj => setm_appr x (hBas b j hj)
  have hI := i129F hBas HY L.length (i129_all hBas HY) [] L b rfl hP (by simpa using hlen)
  obtain ⟨KK, hKK⟩ : ∃ KK : AV → Mem → Prop, KK = fun v B' => v = pack [] ∧ B' = B ((prm L.length [] L).foldl step b) := ⟨_, rfl⟩
  rw [← hKK]
  simp (maxSteps := 400000) (disch := omega) only [push_cast, ↓reduceIte, reduceCtorEq, Nat.reduceAdd, Nat.reduceSub, Nat.reduceEqDiff, Nat.reduceLeDiff, Nat.reduceLT, Nat.reduceBEq, Nat.reduceDiv, Nat.reduceMod, Nat.reducePow, Nat.reduceMul, Int.reduceToNat, Int.reduceLT, Int.reduceLE, initT]
  repeat' (first | refine w1g ?_ | refine w1l ?_ | refine w1q ?_ | refine w1b ?_ | refine w1p ?_ | ((first | refine w1r ?_ | refine w1k ?_ | refine w1e ?_); simp (maxSteps := 400000) (disch := omega) only [push_cast, ↓reduceIte, reduceCtorEq, Nat.reduceAdd, Nat.reduceSub, Nat.reduceEqDiff, Nat.reduceLeDiff, Nat.reduceLT, Nat.reduceBEq, Nat.reduceDiv, Nat.reduceMod, Nat.reducePow, Nat.reduceMul, Int.reduceToNat, Int.reduceLT, Int.reduceLE, ne_l, ne_r, bq_l, bq_r, ls_l, ls_r, lm_set_same, setm_setm, hlb, hsb]) | refine an2 ?_ | fail)
  refine ⟨⟨by omega, (hasM_iff _ _).2 (by rw [hlb _ _ _ (by omega), lm_set_same]; simp)⟩, ?_⟩
  repeat' (first | refine w1g ?_ | refine w1l ?_ | refine w1q ?_ | refine w1b ?_ | refine w1p ?_ | ((first | refine w1r ?_ | refine w1k ?_ | refine w1e ?_); simp (maxSteps := 400000) (disch := omega) only [push_cast, ↓reduceIte, reduceCtorEq, Nat.reduceAdd, Nat.reduceSub, Nat.reduceEqDiff, Nat.reduceLeDiff, Nat.reduceLT, Nat.reduceBEq, Nat.reduceDiv, Nat.reduceMod, Nat.reducePow, Nat.reduceMul, Int.reduceToNat, Int.reduceLT, Int.reduceLE, ne_l, ne_r, bq_l, bq_r, ls_l, ls_r, lm_set_same, setm_setm, hlb, hsb]) | refine an2 ?_ | fail)
  have hX1 := fun (k1 N2 : Nat) (g1 : Blk) (q1 : nx' ≤ k1) (q3 : k1 < N2) => (Ext.refl hR').put (g := g1) q1 q3 (by omega)
  have hX2 := fun (k1 N2 : Nat) (g1 : Blk) (q1 : nx' ≤ k1) (q3 : k1 < N2) => Ext.opq (hX1 k1 N2 g1 q1 q3) hR'
  refine CallC.inl (Inl_adopt 3 1 0 cI (by omega) (Inl_sameM (B b ++ ((nx' + 1 + 1 + 1 + 1 + 1 + 1, .row 0 3 1 0 cI []) :: setm R' (nx' + 1) (goB l (nx' + 1)))) _ (fun k => ((sm_push (hBas b) (by omega)) k).symm) (((hX2 (nx' + 1) (nx' + 1 + 1 + 1 + 1 + 1 + 1) _ (by omega) (by omega)).push _).mem (hBas b)) (Inl_le' (hI _ _ _ (nx' + 1) (nx' + 1 + 1 + 1 + 1 + 1 + 1) 0 ((hX2 (nx' + 1) (nx' + 1 + 1 + 1 + 1 + 1 + 1) _ (by omega) (by omega)).push _) ⟨by omega, by omega⟩ (by simp only [lm]; rw [if_neg (by omega)]; exact lm_set_same _ _ _) ⟨by omega, by omega⟩ (by simp [lm])) (fun v s' hs2 => ?_))))
  obtain ⟨B', R3, nx3, hB', hX3, ⟨rfl, rfl⟩, hl⟩ := hs2
  refine ⟨_, ?_, hl⟩
  (refine sy1 ?_; try exact True.intro)
  exact ⟨[], _, R3, rfl, sameM.refl _, hBas _, (((hX1 (nx' + 1) (nx' + 1 + 1 + 1 + 1 + 1 + 1) _ (by omega) (by omega)).push (Nat.le_refl _) (Nat.lt_succ_self _)).trans hX3).up (by first | omega | (dsimp only; omega)), by rw [hKK]; exact ⟨rfl, rfl⟩⟩
end
end Go.Proofs.Ytoiohkjomcbadaa

namespace Go.Proofs.Ytoiohkjomcbadaa
open Go Sy
set_option maxRecDepth 100000
set_option maxHeartbeats 4000000
set_option linter.unusedVariables false
set_option linter.unusedSimpArgs false
theorem pure_cV : ∀ x : List Value, pureAll (cV x) = true
  | [] => rfl
  | v :: x => by
    have := pure_cV x
    simp only [cV, List.map_cons, pureAll, pureB, Bool.true_and] at this ⊢
    exact this
theorem c108 : FnC Try.prog 108 52 1 := fun l hlv hl => by
  refine FnO_of_W mixed Xt108 rfl (fun x _ => pure_cV x) ?_
  repeat (first | refine WK_go ?_ | refine W_seqL ?_ | refine W_seq ?_ | refine W_block ?_)
  refine W_regL ?_
  (refine sy1 ?_; try exact True.intro)
  repeat (first | refine WK_go ?_ | refine W_seqL ?_ | refine W_seq ?_ | refine W_block ?_)
  refine W_regX [1] ?_
  simp (maxSteps := 400000) (disch := omega) only [push_cast, ↓reduceIte, reduceCtorEq, Nat.reduceAdd, Nat.reduceSub, Nat.reduceEqDiff, Nat.reduceLeDiff, Nat.reduceLT, Nat.reduceBEq, Nat.reduceDiv, Nat.reduceMod, Nat.reducePow, Nat.reduceMul, Int.reduceToNat, Int.reduceLT, Int.reduceLE, chainX, SpM, List.take_succ_cons, List.take_zero, List.drop_succ_cons, List.drop_zero]
  refine ⟨[], rfl, 1, List Value, [], cV, l, rfl, fun b hb => ?_⟩
  (refine sy1 ?_; try exact True.intro)
  cases b
  · refine W_cond (by rfl) (fun h => by cases h) (fun _ => ?_)
    repeat' (first | refine w1g ?_ | refine w1l ?_ | refine w1q ?_ | refine w1b ?_ | refine w1p ?_ | ((first | refine w1r ?_ | refine w1k ?_ | refine w1e ?_); (refine sy1 ?_; try exact True.intro)) | refine an2 ?_ | fail)
    refine ⟨rfl, trivial, List Value, [], cV, [], rfl, by omega, fun x hx => (by cases hx), rfl, ?_⟩
    (refine sy1 ?_; try exact True.intro)
    refine ⟨rfl, ⟨Nat.le_of_ble_eq_true rfl, rfl⟩, trivial, l, rfl, by first | omega | (simp; omega), by first | omega | (simp; omega), ?_⟩
    (refine sy1 ?_; try exact True.intro)
    exact W_ret ⟨_, _, ⟨rfl, rfl⟩, rfl⟩
  · refine W_cond (by rfl) (fun _ => ?_) (fun h => by cases h)
    have e : l = [] := by
      cases l with
      | nil => rfl
      | cons x r => have := hb (by simp); cases this
    subst e
    repeat' (first | refine w1g ?_ | refine w1l ?_ | refine w1q ?_ | refine w1b ?_ | refine w1p ?_ | ((first | refine w1r ?_ | refine w1k ?_ | refine w1e ?_); (refine sy1 ?_; try exact True.intro)) | refine an2 ?_ | fail)
    refine W_le (le_adopt 2 52 1 [] cV (by omega) rfl) ?_
    (refine sy1 ?_; try exact True.intro)
    exact W_ret ⟨_, _, ⟨rfl, rfl⟩, rfl⟩
theorem fn59 (j : Jb) : Sy.Fn Try.prog 59 [aJ j] (.clo 106 [] [.fp (cJ j) 0]) := by
  refine Fn_of_W mixed Xt59 rfl ?_
  repeat' (first | refine w1g ?_ | refine w1l ?_ | refine w1q ?_ | refine w1b ?_ | refine w1p ?_ | ((first | refine w1r ?_ | refine w1k ?_ | refine w1e ?_); (refine sy1 ?_; try exact True.intro)) | refine an2 ?_ | fail)
  exact W_ret ⟨[_], ⟨rfl, rfl⟩, rfl⟩
theorem fn109 (l : List Int) : Sy.Fn Try.prog 109 [aI l] (.clo 128 [] [.fp [aI l] 0]) := by
  refine Fn_of_W mixed Xt109 rfl ?_
  repeat' (first | refine w1g ?_ | refine w1l ?_ | refine w1q ?_ | refine w1b ?_ | refine w1p ?_ | ((first | refine w1r ?_ | refine w1k ?_ | refine w1e ?_); (refine sy1 ?_; try exact True.intro)) | refine an2 ?_ | fail)
  exact W_ret ⟨[_], ⟨rfl, rfl⟩, rfl⟩
def ordsK (j : Jb) : Nat → List (List Int) → List (List (List Int))
  | 0, h => [h]
  | k + 1, h => (prm (memT j h.length).length [] (memT j h.length)).flatMap fun x => ordsK j k (h ++ [x])
theorem RndX_of {N0 kl l nx nx3 : Nat} {L : Loop} {K : Bool → Mem → Prop} {Bk R R1 R3 : Mem} {tm2 : List (Nat × AV)} {s' : S} (hB : Bas N0 Bk) (h01 : N0 ≤ kl) (hR1 : ∀ j, kl ≤ j → lm R1 j = none) (hR : Opq (kl + 1) R nx)
    (hX : Ext nx (((kl, .oth (.lp l (busyL L) tm2)) :: R1) ++ R) nx3 R3) (hs : s'.mem = Bk ++ R3) (hn : nx3 ≤ s'.nx) (hK : K true (Bk ++ ((kl, .oth (.lp l L tm2)) :: R1))) : RndX (kl + 1) kl l L nx R K .n s' := by
  have hBk : ∀ j, kl ≤ j → lm Bk j = none := fun j hj => hB j (by omega)
  have hRn := hR.n
  have hXn := hX.n
  have hlo : ∀ j, j < kl + 1 → lm R3 j = lm ((kl, Blk.oth (.lp l (busyL L) tm2)) :: R1) j := fun j hj => by
    rw [hX.eq j (by omega), lm_app, hR.lo j hj]
    cases lm ((kl, Blk.oth (.lp l (busyL L) tm2)) :: R1) j <;> rfl
  have hhi : ∀ j, kl + 1 ≤ j → lm ((kl, Blk.oth (.lp l (busyL L) tm2)) :: R1) j = none := fun j hj => by
    simp only [lm]
    rw [if_neg (by omega)]
    exact hR1 j (by omega)
  refine ⟨Bk ++ ((kl, .oth (.lp l (busyL L) tm2)) :: R1), hiM (kl + 1) R3, tm2, fun j => ?_, fun j hj => ?_, ⟨by omega, fun j hj => ?_, fun j hj => ?_⟩, ?_, ?_⟩
  · rw [hs, List.append_assoc]
    cases hb : lm Bk j with
    | some b => rw [lm_app, hb, lm_app Bk R3, hb]
    | none =>
      rw [lm_app_r hb, lm_app_r hb]
      rcases Nat.lt_or_ge j (kl + 1) with q | q
      · rw [hlo j q, lm_app, lm_hiM, if_neg (by omega)]
        cases lm ((kl, Blk.oth (.lp l (busyL L) tm2)) :: R1) j <;> rfl
      · rw [lm_app_r (hhi j q), lm_hiM, if_pos q]
  · rw [lm_app_r (hBk j (by omega)), hhi j hj]
  · rw [lm_hiM]
    by_cases q : kl + 1 ≤ j
    · rw [if_pos q, hX.eq j hj, lm_app_r (hhi j q)]
    · rw [if_neg q, hR.lo j (by omega)]
  · rw [lm_hiM]
    split
    · exact hX.hi j (by omega)
    · rfl
  · rw [lm_app_r (hBk kl (Nat.le_refl _))]
    simp [lm]
  · show K true (setm (Bk ++ ((kl, .oth (.lp l (busyL L) tm2)) :: R1)) kl (.oth (.lp l L tm2)))
    rw [setm_appr _ (hBk kl (Nat.le_refl _))]
    simp only [setm, if_true]
    exact hK
section
variable {ι : Type} {B : ι → Mem} {step : ι → List (List Int) → ι} {N0 l : Nat} {P : List (List Int) → Prop}
abbrev YO (B : ι → Mem) (step : ι → List (List Int) → ι) (N0 l : Nat) (P : List (List Int) → Prop) : Prop := ∀ b x, P x → ∀ tm R nx, Opq N0 R nx → Yl Try.prog l [aO x] ⟨tm, B b ++ R, nx⟩ (MidY N0 tm nx R (fun r B' => r = true ∧ B' = B (step b x)))
abbrev goO (j : Jb) (l kw : Nat) : Blk := .cells [.cq 107 [] [.fp (cJ j) 0, .fp [yv l] 0, .own kw 0]]
abbrev i107P (j : Jb) (B : ι → Mem) (step : ι → List (List Int) → ι) (N0 l : Nat) (P : List (List Int) → Prop) (k : Nat) : Prop := ∀ (h : List (List Int)) (b : ι), h.length + k = j.tm.length → (∀ x ∈ ordsK j k h, P x) →
  ∀ (tm : List (Nat × AV)) (R : Mem) (nx kw kh sh : Nat), Opq N0 R nx → (N0 ≤ kw ∧ kw < nx) → lm R kw = some (goO j l kw) → (N0 ≤ kh ∧ kh < nx) → lm R kh = some (.row sh 52 1 [] cO h) →
    Inl Try.prog 107 [.row kh sh, .fp (cJ j) 0, .fp [yv l] 0, .own kw 0] ⟨tm, B b ++ R, nx⟩ (MidX N0 tm nx R fun v B' => v = bv true ∧ B' = B ((ordsK j k h).foldl step b))
theorem i107 {j : Jb} (hG : OkJ j) (hBas : ∀ b, Bas N0 (B b)) (HY : YO B step N0 l P) (k : Nat) (ih : ∀ k', k' < k → i107P j B step N0 l P k') : i107P j B step N0 l P k := by
  intro h b hlen hP tm R nx kw kh sh hR hkw hW hkh hH
  refine Inl_opqE mixed Xt107 rfl hR (hBas b) (fun R' nx' hR' hlt hE => ?_)
  have hW1 : lm R' kw = some (goO j l kw) := (hE kw hkw.2).trans hW
  have hH1 : lm R' kh = some (.row sh 52 1 [] cO h) := (hE kh hkh.2).trans hH
  have hN := hR'.n
  have hnt := hG.nt
  have hnn := hG.n
  have hlb : ∀ (b : ι) (R : Mem) (j : Nat), N0 ≤ j → lm (B b ++ R) j = lm R j := fun b R j hj => lm_app_r (hBas b j hj)
  have hsb : ∀ (b : ι) (R : Mem) (j : Nat) (x : Blk), N0 ≤ j → setm (B b ++ R) j x = B b ++ setm R j x := fun b R j x hj => setm_appr x (hBas b j hj)
  obtain ⟨KK, hKK⟩ : ∃ KK : AV → Mem → Prop, KK = fun v B' => v = bv true ∧ B' = B ((ordsK j k h).foldl step b) := ⟨_, rfl⟩
  rw [← hKK]
  simp (maxSteps := 400000) (disch := omega) only [push_cast, ↓reduceIte, reduceCtorEq, Nat.reduceAdd, Nat.reduceSub, Nat.reduceEqDiff, Nat.reduceLeDiff, Nat.reduceLT, Nat.reduceBEq, Nat.reduceDiv, Nat.reduceMod, Nat.reducePow, Nat.reduceMul, Int.reduceToNat, Int.reduceLT, Int.reduceLE, initT]
  repeat' (first | refine w1g ?_ | refine w1l ?_ | refine w1q ?_ | refine w1b ?_ | refine w1p ?_ | ((first | refine w1r ?_ | refine w1k ?_ | refine w1e ?_); simp (maxSteps := 400000) (disch := omega) only [push_cast, ↓reduceIte, reduceCtorEq, Nat.reduceAdd, Nat.reduceSub, Nat.reduceEqDiff, Nat.reduceLeDiff, Nat.reduceLT, Nat.reduceBEq, Nat.reduceDiv, Nat.reduceMod, Nat.reducePow, Nat.reduceMul, Int.reduceToNat, Int.reduceLT, Int.reduceLE, ne_l, ne_r, bq_l, bq_r, ls_l, ls_r, lm_set_same, hlb, hsb, hH1]) | refine an2 ?_ | fail)
  by_cases hk0 : k = 0
  · subst hk0
    rw [show ((h.length : Int) == (j.tm.length : Int)) = true by rw [beq_iff_eq]; omega]
    have hx : P h := hP h (List.mem_singleton.2 rfl)
    refine W_cond (by rfl) (fun _ => ?_) (fun h => by cases h)
    repeat' (first | refine w1g ?_ | refine w1l ?_ | refine w1q ?_ | refine w1b ?_ | refine w1p ?_ | ((first | refine W_regS 3 (by decide) (by decide) ?_ | refine w1r ?_ | refine w1k ?_ | refine w1e ?_); simp (maxSteps := 400000) (disch := omega) only [push_cast, ↓reduceIte, reduceCtorEq, Nat.reduceAdd, Nat.reduceSub, Nat.reduceEqDiff, Nat.reduceLeDiff, Nat.reduceLT, Nat.reduceBEq, Nat.reduceDiv, Nat.reduceMod, Nat.reducePow, Nat.reduceMul, Int.reduceToNat, Int.reduceLT, Int.reduceLE, ne_l, ne_r, bq_l, bq_r, ls_l, ls_r, lm_set_same, hlb, hsb, hH1]) | refine an2 ?_ | fail)
    refine CallC.cpz 52 c108 (by omega) ?_
    simp (maxSteps := 400000) (disch := omega) only [push_cast, ↓reduceIte, reduceCtorEq, Nat.reduceAdd, Nat.reduceSub, Nat.reduceEqDiff, Nat.reduceLeDiff, Nat.reduceLT, Nat.reduceBEq, Nat.reduceDiv, Nat.reduceMod, Nat.reducePow, Nat.reduceMul, Int.reduceToNat, Int.reduceLT, Int.reduceLE, ne_l, ne_r, bq_l, bq_r, ls_l, ls_r, lm_set_same, hlb, hsb, hH1]
    have hX1 := fun (k1 N2 : Nat) (g1 : Blk) (q1 : nx' ≤ k1) (q3 : k1 < N2) => (Ext.refl hR').put (g := g1) q1 q3 (by omega)
    refine StopC.yld (fun hpc => ⟨trivial, Yl_le (HY b h hx _ _ _ (Ext.opq (hX1 _ _ _ (by omega) (by omega)) hR')) (fun v s' hs => ?_)⟩) (fun hpc => absurd trivial hpc)
    obtain ⟨B', R2, nx2, hB', hX, ⟨rfl, rfl⟩, hl⟩ := hs
    refine ⟨_, ?_, hl⟩
    have hc2 : lm R2 (nx' + 1) = some (.cells [bv false]) := (hX.eq _ (by omega)).trans (lm_set_same _ _ _)
    have hX2 := (hX1 _ _ _ (by omega) (by omega)).trans hX
    have hn2 := hX.n
    clear hX hl
    simp (maxSteps := 400000) (disch := omega) only [push_cast, ↓reduceIte, reduceCtorEq, Nat.reduceAdd, Nat.reduceSub, Nat.reduceEqDiff, Nat.reduceLeDiff, Nat.reduceLT, Nat.reduceBEq, Nat.reduceDiv, Nat.reduceMod, Nat.reducePow, Nat.reduceMul, Int.reduceToNat, Int.reduceLT, Int.reduceLE, ne_l, ne_r, bq_l, bq_r, ls_l, ls_r, lm_set_same, hlb, hsb, hH1, hc2]
    repeat' (first | refine w1g ?_ | refine w1l ?_ | refine w1q ?_ | refine w1b ?_ | refine w1p ?_ | ((first | refine w1r ?_ | refine w1k ?_ | refine w1e ?_); simp (maxSteps := 400000) (disch := omega) only [push_cast, ↓reduceIte, reduceCtorEq, Nat.reduceAdd, Nat.reduceSub, Nat.reduceEqDiff, Nat.reduceLeDiff, Nat.reduceLT, Nat.reduceBEq, Nat.reduceDiv, Nat.reduceMod, Nat.reducePow, Nat.reduceMul, Int.reduceToNat, Int.reduceLT, Int.reduceLE, ne_l, ne_r, bq_l, bq_r, ls_l, ls_r, lm_set_same, hlb, hsb, hH1, hc2, setm_setm]) | refine an2 ?_ | fail)
    refine ⟨⟨by omega, (hasM_iff _ _).2 (by rw [hlb _ _ _ (by omega), hc2]; simp)⟩, ?_⟩
    repeat' (first | refine w1g ?_ | refine w1l ?_ | refine w1q ?_ | refine w1b ?_ | refine w1p ?_ | ((first | refine w1r ?_ | refine w1k ?_ | refine w1e ?_); simp (maxSteps := 400000) (disch := omega) only [push_cast, ↓reduceIte, reduceCtorEq, Nat.reduceAdd, Nat.reduceSub, Nat.reduceEqDiff, Nat.reduceLeDiff, Nat.reduceLT, Nat.reduceBEq, Nat.reduceDiv, Nat.reduceMod, Nat.reducePow, Nat.reduceMul, Int.reduceToNat, Int.reduceLT, Int.reduceLE, ne_l, ne_r, bq_l, bq_r, ls_l, ls_r, lm_set_same, hlb, hsb, hH1, hc2, setm_setm]) | refine an2 ?_ | fail)
    refine W_ret ?_
    have hlc : lm (B (step b h) ++ setm R2 (nx' + 1) (.cells [bv true])) (nx' + 1) = some (.cells [bv true]) := by rw [hlb _ _ _ (by omega), lm_set_same]
    refine ⟨[bv true], _, setm R2 (nx' + 1) (.cells [bv true]), ⟨?_, rfl⟩, sameM.refl _, hBas _, (hX2.put (nx2 := nx2) (by omega) (by omega) (Nat.le_refl _)).up (by first | omega | (dsimp only; omega)), by rw [hKK]; exact ⟨rfl, rfl⟩⟩
    show isOK (ldA (lm (B (step b h) ++ setm R2 (nx' + 1) (.cells [bv true]))) 1 false (.own (nx' + 1) 0)) (bv true)
    simp only [ldA, hlc]
    exact ⟨⟨trivial, Nat.le_of_ble_eq_true rfl⟩, rfl⟩
  · rw [show ((h.length : Int) == (j.tm.length : Int)) = false by rw [beq_eq_false_iff_ne]; omega]
    obtain ⟨k1, rfl⟩ : ∃ k1, k = k1 + 1 := ⟨k - 1, by omega⟩
    refine W_cond (by rfl) (fun h => by cases h) (fun _ => ?_)
    have c58 := fn58 j h.length (by omega)
    have c109 := fn109 (memT j h.length)
    repeat' (first | refine w1g ?_ | refine w1l ?_ | refine w1q ?_ | refine w1b ?_ | refine w1p ?_ | ((first | refine w1r ?_ | refine w1k ?_ | refine w1e ?_ | refine CallC.now (c58) ?_ | refine CallC.now (c109) ?_); simp (maxSteps := 400000) (disch := omega) only [push_cast, ↓reduceIte, reduceCtorEq, Nat.reduceAdd, Nat.reduceSub, Nat.reduceEqDiff, Nat.reduceLeDiff, Nat.reduceLT, Nat.reduceBEq, Nat.reduceDiv, Nat.reduceMod, Nat.reducePow, Nat.reduceMul, Int.reduceToNat, Int.reduceLT, Int.reduceLE, ne_l, ne_r, bq_l, bq_r, ls_l, ls_r, lm_set_same, hlb, hsb, hH1]) | refine an2 ?_ | fail)
    have hLl : (memT j h.length).length ≤ 24 := by
      have h1 : (memT j h.length).length ≤ j.ts.length := by
        show (((List.range j.ts.length).filter (isM j h.length)).map Int.ofNat).length ≤ _
        rw [List.length_map]
        exact Nat.le_trans (List.length_filter_le _ _) (by rw [List.length_range]; exact Nat.le_refl _)
      omega
    have hPo : ∀ x ∈ prm (memT j h.length).length [] (memT j h.length), ∀ o ∈ ordsK j k1 (h ++ [x]), P o := fun x hx o ho => hP o (List.mem_flatMap.2 ⟨x, hx, ho⟩)
    have hfold : ∀ (l : List (List Int)) (b : ι), (l.flatMap fun x => ordsK j k1 (h ++ [x])).foldl step b = l.foldl (fun b x => (ordsK j k1 (h ++ [x])).foldl step b) b := fun l => by
      induction l with
      | nil => intro b; rfl
      | cons x l il => intro b; rw [List.flatMap_cons, List.foldl_append, il]; rfl
    have hIH := fun x b => ih k1 (Nat.lt_succ_self _) (h ++ [x]) b (by rw [List.length_append, List.length_singleton]; omega)
    have hKf : ordsK j (k1 + 1) h = (prm (memT j h.length).length [] (memT j h.length)).flatMap fun x => ordsK j k1 (h ++ [x]) := rfl
    rw [hKf, hfold] at hKK
    generalize memT j h.length = L at *
    clear hKf hfold hP c58 c109
    have hX1 := fun (k1 N2 : Nat) (g1 : Blk) (q1 : nx' ≤ k1) (q3 : k1 < N2) => (Ext.refl hR').put (g := g1) q1 q3 (by omega)
    refine W_rfn (.inl rfl) (fun lp LP hLP => ?_)
    obtain ⟨TM, hTM⟩ : ∃ TM : List (Nat × AV), TM = [(3, .own kw 0), (4, .fq [.row kh sh] 0), (5, .own (nx' + 1) 0), (21, .clo 128 [] [.fp [aI L] 0])] := ⟨_, rfl⟩
    obtain ⟨R1, hR1⟩ : ∃ R1, R1 = setm R' (nx' + 1) (.cells [bv false]) := ⟨_, rfl⟩
    obtain ⟨kl, hkl⟩ : ∃ kl, kl = nx' + 13 := ⟨_, rfl⟩
    have hXr : Ext nx' R' kl R1 := by rw [hR1]; exact hX1 _ _ _ (by omega) (by omega)
    have hOr : Opq N0 R1 kl := hXr.opq hR'
    have hWr : lm R1 kw = some (goO j l kw) := (hXr.eq kw (by omega)).trans hW1
    have hHr : lm R1 kh = some (.row sh 52 1 [] cO h) := (hXr.eq kh (by omega)).trans hH1
    have hCr : lm R1 (nx' + 1) = some (.cells [bv false]) := by rw [hR1]; exact lm_set_same _ _ _
    obtain ⟨B1, hB1⟩ : ∃ B1 : ι → Mem, B1 = fun b => B b ++ ((kl, .oth (.lp lp LP TM)) :: R1) := ⟨_, rfl⟩
    have hBs1 : ∀ c, Bas (kl + 1) (B1 c) := fun c z hz => by
      rw [hB1, lm_app_r (hBas c z (by omega))]
      simp only [lm]
      rw [if_neg (by omega)]
      exact hOr.hi z (by omega)
    have hk1 : ∀ c, lm (B1 c) kl = some (.oth (.lp lp LP TM)) := fun c => by
      rw [hB1, lm_app_r (hBas c kl (by omega))]
      simp [lm]
    have HY1 : YP B1 (fun b x => (ordsK j k1 (h ++ [x])).foldl step b) (kl + 1) lp (fun x => x ∈ prm L.length [] L) := fun c x hx tmc Rc nxc hRc => by
      refine Yl_opqX mixed hLP (k := kl) (tml := TM) (hk1 c) rfl rfl hRc (hBs1 c) (fun R2 nx2 hR2 hlt2 hE2 => ?_)
      have hN2 := hR2.n
      rw [hTM]
      (refine sy1 ?_; try exact True.intro)
      repeat' (first | refine w1g ?_ | refine w1l ?_ | refine w1q ?_ | refine w1b ?_ | refine w1p ?_ | ((first | refine w1r ?_ | refine w1k ?_ | refine w1e ?_); (refine sy1 ?_; try exact True.intro)) | refine an2 ?_ | fail)
      refine ⟨B1 c, TM, rfl, hk1 c, ?_⟩
      have e : setm (B1 c) kl (.oth (.lp lp (busyL LP) TM)) ++ R2 = B c ++ (((kl, .oth (.lp lp (busyL LP) TM)) :: R1) ++ R2) := by
        rw [hB1, setm_appr _ (hBas c kl (by omega))]
        simp only [setm, if_true]
        rw [List.append_assoc]
      rw [e]
      obtain ⟨Rb, hRb⟩ : ∃ Rb, Rb = ((kl, Blk.oth (.lp lp (busyL LP) TM)) :: R1) ++ R2 := ⟨_, rfl⟩
      rw [← hRb]
      have hlow : ∀ z, z < kl → lm Rb z = lm R1 z := fun z hz => by
        rw [hRb, lm_app]
        simp only [lm]
        rw [if_neg (by omega)]
        cases hq : lm R1 z with
        | some w => rfl
        | none => exact hR2.lo z (by omega)
      have hWb : lm Rb kw = some (goO j l kw) := (hlow kw (by omega)).trans hWr
      have hHb : lm Rb kh = some (.row sh 52 1 [] cO h) := (hlow kh (by omega)).trans hHr
      have hOb : Opq N0 Rb nx2 := ⟨by omega, fun z hz => by rw [hlow z (by omega)]; exact hOr.lo z hz, fun z hz => by
        rw [hRb, lm_app]
        simp only [lm]
        rw [if_neg (by omega), hOr.hi z (by omega)]
        exact hR2.hi z hz⟩
      (refine sy1 ?_; try exact True.intro)
      repeat' (first | refine w1g ?_ | refine w1l ?_ | refine w1q ?_ | refine w1b ?_ | refine w1p ?_ | ((first | refine W_regS 6 (by decide) (by decide) ?_ | refine w1r ?_ | refine w1k ?_ | refine w1e ?_); simp (maxSteps := 400000) (disch := omega) only [push_cast, ↓reduceIte, reduceCtorEq, Nat.reduceAdd, Nat.reduceSub, Nat.reduceEqDiff, Nat.reduceLeDiff, Nat.reduceLT, Nat.reduceBEq, Nat.reduceDiv, Nat.reduceMod, Nat.reducePow, Nat.reduceMul, Int.reduceToNat, Int.reduceLT, Int.reduceLE, ne_l, ne_r, bq_l, bq_r, ls_l, ls_r, lm_set_same, hlb, hsb, hHb, hWb]) | refine an2 ?_ | fail)
      refine CallC.cpy c108 (by omega) ?_
      simp (maxSteps := 400000) (disch := omega) only [push_cast, ↓reduceIte, reduceCtorEq, Nat.reduceAdd, Nat.reduceSub, Nat.reduceEqDiff, Nat.reduceLeDiff, Nat.reduceLT, Nat.reduceBEq, Nat.reduceDiv, Nat.reduceMod, Nat.reducePow, Nat.reduceMul, Int.reduceToNat, Int.reduceLT, Int.reduceLE, ne_l, ne_r, bq_l, bq_r, ls_l, ls_r, lm_set_same, hlb, hsb, hHb, hWb]
      refine ⟨rfl, trivial, (List Int), [], cO, [x], rfl, by omega, fun x _ => ⟨rfl, rfl⟩, rfl, ?_⟩
      simp (maxSteps := 400000) (disch := omega) only [push_cast, ↓reduceIte, reduceCtorEq, Nat.reduceAdd, Nat.reduceSub, Nat.reduceEqDiff, Nat.reduceLeDiff, Nat.reduceLT, Nat.reduceBEq, Nat.reduceDiv, Nat.reduceMod, Nat.reducePow, Nat.reduceMul, Int.reduceToNat, Int.reduceLT, Int.reduceLE, ne_l, ne_r, bq_l, bq_r, ls_l, ls_r, lm_set_same, hlb, hsb, hHb, hWb]
      refine ⟨rfl, ⟨by dsimp only; omega, (hasM_iff _ _).2 (by rw [hlb _ _ _ (by omega)]; simp (disch := omega) [lm, ne_l, ne_r, ls_l, ls_r, lm_set_same])⟩, trivial, [x], rfl, by first | omega | (simp; omega), by first | omega | (simp; omega), ?_⟩
      simp (maxSteps := 400000) (disch := omega) only [push_cast, ↓reduceIte, reduceCtorEq, Nat.reduceAdd, Nat.reduceSub, Nat.reduceEqDiff, Nat.reduceLeDiff, Nat.reduceLT, Nat.reduceBEq, Nat.reduceDiv, Nat.reduceMod, Nat.reducePow, Nat.reduceMul, Int.reduceToNat, Int.reduceLT, Int.reduceLE, ne_l, ne_r, bq_l, bq_r, ls_l, ls_r, lm_set_same, hlb, hsb, hHb, hWb]
      have hX3 := fun (k1 k2 N2 : Nat) (g1 g2 g3 : Blk) (q1 : nx2 ≤ k1) (q2 : nx2 ≤ k2) (q3 : k1 < N2) (q4 : k2 < N2) => ((((Ext.refl hOb).put (g := g1) q1 q3 (by omega)).put (g := g2) q2 q4 (Nat.le_refl _)).put (g := g3) q1 q3 (Nat.le_refl _))
      refine CallC.inl (Inl_le' (hIH x c (hPo x hx) _ _ _ kw _ _ (Ext.opq (hX3 _ _ _ _ _ _ (by omega) (by omega) (by omega) (by omega)) hOb) ⟨by omega, by omega⟩ (by simp (disch := omega) only [ls_l, ls_r]; exact hWb) ⟨by omega, by omega⟩ (lm_set_same _ _ _)) (fun v s' hs2 => ?_))
      obtain ⟨B', R3, nx3, hB', hX4, ⟨rfl, rfl⟩, hl⟩ := hs2
      refine ⟨_, ?_, hl⟩
      have hX5 := (hX3 _ _ _ _ _ _ (by omega) (by omega) (by omega) (by omega)).trans hX4
      rw [hRb] at hX5
      clear hX4 hl
      (refine sy1 ?_; try exact True.intro)
      refine W_cond (by rfl) (fun h => by cases h) (fun _ => ?_)
      refine W_skip ?_
      simp only [blockQ]
      refine RndX_of (R1 := R1) (hBas ((ordsK j k1 (h ++ [x])).foldl step c)) (by omega) hOr.hi hR2 hX5 rfl (by first | omega | (dsimp only; omega)) ⟨rfl, ?_⟩
      rw [hB1]
    show Inl Try.prog 128 [yv lp, .fp [aI L] 0] _ (EndL (nx' + 1 + 1 + 1 + 1 + 1 + 1 + 1 + 1 + 1 + 1 + 1 + 1 + 1) lp _)
    rw [show nx' + 1 + 1 + 1 + 1 + 1 + 1 + 1 + 1 + 1 + 1 + 1 + 1 + 1 = kl by omega]
    refine Inl_sameM (B1 b) (kl + 1) ?_ (hBs1 b) ?_
    · rw [hB1, hkl, hTM, hR1]
      exact fun z => ((sm_push (hBas b) (by omega)) z).symm
    have hI := i128 hBs1 HY1 L b (fun x hx => hx) (by omega) TM [] (kl + 1) (opq_nil (kl + 1))
    rw [List.append_nil, hTM] at hI
    refine Inl_le' hI (fun v s' hs => ?_)
    obtain ⟨B', R2, nx2, hB', hX2, ⟨rfl, rfl⟩, hl⟩ := hs
    have hO2 := hX2.opq (opq_nil (kl + 1))
    have hn2 := hX2.n
    refine ⟨_, ?_, hl⟩
    refine ⟨LP, TM, by dsimp only; rw [lm_app, hk1], by rw [hLP.st]; simp, ?_⟩
    rw [hLP.pe]
    simp (maxSteps := 400000) (disch := omega) only [push_cast, ↓reduceIte, reduceCtorEq, Nat.reduceAdd, Nat.reduceSub, Nat.reduceEqDiff, Nat.reduceLeDiff, Nat.reduceLT, Nat.reduceBEq, Nat.reduceDiv, Nat.reduceMod, Nat.reducePow, Nat.reduceMul, Int.reduceToNat, Int.reduceLT, Int.reduceLE, EndP]
    generalize hb2 : (prm L.length [] L).foldl (fun b x => (ordsK j k1 (h ++ [x])).foldl step b) b = b2 at *
    have hXf : Ext nx' R' nx2 (R1 ++ R2) := ⟨by omega, fun z hz => by
      rw [lm_app, hO2.lo z (by omega), hXr.eq z hz]
      cases lm R' z <;> rfl, fun z hz => by
      rw [lm_app_r (hOr.hi z (by omega))]
      exact hO2.hi z hz⟩
    have hCf : lm (R1 ++ R2) (nx' + 1) = some (.cells [bv false]) := by rw [lm_app, hCr]
    refine WK_go (W_le (leS.le (leS_sameM (B b2 ++ (R1 ++ R2)) nx2 (fun z => ?_) ?_)) ?_)
    · show lm (B b2 ++ (R1 ++ R2)) z = lm (delm (B1 b2 ++ R2) kl) z
      rw [lm_delm]
      by_cases q : z = kl
      · rw [if_pos q, q, lm_app_r (hBas b2 kl (by omega)), lm_app_r (hOr.hi kl (Nat.le_refl _))]
        exact hO2.lo kl (by omega)
      · rw [if_neg q, hB1, List.append_assoc]
        cases hz : lm (B b2) z with
        | some w => rw [lm_app, hz, lm_app (B b2), hz]
        | none =>
          rw [lm_app_r hz, lm_app_r hz]
          show _ = lm ((kl, Blk.oth (.lp lp LP TM)) :: (R1 ++ R2)) z
          simp only [lm]
          rw [if_neg q]
    · exact ((hXf.opq hR').mem (hBas b2))
    repeat' (first | refine w1g ?_ | refine w1l ?_ | refine w1q ?_ | refine w1b ?_ | refine w1p ?_ | ((first | refine w1r ?_ | refine w1k ?_ | refine w1e ?_); simp (maxSteps := 400000) (disch := omega) only [push_cast, ↓reduceIte, reduceCtorEq, Nat.reduceAdd, Nat.reduceSub, Nat.reduceEqDiff, Nat.reduceLeDiff, Nat.reduceLT, Nat.reduceBEq, Nat.reduceDiv, Nat.reduceMod, Nat.reducePow, Nat.reduceMul, Int.reduceToNat, Int.reduceLT, Int.reduceLE, ne_l, ne_r, bq_l, bq_r, ls_l, ls_r, lm_set_same, hlb, hsb, hCf]) | refine an2 ?_ | fail)
    refine ⟨⟨by omega, (hasM_iff _ _).2 (by rw [hlb _ _ _ (by omega), hCf]; simp)⟩, ?_⟩
    refine W_ret ?_
    have hlc : lm (B b2 ++ setm (R1 ++ R2) (nx' + 1) (.cells [bv true])) (nx' + 1) = some (.cells [bv true]) := by rw [hlb _ _ _ (by omega), lm_set_same]
    refine ⟨[bv true], _, setm (R1 ++ R2) (nx' + 1) (.cells [bv true]), ⟨?_, rfl⟩, sameM.refl _, hBas _, (hXf.put (nx2 := nx2) (by omega) (by omega) (Nat.le_refl _)).up (by first | omega | (dsimp only; omega)), by rw [hKK]; exact ⟨rfl, rfl⟩⟩
    show isOK (ldA (lm (B b2 ++ setm (R1 ++ R2) (nx' + 1) (.cells [bv true]))) 1 false (.own (nx' + 1) 0)) (bv true)
    simp only [ldA, hlc]
    exact ⟨⟨trivial, Nat.le_of_ble_eq_true rfl⟩, rfl⟩
theorem i107_all {j : Jb} (hG : OkJ j) (hBas : ∀ b, Bas N0 (B b)) (HY : YO B step N0 l P) (k : Nat) : i107P j B step N0 l P k := by
  induction k using Nat.strongRecOn with
  | _ k ih => exact i107 hG hBas HY k ih
theorem i106 {j : Jb} (hG : OkJ j) (hBas : ∀ b, Bas N0 (B b)) (HY : YO B step N0 l P) (b : ι) (hP : ∀ x ∈ ordsK j j.tm.length [], P x) (tm : List (Nat × AV)) (R : Mem) (nx : Nat) (hR : Opq N0 R nx) :
    Inl Try.prog 106 [yv l, .fp (cJ j) 0] ⟨tm, B b ++ R, nx⟩ (MidX N0 tm nx R fun v B' => v = pack [] ∧ B' = B ((ordsK j j.tm.length []).foldl step b)) := by
  refine Inl_opqE mixed Xt106 rfl hR (hBas b) (fun R' nx' hR' hlt hE => ?_)
  have hN := hR'.n
  have hlb : ∀ (b : ι) (R : Mem) (j : Nat), N0 ≤ j → lm (B b ++ R) j = lm R j := fun b R j hj => lm_app_r (hBas b j hj)
  have hsb : ∀ (b : ι) (R : Mem) (j : Nat) (x : Blk), N0 ≤ j → setm (B b ++ R) j x = B b ++ setm R j x := fun b R j x hj => setm_appr x (hBas b j hj)
  have hI := i107_all hG hBas HY j.tm.length [] b (by simp) hP
  obtain ⟨KK, hKK⟩ : ∃ KK : AV → Mem → Prop, KK = fun v B' => v = pack [] ∧ B' = B ((ordsK j j.tm.length []).foldl step b) := ⟨_, rfl⟩
  rw [← hKK]
  simp (maxSteps := 400000) (disch := omega) only [push_cast, ↓reduceIte, reduceCtorEq, Nat.reduceAdd, Nat.reduceSub, Nat.reduceEqDiff, Nat.reduceLeDiff, Nat.reduceLT, Nat.reduceBEq, Nat.reduceDiv, Nat.reduceMod, Nat.reducePow, Nat.reduceMul, Int.reduceToNat, Int.reduceLT, Int.reduceLE, initT]
  repeat' (first | refine w1g ?_ | refine w1l ?_ | refine w1q ?_ | refine w1b ?_ | refine w1p ?_ | ((first | refine w1r ?_ | refine w1k ?_ | refine w1e ?_); simp (maxSteps := 400000) (disch := omega) only [push_cast, ↓reduceIte, reduceCtorEq, Nat.reduceAdd, Nat.reduceSub, Nat.reduceEqDiff, Nat.reduceLeDiff, Nat.reduceLT, Nat.reduceBEq, Nat.reduceDiv, Nat.reduceMod, Nat.reducePow, Nat.reduceMul, Int.reduceToNat, Int.reduceLT, Int.reduceLE, ne_l, ne_r, bq_l, bq_r, ls_l, ls_r, lm_set_same, setm_setm, hlb, hsb]) | refine an2 ?_ | fail)
  refine ⟨⟨by omega, (hasM_iff _ _).2 (by rw [hlb _ _ _ (by omega), lm_set_same]; simp)⟩, ?_⟩
  repeat' (first | refine w1g ?_ | refine w1l ?_ | refine w1q ?_ | refine w1b ?_ | refine w1p ?_ | ((first | refine w1r ?_ | refine w1k ?_ | refine w1e ?_); simp (maxSteps := 400000) (disch := omega) only [push_cast, ↓reduceIte, reduceCtorEq, Nat.reduceAdd, Nat.reduceSub, Nat.reduceEqDiff, Nat.reduceLeDiff, Nat.reduceLT, Nat.reduceBEq, Nat.reduceDiv, Nat.reduceMod, Nat.reducePow, Nat.reduceMul, Int.reduceToNat, Int.reduceLT, Int.reduceLE, ne_l, ne_r, bq_l, bq_r, ls_l, ls_r, lm_set_same, setm_setm, hlb, hsb]) | refine an2 ?_ | fail)
  have hX1 := fun (k1 N2 : Nat) (g1 : Blk) (q1 : nx' ≤ k1) (q3 : k1 < N2) => (Ext.refl hR').put (g := g1) q1 q3 (by omega)
  have hX2 := fun (k1 N2 : Nat) (g1 : Blk) (q1 : nx' ≤ k1) (q3 : k1 < N2) => Ext.opq (hX1 k1 N2 g1 q1 q3) hR'
  refine CallC.inl (Inl_adopt 52 1 [] cO (by omega) (Inl_sameM (B b ++ ((nx' + 1 + 1 + 1 + 1 + 1, .row 0 52 1 [] cO []) :: setm R' (nx' + 1) (goO j l (nx' + 1)))) _ (fun k => ((sm_push (hBas b) (by omega)) k).symm) (((hX2 (nx' + 1) (nx' + 1 + 1 + 1 + 1 + 1) _ (by omega) (by omega)).push _).mem (hBas b)) (Inl_le' (hI _ _ _ (nx' + 1) (nx' + 1 + 1 + 1 + 1 + 1) 0 ((hX2 (nx' + 1) (nx' + 1 + 1 + 1 + 1 + 1) _ (by omega) (by omega)).push _) ⟨by omega, by omega⟩ (by simp only [lm]; rw [if_neg (by omega)]; exact lm_set_same _ _ _) ⟨by omega, by omega⟩ (by simp [lm])) (fun v s' hs2 => ?_))))
  obtain ⟨B', R3, nx3, hB', hX3, ⟨rfl, rfl⟩, hl⟩ := hs2
  refine ⟨_, ?_, hl⟩
  (refine sy1 ?_; try exact True.intro)
  exact ⟨[], _, R3, rfl, sameM.refl _, hBas _, (((hX1 (nx' + 1) (nx' + 1 + 1 + 1 + 1 + 1) _ (by omega) (by omega)).push (Nat.le_refl _) (Nat.lt_succ_self _)).trans hX3).up (by first | omega | (dsimp only; omega)), by rw [hKK]; exact ⟨rfl, rfl⟩⟩
end
end Go.Proofs.Ytoiohkjomcbadaa

namespace Go.Proofs.Ytoiohkjomcbadaa
open Go Sy
set_option maxRecDepth 100000
set_option maxHeartbeats 4000000
set_option linter.unusedVariables false
set_option linter.unusedSimpArgs false
theorem val_ok {j : Jb} {o : List (List Int)} (h : valB j o = true) : Gj j ∧ Go' o ∧ chkO j o = 0 ∧ j.ts.length ≤ 8 := by
  unfold valB at h
  simp only [Bool.and_eq_true, Bool.not_eq_true', decide_eq_true_eq] at h
  obtain ⟨⟨h1, h2⟩, h3⟩ := h
  have h4 := chkO_ok h3
  exact ⟨(grt_ok h1).1, wid_ok h2, h3, (grt_ok h1).2 h4.2⟩
end Go.Proofs.Ytoiohkjomcbadaa

namespace Go.Proofs.Ytoiohkjomcbadaa
open Go Sy
set_option linter.unusedVariables false
theorem prm_perm : ∀ (k : Nat) (h r x : List Int), r.length = k → x ∈ prm k h r → x.Perm (h ++ r)
  | 0, h, r, x, hr, hx => by
    have hx : x = h := List.mem_singleton.1 hx
    have : r = [] := List.eq_nil_of_length_eq_zero hr
    rw [hx, this, List.append_nil]
  | k + 1, h, r, x, hr, hx => by
    obtain ⟨i, hi, hx⟩ := List.mem_flatMap.1 hx
    have hi := List.mem_range.1 hi
    have h1 := prm_perm k (h ++ [gi r i]) (r.eraseIdx i) x (by rw [List.length_eraseIdx, if_pos hi]; omega) hx
    refine h1.trans ?_
    rw [List.append_assoc]
    refine List.Perm.append_left h ?_
    have e : gi r i = r[i] := by show r.getD i 0 = _; rw [List.getD_eq_getElem?_getD, List.getElem?_eq_getElem hi]; rfl
    rw [e]
    have h2 : r = r.take i ++ r[i] :: r.drop (i + 1) := by rw [← List.drop_eq_getElem_cons hi, List.take_append_drop]
    rw [List.eraseIdx_eq_take_drop_succ]
    show (r[i] :: (r.take i ++ r.drop (i + 1))).Perm r
    refine (List.perm_middle.symm).trans ?_
    rw [← h2]
theorem ords_spec {j : Jb} : ∀ (k : Nat) (h o : List (List Int)), o ∈ ordsK j k h → o.length = h.length + k ∧ (∀ t, t < h.length → o.getD t [] = h.getD t []) ∧ ∀ t, h.length ≤ t → t < h.length + k → (o.getD t []).Perm (memT j t)
  | 0, h, o, ho => by
    have ho : o = h := List.mem_singleton.1 ho
    rw [ho]
    exact ⟨rfl, fun _ _ => rfl, fun t h1 h2 => by omega⟩
  | k + 1, h, o, ho => by
    obtain ⟨x, hx, ho⟩ := List.mem_flatMap.1 ho
    obtain ⟨h1, h2, h3⟩ := ords_spec k (h ++ [x]) o ho
    rw [List.length_append, List.length_singleton] at h1 h2 h3
    refine ⟨by omega, fun t ht => ?_, fun t ht1 ht2 => ?_⟩
    · rw [h2 t (by omega), List.getD_eq_getElem?_getD, List.getD_eq_getElem?_getD, List.getElem?_append_left ht]
    · rcases Nat.lt_or_ge t (h.length + 1) with q | q
      · obtain rfl : t = h.length := by omega
        rw [h2 _ q, List.getD_eq_getElem?_getD, List.getElem?_append_right (Nat.le_refl _), Nat.sub_self]
        have := prm_perm _ [] _ x rfl hx
        rw [List.nil_append] at this
        exact this
      · exact h3 t q (by omega)
theorem ords_ok {j : Jb} (h : OkJ j) {o : List (List Int)} (ho : o ∈ ordsK j j.tm.length []) : OkO j o := by
  obtain ⟨h1, _, h3⟩ := ords_spec _ _ _ ho
  refine ⟨h, by simpa using h1, fun t ht => h3 t (Nat.zero_le _) (by rw [h1] at ht; exact ht)⟩
def enK (j : Jb) (l : List Int) : Nat → Int
  | 0 => 0
  | k + 1 => max (enK j l k) (gi l k + (gt j.ts k).mi)
abbrev enP (j : Jb) (l : List Int) : Int := enK j l l.length
theorem enK_pos (j : Jb) (l : List Int) : ∀ k, 0 ≤ enK j l k
  | 0 => Int.le_refl 0
  | k + 1 => by have := enK_pos j l k; show 0 ≤ max _ _; omega
structure Bo where
  o : List (List Int)
  l : List Int
  e : Int
def bs0 : Bo := ⟨[], [], -1⟩
noncomputable def stB (j : Jb) (b : Bo) (o : List (List Int)) : Bo := if erlB j (lks j o) = true ∧ (b.e < 0 ∨ enP j (erlL j (lks j o)) < b.e) then ⟨o, erlL j (lks j o), enP j (erlL j (lks j o))⟩ else b
noncomputable def bsJ (j : Jb) : Bo := (ordsK j j.tm.length []).foldl (stB j) bs0
def fac : Nat → Nat
  | 0 => 1
  | k + 1 => fac k * (k + 1)
def mnP (j : Jb) : Nat → Nat
  | 0 => 1
  | t + 1 => mnP j t * fac (memT j t).length
theorem fac_pos : ∀ k, 0 < fac k
  | 0 => by decide
  | k + 1 => Nat.mul_pos (fac_pos k) (by omega)
theorem fac_mono {a b : Nat} (h : a ≤ b) : fac a ≤ fac b := by
  induction b with
  | zero =>
    obtain rfl : a = 0 := by omega
    exact Nat.le_refl _
  | succ b ih =>
    rcases Nat.lt_or_ge a (b + 1) with q | q
    · refine Nat.le_trans (ih (by omega)) ?_
      show fac b ≤ fac b * (b + 1)
      exact Nat.le_mul_of_pos_right _ (by omega)
    · obtain rfl : a = b + 1 := by omega
      exact Nat.le_refl _
theorem mnP_mono (j : Jb) {a b : Nat} (h : a ≤ b) : mnP j a ≤ mnP j b := by
  induction b with
  | zero =>
    obtain rfl : a = 0 := by omega
    exact Nat.le_refl _
  | succ b ih =>
    rcases Nat.lt_or_ge a (b + 1) with q | q
    · refine Nat.le_trans (ih (by omega)) ?_
      show mnP j b ≤ mnP j b * fac _
      exact Nat.le_mul_of_pos_right _ (fac_pos _)
    · obtain rfl : a = b + 1 := by omega
      exact Nat.le_refl _
theorem mnP_big (j : Jb) {t k n : Nat} (ht : t < n) (hk : k ≤ (memT j t).length) (h : 5040 < mnP j t * fac k) : 5040 < mnP j n := by
  refine Nat.lt_of_lt_of_le h (Nat.le_trans (Nat.mul_le_mul_left _ (fac_mono hk)) ?_)
  exact mnP_mono j (show t + 1 ≤ n from ht)
noncomputable def btO (j : Jb) : List (List Int) := if chkJ j = 0 ∧ mnP j j.tm.length ≤ 5040 ∧ 0 ≤ (bsJ j).e then (bsJ j).o else []
noncomputable def btL (j : Jb) : List Int := if chkJ j = 0 ∧ mnP j j.tm.length ≤ 5040 ∧ 0 ≤ (bsJ j).e then (bsJ j).l else []
noncomputable def btN (j : Jb) : Int := if chkJ j = 0 ∧ mnP j j.tm.length ≤ 5040 ∧ 0 ≤ (bsJ j).e then (bsJ j).e else 0
noncomputable def btE (j : Jb) : Int := if chkJ j = 0 then (if mnP j j.tm.length ≤ 5040 then (if 0 ≤ (bsJ j).e then 0 else 15) else 6) else chkJ j
end Go.Proofs.Ytoiohkjomcbadaa

namespace Go.Proofs.Ytoiohkjomcbadaa
open Go Sy
set_option maxRecDepth 100000
set_option maxHeartbeats 4000000
set_option linter.unusedVariables false
set_option linter.unusedSimpArgs false
def bO (b : Bo) : AV := if b.e < 0 then .v (.slice none 0 0) else aO b.o
def bL (b : Bo) : AV := if b.e < 0 then .v (.slice none 0 0) else aI b.l
def mB (kl lp : Nat) (LP : Loop) (TM : List (Nat × AV)) (b : Bo) : Mem := [(kl, .oth (.lp lp LP TM)), (16, .cells [bO b]), (17, .cells [bL b]), (18, .cells [iv b.e])]
def mBb (kl lp : Nat) (LP : Loop) (TM : List (Nat × AV)) (b : Bo) : Mem := [(kl, .oth (.lp lp (busyL LP) TM)), (16, .cells [bO b]), (17, .cells [bL b]), (18, .cells [iv b.e])]
theorem fn19 (j : Jb) (hG : Gj j) : Sy.Fn Try.prog 19 [aJ j] (.tup [aO (btO j), aI (btL j), iv (btN j), iv (btE j)]) := by
  refine Fn_of_W mixed Xt19 rfl ?_
  have c39 := fn39 j hG
  have eO : btO j = if chkJ j = 0 ∧ mnP j j.tm.length ≤ 5040 ∧ 0 ≤ (bsJ j).e then (bsJ j).o else [] := rfl
  have eL : btL j = if chkJ j = 0 ∧ mnP j j.tm.length ≤ 5040 ∧ 0 ≤ (bsJ j).e then (bsJ j).l else [] := rfl
  have eN : btN j = if chkJ j = 0 ∧ mnP j j.tm.length ≤ 5040 ∧ 0 ≤ (bsJ j).e then (bsJ j).e else 0 := rfl
  have eE : btE j = if chkJ j = 0 then (if mnP j j.tm.length ≤ 5040 then (if 0 ≤ (bsJ j).e then 0 else 15) else 6) else chkJ j := rfl
  generalize btO j = RO at *
  generalize btL j = RL at *
  generalize btN j = RN at *
  generalize btE j = RE at *
  by_cases h0 : chkJ j = 0
  rotate_left
  · rw [if_neg (fun q => h0 q.1)] at eO eL eN
    rw [if_neg h0] at eE
    subst eO eL eN eE
    generalize chkJ j = E at *
    repeat' (first | refine w1g ?_ | refine w1l ?_ | refine w1q ?_ | refine w1b ?_ | refine w1p ?_ | ((first | refine w1r ?_ | refine w1k ?_ | refine w1e ?_ | refine CallC.now (c39) ?_); (refine sy1 ?_; try exact True.intro)) | refine an2 ?_ | fail)
    refine W_cond (by rfl) (fun _ => ?_) (fun h => absurd (by simpa using h) h0)
    repeat' (first | refine w1g ?_ | refine w1l ?_ | refine w1q ?_ | refine w1b ?_ | refine w1p ?_ | ((first | refine w1r ?_ | refine w1k ?_ | refine w1e ?_); (refine sy1 ?_; try exact True.intro)) | refine an2 ?_ | fail)
    refine W_le (le_nil 2 1 [] cO rfl) ?_
    refine W_le (le_nil 3 1 0 cI rfl) ?_
    exact W_ret ⟨[_, _, _, _], ⟨rfl, rfl, rfl, rfl, rfl⟩, rfl⟩
  have hok := chkJ_ok h0
  have hnt := hok.nt
  have hnn := hok.n
  rw [h0] at c39
  rw [if_pos h0] at eE
  repeat' (first | refine w1g ?_ | refine w1l ?_ | refine w1q ?_ | refine w1b ?_ | refine w1p ?_ | ((first | refine w1r ?_ | refine w1k ?_ | refine w1e ?_ | refine CallC.now (c39) ?_); (refine sy1 ?_; try exact True.intro)) | refine an2 ?_ | fail)
  refine W_cond (by rfl) (fun h => by cases h) (fun _ => ?_)
  repeat' (first | refine w1g ?_ | refine w1l ?_ | refine w1q ?_ | refine w1b ?_ | refine w1p ?_ | ((first | refine w1r ?_ | refine w1k ?_ | refine w1e ?_); (refine sy1 ?_; try exact True.intro)) | refine an2 ?_ | fail)
  refine W_loopU (fun t : Nat => [(7, iv (mnP j t)), (27, iv t)]) (fun t => []) (fun t => t ≤ j.tm.length ∧ mnP j t ≤ 5040) (fun t => j.tm.length - t) 0 ⟨by omega, by show 1 ≤ 5040; omega⟩ (by rfl) (by rfl) (fun t ht => ?_)
  obtain ⟨ht, hm⟩ := ht
  (refine sy1 ?_; try exact True.intro)
  repeat' (first | refine w1g ?_ | refine w1l ?_ | refine w1q ?_ | refine w1b ?_ | refine w1p ?_ | ((first | refine w1r ?_ | refine w1k ?_ | refine w1e ?_); (refine sy1 ?_; try exact True.intro)) | refine an2 ?_ | fail)
  refine W_condD (by rfl) (fun h5 => ?_) (fun h5 => ?_)
  · have htl : t < j.tm.length := by omega
    have c58 := fn58 j (t : Int) (by omega)
    have hLl : (memT j (t : Int)).length ≤ j.ts.length := memK_len j (t : Int) j.ts.length
    have hms : mnP j (t + 1) = mnP j t * fac (memT j t).length := rfl
    have hbig := fun k (hk : k ≤ (memT j t).length) h => mnP_big j (n := j.tm.length) htl hk h
    generalize memT j (t : Int) = L at *
    generalize hM : mnP j t = M at *
    repeat' (first | refine w1g ?_ | refine w1l ?_ | refine w1q ?_ | refine w1b ?_ | refine w1p ?_ | ((first | refine w1r ?_ | refine w1k ?_ | refine w1e ?_ | refine CallC.now (c58) ?_); (refine sy1 ?_; try exact True.intro)) | refine an2 ?_ | fail)
    refine W_loopU (fun k : Nat => [(7, iv ((M * fac k : Nat) : Int)), (34, iv k)]) (fun k => []) (fun k => k ≤ L.length ∧ M * fac k ≤ 5040) (fun k => L.length - k) 0 ⟨by omega, by show M * 1 ≤ 5040; omega⟩ (by rfl) (by rw [show M * fac 0 = M from Nat.mul_one M]; rfl) (fun k hk => ?_)
    obtain ⟨hk, hmk⟩ := hk
    have hfs : M * fac (k + 1) = M * fac k * (k + 1) := (Nat.mul_assoc M (fac k) (k + 1)).symm
    have hbk := hbig (k + 1)
    generalize hF : M * fac k = F at *
    have hFk : ((F * (k + 1) : Nat) : Int) = (F : Int) * ((k : Int) + 1) := by rw [Int.natCast_mul]; rfl
    (refine sy1 ?_; try exact True.intro)
    repeat' (first | refine w1g ?_ | refine w1l ?_ | refine w1q ?_ | refine w1b ?_ | refine w1p ?_ | ((first | refine w1r ?_ | refine w1k ?_ | refine w1e ?_); (refine sy1 ?_; try exact True.intro)) | refine an2 ?_ | fail)
    refine W_condD (by rfl) (fun h6 => ?_) (fun h6 => ?_)
    · have hkl : k < L.length := by omega
      have hFb : F * (k + 1) ≤ 5040 * 25 := Nat.mul_le_mul (by omega) (by omega)
      have hw : IntKind.i64.wrap ((F : Int) * ((k : Int) + 1)) = (F : Int) * ((k : Int) + 1) := wrap64 ⟨by omega, by omega⟩
      have hwk : IntKind.i64.wrap ((k : Int) + 1) = (k : Int) + 1 := wrap64 ⟨by omega, by omega⟩
      repeat' (first | refine w1g ?_ | refine w1l ?_ | refine w1q ?_ | refine w1b ?_ | refine w1p ?_ | ((first | refine w1r ?_ | refine w1k ?_ | refine w1e ?_); simp (maxSteps := 400000) (disch := omega) only [push_cast, ↓reduceIte, reduceCtorEq, Nat.reduceAdd, Nat.reduceSub, Nat.reduceEqDiff, Nat.reduceLeDiff, Nat.reduceLT, Nat.reduceBEq, Nat.reduceDiv, Nat.reduceMod, Nat.reducePow, Nat.reduceMul, Int.reduceToNat, Int.reduceLT, Int.reduceLE, hwk, hw]) | refine an2 ?_ | fail)
      by_cases hq : F * (k + 1) ≤ 5040
      · rw [show decide (5040 < (F : Int) * ((k : Int) + 1)) = false from decide_eq_false (by omega)]
        refine W_cond (by rfl) (fun h => by cases h) (fun _ => ?_)
        repeat' (first | refine w1g ?_ | refine w1l ?_ | refine w1q ?_ | refine w1b ?_ | refine w1p ?_ | ((first | refine w1r ?_ | refine w1k ?_ | refine w1e ?_); (refine sy1 ?_; try exact True.intro)) | refine an2 ?_ | fail)
        refine ⟨k + 1, ⟨by omega, by rw [hfs]; exact hq⟩, by omega, by rfl, ?_⟩
        rw [show (M : Int) * ((fac (k + 1) : Nat) : Int) = (F : Int) * ((k : Int) + 1) by rw [← Int.natCast_mul, hfs, hFk]]
        (refine syE ?_; try exact True.intro)
      · rw [show decide (5040 < (F : Int) * ((k : Int) + 1)) = true from decide_eq_true (by omega)]
        have hb := hbk (by omega) (by rw [hfs]; omega)
        rw [if_neg (fun q => by omega)] at eO eL eN eE
        subst eO eL eN eE
        refine W_cond (by rfl) (fun _ => ?_) (fun h => by cases h)
        repeat' (first | refine w1g ?_ | refine w1l ?_ | refine w1q ?_ | refine w1b ?_ | refine w1p ?_ | ((first | refine w1r ?_ | refine w1k ?_ | refine w1e ?_); (refine sy1 ?_; try exact True.intro)) | refine an2 ?_ | fail)
        refine W_le (le_nil 2 1 [] cO rfl) ?_
        refine W_le (le_nil 3 1 0 cI rfl) ?_
        exact W_ret ⟨[_, _, _, _], ⟨rfl, rfl, rfl, rfl, rfl⟩, rfl⟩
    · obtain rfl : k = L.length := by omega
      repeat' (first | refine w1g ?_ | refine w1l ?_ | refine w1q ?_ | refine w1b ?_ | refine w1p ?_ | ((first | refine w1r ?_ | refine w1k ?_ | refine w1e ?_); (refine sy1 ?_; try exact True.intro)) | refine an2 ?_ | fail)
      refine ⟨t + 1, ⟨by omega, by rw [hms, hF]; exact hmk⟩, by omega, by rfl, ?_⟩
      rw [hms, hF]
      (refine syE ?_; try exact True.intro)
  · obtain rfl : t = j.tm.length := by omega
    repeat' (first | refine w1g ?_ | refine w1l ?_ | refine w1q ?_ | refine w1b ?_ | refine w1p ?_ | ((first | refine w1r ?_ | refine w1k ?_ | refine w1e ?_); (refine sy1 ?_; try exact True.intro)) | refine an2 ?_ | fail)
    refine CallC.now (fn59 j) ?_
    (refine sy1 ?_; try exact True.intro)
    repeat' (first | refine w1g ?_ | refine w1l ?_ | refine w1q ?_ | refine w1b ?_ | refine w1p ?_ | ((first | refine w1r ?_ | refine w1k ?_ | refine w1e ?_); (refine sy1 ?_; try exact True.intro)) | refine an2 ?_ | fail)
    refine W_rfn (.inl rfl) (fun lp LP hLP => ?_)
    obtain ⟨TM, hTM⟩ : ∃ TM : List (Nat × AV), TM = [(1, .fp (cJ j) 0), (10, .own 16 0), (11, .own 17 0), (12, .own 18 0), (46, .clo 106 [] [.fp (cJ j) 0])] := ⟨_, rfl⟩
    have hBs1 : ∀ c, Bas 23 (mB 22 lp LP TM c) := fun c => bas_of rfl
    have HY : YO (mB 22 lp LP TM) (stB j) 23 lp (fun x => x ∈ ordsK j j.tm.length []) := fun b x hx tmc Rc nxc hRc => by
      refine Yl_opqX mixed hLP (k := 22) (tml := TM) rfl rfl rfl hRc (hBs1 b) (fun R2 nx2 hR2 hlt2 hE2 => ?_)
      have hN2 := hR2.n
      have hOx := ords_ok hok hx
      have c50 := fn50 j x hOx
      have hst : stB j b x = if erlB j (lks j x) = true ∧ (b.e < 0 ∨ enP j (erlL j (lks j x)) < b.e) then ⟨x, erlL j (lks j x), enP j (erlL j (lks j x))⟩ else b := rfl
      have hfa := fun hb => erl_facts hok (lks_lk' hOx) hb
      generalize erlB j (lks j x) = EB at *
      generalize hEL : erlL j (lks j x) = EL at *
      rw [hTM]
      (refine sy1 ?_; try exact True.intro)
      repeat' (first | refine w1g ?_ | refine w1l ?_ | refine w1q ?_ | refine w1b ?_ | refine w1p ?_ | ((first | refine w1r ?_ | refine w1k ?_ | refine w1e ?_); (refine sy1 ?_; try exact True.intro)) | refine an2 ?_ | fail)
      refine ⟨mB 22 lp LP _ b, _, rfl, rfl, ?_⟩
      obtain ⟨KY, hKY⟩ : ∃ KY : Bool → Mem → Prop, KY = fun r B' => r = true ∧ B' = mB 22 lp LP TM (stB j b x) := ⟨_, rfl⟩
      rw [← hTM, ← hKY]
      simp (maxSteps := 400000) (disch := omega) only [push_cast, ↓reduceIte, reduceCtorEq, Nat.reduceAdd, Nat.reduceSub, Nat.reduceEqDiff, Nat.reduceLeDiff, Nat.reduceLT, Nat.reduceBEq, Nat.reduceDiv, Nat.reduceMod, Nat.reducePow, Nat.reduceMul, Int.reduceToNat, Int.reduceLT, Int.reduceLE, mB, List.cons_append, List.nil_append]
      repeat' (first | refine w1g ?_ | refine w1l ?_ | refine w1q ?_ | refine w1b ?_ | refine w1p ?_ | ((first | refine w1r ?_ | refine w1k ?_ | refine w1e ?_ | refine CallC.now (c50) ?_); (refine sy1 ?_; try exact True.intro)) | refine an2 ?_ | fail)
      have finR : ∀ (b' : Bo) (R3 : Mem) (nx3 : Nat) (s' : S), s'.mem = mBb 22 lp LP TM b' ++ R3 → Ext nx2 R2 nx3 R3 → nx3 ≤ s'.nx → stB j b x = b' → RndX 23 22 lp LP nx2 R2 KY .n s' := fun b' R3 nx3 s' h1 h2 h3 h4 => ⟨mBb 22 lp LP TM b', R3, TM, by rw [h1]; exact sameM.refl _, bas_of rfl, h2.up h3, rfl, by rw [hKY, h4]; exact ⟨rfl, rfl⟩⟩
      clear hKY
      cases EB
      · rw [if_neg (fun q => by cases q.1)] at hst
        refine W_cond (by rfl) (fun _ => ?_) (fun h => by cases h)
        refine W_exit ?_
        exact finR b R2 nx2 _ rfl (Ext.refl hR2) (by first | omega | (dsimp only; omega)) hst
      · refine W_cond (by rfl) (fun h => by cases h) (fun _ => ?_)
        obtain ⟨l1, l2, _⟩ := hfa rfl
        have hr : ∀ k, k < EL.length → 0 ≤ gi EL k ∧ gi EL k ≤ 1099511627776 := fun k hk => fit_rng (hok.t k (by omega)).1.2.2 (hok.t k (by omega)).1.1 (fitB_iff.2 (l2.f k (by omega)))
        have hmi : ∀ k, k < EL.length → 0 ≤ (gt j.ts k).mi ∧ (gt j.ts k).mi ≤ 10080 := fun k hk => ⟨(hok.t k (by omega)).1.1, (hok.t k (by omega)).1.2.1⟩
        repeat' (first | refine w1g ?_ | refine w1l ?_ | refine w1q ?_ | refine w1b ?_ | refine w1p ?_ | ((first | refine w1r ?_ | refine w1k ?_ | refine w1e ?_); (refine sy1 ?_; try exact True.intro)) | refine an2 ?_ | fail)
        refine W_loopX 23 (fun k : Nat => [(16, iv (enK j EL k)), (58, iv k)]) (fun k => mBb 22 lp LP TM b) (fun k => k ≤ EL.length) (fun k => EL.length - k) (fun k _ => bas_of rfl) (hR2.le (show nx2 ≤ nx2 + 15 by omega)) 0 (by omega) (by rfl) (sameM.refl _) (fun k R1 nx1 hk hX => ?_)
        have hX' : Ext nx2 R2 nx1 R1 := ((Ext.refl hR2).up (show nx2 ≤ nx2 + 15 by omega)).trans hX
        have hN1 := hX'.n
        have hes : enK j EL (k + 1) = max (enK j EL k) (gi EL k + (gt j.ts k).mi) := rfl
        have hen := enK_pos j EL k
        simp (maxSteps := 400000) (disch := omega) only [push_cast, ↓reduceIte, reduceCtorEq, Nat.reduceAdd, Nat.reduceSub, Nat.reduceEqDiff, Nat.reduceLeDiff, Nat.reduceLT, Nat.reduceBEq, Nat.reduceDiv, Nat.reduceMod, Nat.reducePow, Nat.reduceMul, Int.reduceToNat, Int.reduceLT, Int.reduceLE, keepL]
        repeat' (first | refine w1g ?_ | refine w1l ?_ | refine w1q ?_ | refine w1b ?_ | refine w1p ?_ | ((first | refine w1r ?_ | refine w1k ?_ | refine w1e ?_); simp (maxSteps := 400000) (disch := omega) only [push_cast, ↓reduceIte, reduceCtorEq, Nat.reduceAdd, Nat.reduceSub, Nat.reduceEqDiff, Nat.reduceLeDiff, Nat.reduceLT, Nat.reduceBEq, Nat.reduceDiv, Nat.reduceMod, Nat.reducePow, Nat.reduceMul, Int.reduceToNat, Int.reduceLT, Int.reduceLE, keepL]) | refine an2 ?_ | fail)
        refine W_condD (by rfl) (fun h6 => ?_) (fun h6 => ?_)
        · have hkl : k < EL.length := by omega
          have hr := hr k hkl
          have hmi := hmi k hkl
          have g1 : EL.getD k 0 = gi EL k := rfl
          have g2 : j.ts.getD k dTk = gt j.ts k := rfl
          have hkt : k < j.ts.length := by omega
          repeat' (first | refine w1g ?_ | refine w1l ?_ | refine w1q ?_ | refine w1b ?_ | refine w1p ?_ | ((first | refine w1r ?_ | refine w1k ?_ | refine w1e ?_); simp (maxSteps := 400000) (disch := omega) only [push_cast, ↓reduceIte, reduceCtorEq, Nat.reduceAdd, Nat.reduceSub, Nat.reduceEqDiff, Nat.reduceLeDiff, Nat.reduceLT, Nat.reduceBEq, Nat.reduceDiv, Nat.reduceMod, Nat.reducePow, Nat.reduceMul, Int.reduceToNat, Int.reduceLT, Int.reduceLE, keepL, g1, g2]) | refine an2 ?_ | fail)
          exact ⟨k + 1, R1, by omega, by omega, by rw [hes]; rfl, sameM.refl _, (Ext.refl (hX'.opq hR2)).up (by first | omega | (dsimp only; omega))⟩
        · obtain rfl : k = EL.length := by omega
          generalize hen2 : enK j EL EL.length = n at *
          have hst : stB j b x = if b.e < 0 ∨ n < b.e then ⟨x, EL, n⟩ else b := by
            rw [hst]
            by_cases q : b.e < 0 ∨ n < b.e
            · rw [if_pos q, if_pos ⟨rfl, by show b.e < 0 ∨ enK j EL EL.length < b.e; rw [hen2]; exact q⟩]
              show Bo.mk x EL (enK j EL EL.length) = _
              rw [hen2]
            · rw [if_neg q, if_neg (fun z => q (by have := z.2; show b.e < 0 ∨ n < b.e; rw [← hen2]; exact this))]
          repeat' (first | refine w1g ?_ | refine w1l ?_ | refine w1q ?_ | refine w1b ?_ | refine w1p ?_ | ((first | refine w1r ?_ | refine w1k ?_ | refine w1e ?_); simp (maxSteps := 400000) (disch := omega) only [push_cast, ↓reduceIte, reduceCtorEq, Nat.reduceAdd, Nat.reduceSub, Nat.reduceEqDiff, Nat.reduceLeDiff, Nat.reduceLT, Nat.reduceBEq, Nat.reduceDiv, Nat.reduceMod, Nat.reducePow, Nat.reduceMul, Int.reduceToNat, Int.reduceLT, Int.reduceLE, keepL, mBb, List.cons_append, List.nil_append]) | refine an2 ?_ | fail)
          have hn0 : 0 ≤ n := by rw [← hen2]; exact enK_pos j EL _
          by_cases q : b.e < 0 ∨ n < b.e
          · rw [if_pos q] at hst
            rw [show (decide (b.e < 0) || decide (n < b.e)) = true by rw [Bool.or_eq_true, decide_eq_true_eq, decide_eq_true_eq]; exact q]
            refine W_cond (by rfl) (fun _ => ?_) (fun h => by cases h)
            repeat' (first | refine w1g ?_ | refine w1l ?_ | refine w1q ?_ | refine w1b ?_ | refine w1p ?_ | ((first | refine w1r ?_ | refine w1k ?_ | refine w1e ?_); (refine sy1 ?_; try exact True.intro)) | refine an2 ?_ | fail)
            refine finR ⟨x, EL, n⟩ R1 nx1 _ ?_ hX' (by first | omega | (dsimp only; omega)) hst
            unfold mBb bO bL
            rw [if_neg (show ¬ (Bo.mk x EL n).e < 0 from by show ¬ n < 0; omega), if_neg (show ¬ (Bo.mk x EL n).e < 0 from by show ¬ n < 0; omega)]
            rfl
          · rw [if_neg q] at hst
            rw [show (decide (b.e < 0) || decide (n < b.e)) = false by rw [← Bool.not_eq_true, Bool.or_eq_true, decide_eq_true_eq, decide_eq_true_eq]; exact q]
            refine W_cond (by rfl) (fun h => by cases h) (fun _ => ?_)
            refine W_skip ?_
            exact finR b R1 nx1 _ rfl hX' (by first | omega | (dsimp only; omega)) hst
    have hI := i106 hok hBs1 HY bs0 (fun x hx => hx) TM [] 23 (opq_nil 23)
    rw [List.append_nil] at hI
    clear HY hBs1
    subst hTM
    refine Inl_le' hI (fun v s' hs => ?_)
    obtain ⟨B', R2, nx2, hB', hX2, ⟨rfl, rfl⟩, hl⟩ := hs
    have hO2 := hX2.opq (opq_nil 23)
    have hn2 := hX2.n
    refine ⟨_, ?_, hl⟩
    have hbs : (ordsK j j.tm.length []).foldl (stB j) bs0 = bsJ j := rfl
    rw [hbs]
    refine ⟨LP, _, rfl, by rw [hLP.st]; simp, ?_⟩
    rw [hLP.pe]
    clear hl hI hB' hbs
    generalize bsJ j = b2 at *
    simp (maxSteps := 400000) (disch := omega) only [push_cast, ↓reduceIte, reduceCtorEq, Nat.reduceAdd, Nat.reduceSub, Nat.reduceEqDiff, Nat.reduceLeDiff, Nat.reduceLT, Nat.reduceBEq, Nat.reduceDiv, Nat.reduceMod, Nat.reducePow, Nat.reduceMul, Int.reduceToNat, Int.reduceLT, Int.reduceLE, EndP, mB, List.cons_append, List.nil_append]
    repeat' (first | refine w1g ?_ | refine w1l ?_ | refine w1q ?_ | refine w1b ?_ | refine w1p ?_ | ((first | refine w1r ?_ | refine w1k ?_ | refine w1e ?_); (refine sy1 ?_; try exact True.intro)) | refine an2 ?_ | fail)
    by_cases hb : 0 ≤ b2.e
    · rw [if_pos ⟨h0, hm, hb⟩] at eO eL eN
      rw [if_pos hm, if_pos hb] at eE
      subst eO eL eN eE
      rw [show decide (b2.e < 0) = false from decide_eq_false (by omega)]
      have h1 : bO b2 = aO b2.o := if_neg (by omega)
      have h2 : bL b2 = aI b2.l := if_neg (by omega)
      rw [h1, h2]
      refine W_cond (by rfl) (fun h => by cases h) (fun _ => ?_)
      repeat' (first | refine w1g ?_ | refine w1l ?_ | refine w1q ?_ | refine w1b ?_ | refine w1p ?_ | ((first | refine w1r ?_ | refine w1k ?_ | refine w1e ?_); (refine sy1 ?_; try exact True.intro)) | refine an2 ?_ | fail)
      exact W_ret ⟨[_, _, _, _], ⟨rfl, rfl, rfl, rfl, rfl⟩, rfl⟩
    · rw [if_neg (fun q => hb q.2.2)] at eO eL eN
      rw [if_pos hm, if_neg hb] at eE
      subst eO eL eN eE
      rw [show decide (b2.e < 0) = true from decide_eq_true (by omega)]
      refine W_cond (by rfl) (fun _ => ?_) (fun h => by cases h)
      repeat' (first | refine w1g ?_ | refine w1l ?_ | refine w1q ?_ | refine w1b ?_ | refine w1p ?_ | ((first | refine w1r ?_ | refine w1k ?_ | refine w1e ?_); (refine sy1 ?_; try exact True.intro)) | refine an2 ?_ | fail)
      refine W_le (le_nil 2 1 [] cO rfl) ?_
      refine W_le (le_nil 3 1 0 cI rfl) ?_
      exact W_ret ⟨[_, _, _, _], ⟨rfl, rfl, rfl, rfl, rfl⟩, rfl⟩
end Go.Proofs.Ytoiohkjomcbadaa

namespace Go.Proofs.Ytoiohkjomcbadaa
open Go Sy
set_option maxRecDepth 100000
set_option maxHeartbeats 4000000
set_option linter.unusedVariables false
set_option linter.unusedSimpArgs false
theorem fn48 (j : Jb) (l : List Int) (hl : l.length ≤ j.ts.length) (hb : j.ts.length ≤ 1000) (hr : ∀ k, k < l.length → 0 ≤ gi l k ∧ gi l k ≤ 1099511627776) (hm : ∀ k, k < l.length → 0 ≤ (gt j.ts k).mi ∧ (gt j.ts k).mi ≤ 10080) : Sy.Fn Try.prog 48 [aJ j, aI l] (iv (enP j l)) := by
  refine Fn_of_W mixed Xt48 rfl ?_
  repeat' (first | refine w1g ?_ | refine w1l ?_ | refine w1q ?_ | refine w1b ?_ | refine w1p ?_ | ((first | refine w1r ?_ | refine w1k ?_ | refine w1e ?_); (refine sy1 ?_; try exact True.intro)) | refine an2 ?_ | fail)
  refine W_loopU (fun k : Nat => [(5, iv (enK j l k)), (6, iv k)]) (fun k => []) (fun k => k ≤ l.length) (fun k => l.length - k) 0 (by omega) (by rfl) (by rfl) (fun k hk => ?_)
  have hes : enK j l (k + 1) = max (enK j l k) (gi l k + (gt j.ts k).mi) := rfl
  (refine sy1 ?_; try exact True.intro)
  repeat' (first | refine w1g ?_ | refine w1l ?_ | refine w1q ?_ | refine w1b ?_ | refine w1p ?_ | ((first | refine w1r ?_ | refine w1k ?_ | refine w1e ?_); (refine sy1 ?_; try exact True.intro)) | refine an2 ?_ | fail)
  refine W_condD (by rfl) (fun h5 => ?_) (fun h5 => ?_)
  · have hkl : k < l.length := by omega
    have hr := hr k hkl
    have hm := hm k hkl
    have hkt : k < j.ts.length := by omega
    have g1 : l.getD k 0 = gi l k := rfl
    have g2 : j.ts.getD k dTk = gt j.ts k := rfl
    repeat' (first | refine w1g ?_ | refine w1l ?_ | refine w1q ?_ | refine w1b ?_ | refine w1p ?_ | ((first | refine w1r ?_ | refine w1k ?_ | refine w1e ?_); simp (maxSteps := 400000) (disch := omega) only [push_cast, ↓reduceIte, reduceCtorEq, Nat.reduceAdd, Nat.reduceSub, Nat.reduceEqDiff, Nat.reduceLeDiff, Nat.reduceLT, Nat.reduceBEq, Nat.reduceDiv, Nat.reduceMod, Nat.reducePow, Nat.reduceMul, Int.reduceToNat, Int.reduceLT, Int.reduceLE, g1, g2]) | refine an2 ?_ | fail)
    refine ⟨k + 1, by omega, by omega, by rfl, ?_⟩
    rw [hes]
    (refine syE ?_; try exact True.intro)
  · obtain rfl : k = l.length := by omega
    repeat' (first | refine w1g ?_ | refine w1l ?_ | refine w1q ?_ | refine w1b ?_ | refine w1p ?_ | ((first | refine w1r ?_ | refine w1k ?_ | refine w1e ?_); (refine sy1 ?_; try exact True.intro)) | refine an2 ?_ | fail)
    exact W_ret ⟨[_], ⟨rfl, rfl⟩, rfl⟩
def mnM (j : Jb) : Nat := min (mnP j j.tm.length) 5041
theorem min_step (a k : Nat) (hk : 0 < k) : min (min a 5041 * k) 5041 = min (a * k) 5041 := by
  rcases Nat.lt_or_ge a 5041 with h | h
  · rw [Nat.min_eq_left (Nat.le_of_lt h)]
  · rw [Nat.min_eq_right h, Nat.min_eq_right (Nat.le_mul_of_pos_right _ hk), Nat.min_eq_right (Nat.le_trans h (Nat.le_mul_of_pos_right _ hk))]
theorem fn18 (j : Jb) (hn : j.ts.length ≤ 30) (hnt : j.tm.length ≤ 1000) : Sy.Fn Try.prog 18 [aJ j] (iv (mnM j)) := by
  refine Fn_of_W mixed Xt18 rfl ?_
  repeat' (first | refine w1g ?_ | refine w1l ?_ | refine w1q ?_ | refine w1b ?_ | refine w1p ?_ | ((first | refine w1r ?_ | refine w1k ?_ | refine w1e ?_); (refine sy1 ?_; try exact True.intro)) | refine an2 ?_ | fail)
  refine W_loopU (fun t : Nat => [(3, iv ((min (mnP j t) 5041 : Nat) : Int)), (4, iv t)]) (fun t => []) (fun t => t ≤ j.tm.length) (fun t => j.tm.length - t) 0 (by omega) (by rfl) (by rfl) (fun t ht => ?_)
  have hms : mnP j (t + 1) = mnP j t * fac (memT j t).length := rfl
  have hLl : (memT j (t : Int)).length ≤ j.ts.length := memK_len j (t : Int) j.ts.length
  have c57 := fn57 j (t : Int) (by omega)
  (refine sy1 ?_; try exact True.intro)
  repeat' (first | refine w1g ?_ | refine w1l ?_ | refine w1q ?_ | refine w1b ?_ | refine w1p ?_ | ((first | refine w1r ?_ | refine w1k ?_ | refine w1e ?_); (refine sy1 ?_; try exact True.intro)) | refine an2 ?_ | fail)
  refine W_condD (by rfl) (fun h5 => ?_) (fun h5 => ?_)
  · generalize (memT j (t : Int)).length = L at *
    generalize hM : mnP j t = M at *
    repeat' (first | refine w1g ?_ | refine w1l ?_ | refine w1q ?_ | refine w1b ?_ | refine w1p ?_ | ((first | refine w1r ?_ | refine w1k ?_ | refine w1e ?_); (refine sy1 ?_; try exact True.intro)) | refine an2 ?_ | fail)
    refine W_loopU (fun i : Nat => [(3, iv ((min (M * fac (i + 1)) 5041 : Nat) : Int)), (5, iv ((i : Int) + 2))]) (fun i => []) (fun i => i + 1 ≤ max L 1) (fun i => L + 1 - i) 0 (by omega) (by rfl) (by rw [show M * fac (0 + 1) = M by show M * (1 * 1) = M; omega]; rfl) (fun i hi => ?_)
    have hfs : min (M * fac (i + 1 + 1)) 5041 = min (min (M * fac (i + 1)) 5041 * (i + 2)) 5041 := by
      rw [min_step _ _ (by omega), Nat.mul_assoc]
      rfl
    have hF5 : min (M * fac (i + 1)) 5041 ≤ 5041 := Nat.min_le_right _ _
    have hFe : L < i + 2 → M * fac (i + 1) = M * fac L := fun q => by
      congr 1
      rcases Nat.lt_or_ge L 2 with z | z
      · have : i = 0 := by omega
        subst this
        have : L = 0 ∨ L = 1 := by omega
        rcases this with rfl | rfl <;> rfl
      · have : i + 1 = L := by omega
        rw [this]
    have hFe2 : L < i + 2 → min (M * fac (i + 1)) 5041 = min (M * fac L) 5041 := fun q => by rw [hFe q]
    generalize min (M * fac (i + 1)) 5041 = F at *
    (refine sy1 ?_; try exact True.intro)
    repeat' (first | refine w1g ?_ | refine w1l ?_ | refine w1q ?_ | refine w1b ?_ | refine w1p ?_ | ((first | refine w1r ?_ | refine w1k ?_ | refine w1e ?_ | refine CallC.now (c57) ?_); (refine sy1 ?_; try exact True.intro)) | refine an2 ?_ | fail)
    refine W_condD (by rfl) (fun h6 => ?_) (fun h6 => ?_)
    · have hFb : F * (i + 2) ≤ 5041 * 40 := Nat.mul_le_mul hF5 (by omega)
      have hFk : ((F * (i + 2) : Nat) : Int) = (F : Int) * ((i : Int) + 2) := by rw [Int.natCast_mul]; rfl
      have hw : IntKind.i64.wrap ((F : Int) * ((i : Int) + 2)) = (F : Int) * ((i : Int) + 2) := wrap64 ⟨by omega, by omega⟩
      repeat' (first | refine w1g ?_ | refine w1l ?_ | refine w1q ?_ | refine w1b ?_ | refine w1p ?_ | ((first | refine w1r ?_ | refine w1k ?_ | refine w1e ?_); simp (maxSteps := 400000) (disch := omega) only [push_cast, ↓reduceIte, reduceCtorEq, Nat.reduceAdd, Nat.reduceSub, Nat.reduceEqDiff, Nat.reduceLeDiff, Nat.reduceLT, Nat.reduceBEq, Nat.reduceDiv, Nat.reduceMod, Nat.reducePow, Nat.reduceMul, Int.reduceToNat, Int.reduceLT, Int.reduceLE, hw]) | refine an2 ?_ | fail)
      refine ⟨i + 1, by omega, by omega, by rfl, ?_⟩
      have he : ((min (M * fac (i + 1 + 1)) 5041 : Nat) : Int) = min ((F : Int) * ((i : Int) + 2)) 5041 := by rw [hfs]; omega
      rw [he, show (i : Int) + 2 + 1 = ((i + 1 : Nat) : Int) + 2 by omega]
    · have hF2 := hFe2 (by omega)
      repeat' (first | refine w1g ?_ | refine w1l ?_ | refine w1q ?_ | refine w1b ?_ | refine w1p ?_ | ((first | refine w1r ?_ | refine w1k ?_ | refine w1e ?_); (refine sy1 ?_; try exact True.intro)) | refine an2 ?_ | fail)
      refine ⟨t + 1, by omega, by omega, by rfl, ?_⟩
      rw [hms, ← hF2]
      (refine syE ?_; try exact True.intro)
  · obtain rfl : t = j.tm.length := by omega
    repeat' (first | refine w1g ?_ | refine w1l ?_ | refine w1q ?_ | refine w1b ?_ | refine w1p ?_ | ((first | refine w1r ?_ | refine w1k ?_ | refine w1e ?_); (refine sy1 ?_; try exact True.intro)) | refine an2 ?_ | fail)
    exact W_ret ⟨[_], ⟨rfl, rfl⟩, rfl⟩
end Go.Proofs.Ytoiohkjomcbadaa

namespace Go.Proofs.Ytoiohkjomcbadaa
open Go Sy
set_option maxRecDepth 100000
set_option maxHeartbeats 4000000
set_option linter.unusedVariables false
set_option linter.unusedSimpArgs false
end Go.Proofs.Ytoiohkjomcbadaa

namespace Go.Proofs.Ytoiohkjomcbadaa
open Go Sy
set_option maxRecDepth 100000
set_option maxHeartbeats 4000000
set_option linter.unusedVariables false
set_option linter.unusedSimpArgs false
def cQ (o : List (List Int)) : List AV := [aO o]
theorem nQ0 (x : List (List Int)) : nth (cQ x) 0 = aO x := rfl
theorem lQ (x : List (List Int)) : (cQ x).length = 1 := rfl
theorem frQ (x : List (List Int)) : frzAll (cQ x) = true := rfl
theorem tQ (x : List (List Int)) : List.take 1 (List.drop 0 (cQ x)) = cQ x := rfl
theorem uQ (x : List (List Int)) : List.take 1 (cQ x) = cQ x := rfl
theorem iQ {m : Nat → Option Blk} {n : Nat} (x : List (List Int)) : List.flatMap (ids m n) (cQ x) = [] := flat_frz n _ (frQ x)
theorem vQ {m : Nat → Option Blk} {n : Nat} (x : List (List Int)) : List.map (view m n) (cQ x) = cQ x := viewL_frz n _ (frQ x)
attribute [push_cast] nQ0 lQ frQ tQ uQ iQ vQ
end Go.Proofs.Ytoiohkjomcbadaa

namespace Go.Proofs.Ytoiohkjomcbadaa
open Go Sy
set_option maxRecDepth 100000
set_option maxHeartbeats 4000000
set_option linter.unusedVariables false
set_option linter.unusedSimpArgs false
structure Bk (j : Jb) (b : Bo) : Prop where
  n : b.l.length = j.ts.length
  r : ∀ k, k < b.l.length → 0 ≤ gi b.l k ∧ gi b.l k ≤ 1099511627776
  e : b.e = enP j b.l
theorem stB_ok {j : Jb} (h : OkJ j) {b : Bo} {o : List (List Int)} (ho : OkO j o) (hb : b.e < 0 ∨ Bk j b) : (stB j b o).e < 0 ∨ Bk j (stB j b o) := by
  unfold stB
  split
  · rename_i q
    obtain ⟨l1, l2, _⟩ := erl_facts h (lks_lk' ho) q.1
    exact .inr ⟨l1, fun k hk => fit_rng (h.t k (by rw [← l1]; exact hk)).1.2.2 (h.t k (by rw [← l1]; exact hk)).1.1 (fitB_iff.2 (l2.f k (by rw [← l1]; exact hk))), rfl⟩
  · exact hb
end Go.Proofs.Ytoiohkjomcbadaa

namespace Go.Proofs.Ytoiohkjomcbadaa
open Go Sy
set_option maxRecDepth 100000
set_option maxHeartbeats 4000000
set_option linter.unusedVariables false
set_option linter.unusedSimpArgs false
theorem bsJ_ok (j : Jb) (h : OkJ j) : (bsJ j).e < 0 ∨ (Bk j (bsJ j) ∧ OkO j (bsJ j).o) := by
  have key : ∀ (l : List (List (List Int))) (b : Bo), (∀ o ∈ l, OkO j o) → (b.e < 0 ∨ (Bk j b ∧ OkO j b.o)) → ((l.foldl (stB j) b).e < 0 ∨ (Bk j (l.foldl (stB j) b) ∧ OkO j (l.foldl (stB j) b).o)) := fun l => by
    induction l with
    | nil => intro b _ hb; exact hb
    | cons o l ih =>
      intro b hl hb
      refine ih (stB j b o) (fun x hx => hl x (List.mem_cons_of_mem _ hx)) ?_
      have ho := hl o List.mem_cons_self
      rcases stB_ok h ho (hb.imp id And.left) with q | q
      · exact .inl q
      · by_cases z : erlB j (lks j o) = true ∧ (b.e < 0 ∨ enP j (erlL j (lks j o)) < b.e)
        · refine .inr ⟨q, ?_⟩
          unfold stB
          rw [if_pos z]
          exact ho
        · have e : stB j b o = b := by unfold stB; rw [if_neg z]
          rw [e]
          exact hb
  exact key _ bs0 (fun o ho => ords_ok h ho) (.inl (by show (-1 : Int) < 0; omega))
theorem row_small {j : Jb} {o : List (List Int)} (h : OkO j o) : o.length ≤ 6 ∧ ∀ l ∈ o, l.length ≤ 24 := by
  have h1 := h.len
  have h2 := h.nt
  have h3 := h.n
  refine ⟨by omega, fun l hl => ?_⟩
  obtain ⟨t, ht, rfl⟩ := List.getElem_of_mem hl
  have hp := h.row t ht
  have e : o.getD t [] = o[t] := by rw [List.getD_eq_getElem?_getD, List.getElem?_eq_getElem ht]; rfl
  rw [e] at hp
  rw [hp.length_eq]
  exact Nat.le_trans (memK_len j t j.ts.length) h3
theorem bt_small (j : Jb) : (btO j).length ≤ 6 ∧ (∀ l ∈ btO j, l.length ≤ 24) ∧ (btL j).length ≤ 24 := by
  by_cases q : chkJ j = 0 ∧ mnP j j.tm.length ≤ 5040 ∧ 0 ≤ (bsJ j).e
  · have hok := chkJ_ok q.1
    unfold btO btL
    rw [if_pos q, if_pos q]
    rcases bsJ_ok j hok with z | ⟨z1, z2⟩
    · omega
    · have := row_small z2
      have := z1.n
      have := hok.n
      exact ⟨(row_small z2).1, (row_small z2).2, by omega⟩
  · unfold btO btL
    rw [if_neg q, if_neg q]
    exact ⟨by simp, fun l hl => by simp at hl, by simp⟩
end Go.Proofs.Ytoiohkjomcbadaa

namespace Go.Proofs.Ytoiohkjomcbadaa
open Go Sy
set_option linter.unusedVariables false
theorem prm_all : ∀ (k : Nat) (h r x : List Int), r.length = k → x.Perm r → h ++ x ∈ prm k h r
  | 0, h, r, x, hr, hx => by
    have h1 : r = [] := List.eq_nil_of_length_eq_zero hr
    rw [h1] at hx
    rw [hx.eq_nil, List.append_nil]
    exact List.mem_singleton.2 rfl
  | k + 1, h, r, x, hr, hx => by
    cases x with
    | nil => have := hx.length_eq; simp at this; omega
    | cons y x =>
      have hy : y ∈ r := hx.mem_iff.1 List.mem_cons_self
      obtain ⟨i, hi, he⟩ := List.getElem_of_mem hy
      have e : gi r i = y := by show r.getD i 0 = _; rw [List.getD_eq_getElem?_getD, List.getElem?_eq_getElem hi]; exact he
      have h2 : r = r.take i ++ r[i] :: r.drop (i + 1) := by rw [← List.drop_eq_getElem_cons hi, List.take_append_drop]
      have h3 : (y :: r.eraseIdx i).Perm r := by
        rw [List.eraseIdx_eq_take_drop_succ, ← he]
        refine (List.perm_middle.symm).trans ?_
        rw [← h2]
      have h4 : x.Perm (r.eraseIdx i) := (hx.trans h3.symm).cons_inv
      refine List.mem_flatMap.2 ⟨i, List.mem_range.2 hi, ?_⟩
      rw [e]
      have := prm_all k (h ++ [y]) (r.eraseIdx i) x (by rw [List.length_eraseIdx, if_pos hi]; omega) h4
      rw [List.append_assoc] at this
      exact this
theorem ords_all {j : Jb} : ∀ (k : Nat) (h w : List (List Int)), w.length = k → (∀ i, i < k → (w.getD i []).Perm (memT j ((h.length + i : Nat) : Int))) → h ++ w ∈ ordsK j k h
  | 0, h, w, hw, _ => by
    rw [List.eq_nil_of_length_eq_zero hw, List.append_nil]
    exact List.mem_singleton.2 rfl
  | k + 1, h, w, hw, hp => by
    cases w with
    | nil => simp at hw
    | cons x w =>
      have h0 := hp 0 (by omega)
      have h1 : x.Perm (memT j (h.length : Int)) := h0
      refine List.mem_flatMap.2 ⟨x, ?_, ?_⟩
      · have := prm_all (memT j (h.length : Int)).length [] _ x rfl h1
        exact this
      · have := ords_all (j := j) k (h ++ [x]) w (by simpa using hw) (fun i hi => by
          have h2 := hp (i + 1) (by omega)
          rw [List.length_append, List.length_singleton, show h.length + 1 + i = h.length + (i + 1) by omega]
          exact h2)
        rw [List.append_assoc] at this
        exact this
theorem ords_mem {j : Jb} {o : List (List Int)} (h : OkO j o) : o ∈ ordsK j j.tm.length [] := by
  have := ords_all (j := j) j.tm.length [] o h.len (fun i hi => by
    have h1 := h.row i (by rw [h.len]; exact hi)
    rw [show ([] : List (List Int)).length + i = i by simp]
    exact h1)
  exact this
theorem chkO_of {j : Jb} {o : List (List Int)} (hc : chkJ j = 0) (h : OkO j o) : chkO j o = 0 := by
  unfold chkO
  rw [if_pos hc, if_pos h.len, if_pos]
  unfold ordB
  rw [List.all_eq_true]
  intro t ht
  have ht := List.mem_range.1 ht
  unfold rowB
  rw [decide_eq_true_eq]
  exact (perm_srt (memK_sorted j t j.ts.length)).2 (h.row t ht)
theorem bs_fold {j : Jb} : ∀ (l : List (List (List Int))) (b : Bo), (0 ≤ b.e → 0 ≤ (l.foldl (stB j) b).e ∧ (l.foldl (stB j) b).e ≤ b.e) ∧ ∀ o ∈ l, erlB j (lks j o) = true → 0 ≤ (l.foldl (stB j) b).e ∧ (l.foldl (stB j) b).e ≤ enP j (erlL j (lks j o))
  | [], b => ⟨fun h => ⟨h, Int.le_refl _⟩, fun o ho => by cases ho⟩
  | o :: l, b => by
    obtain ⟨h1, h2⟩ := bs_fold (j := j) l (stB j b o)
    have hp := enK_pos j (erlL j (lks j o)) (erlL j (lks j o)).length
    have hs : stB j b o = if erlB j (lks j o) = true ∧ (b.e < 0 ∨ enP j (erlL j (lks j o)) < b.e) then ⟨o, erlL j (lks j o), enP j (erlL j (lks j o))⟩ else b := rfl
    rw [List.foldl_cons]
    refine ⟨fun hb => ?_, fun x hx he => ?_⟩
    · by_cases q : erlB j (lks j o) = true ∧ (b.e < 0 ∨ enP j (erlL j (lks j o)) < b.e)
      · rw [if_pos q] at hs
        rw [hs] at h1 ⊢
        have := h1 hp
        have q2 := q.2
        refine ⟨this.1, ?_⟩
        have h3 := this.2
        have h4 : (Bo.mk o (erlL j (lks j o)) (enP j (erlL j (lks j o)))).e = enP j (erlL j (lks j o)) := rfl
        rw [h4] at h3
        omega
      · rw [if_neg q] at hs
        rw [hs] at h1 ⊢
        exact h1 hb
    · rcases List.mem_cons.1 hx with rfl | hx
      · by_cases q : b.e < 0 ∨ enP j (erlL j (lks j x)) < b.e
        · rw [if_pos ⟨he, q⟩] at hs
          rw [hs] at h1 ⊢
          exact h1 hp
        · rw [if_neg (fun z => q z.2)] at hs
          rw [hs] at h1 ⊢
          have := h1 (by omega)
          exact ⟨this.1, by omega⟩
      · exact h2 x hx he
theorem enK_mono (j : Jb) {l m : List Int} : ∀ k, (∀ i, i < k → gi l i ≤ gi m i) → enK j l k ≤ enK j m k
  | 0, _ => Int.le_refl _
  | k + 1, h => by
    have h1 := enK_mono j (l := l) (m := m) k (fun i hi => h i (by omega))
    have h2 := h k (by omega)
    show max (enK j l k) (gi l k + (gt j.ts k).mi) ≤ max (enK j m k) (gi m k + (gt j.ts k).mi)
    omega
theorem bs_best {j : Jb} (hok : OkJ j) {o : List (List Int)} (ho : OkO j o) {l : List Int} (hl : l.length = j.ts.length) (hr : Rgt j.ts (lks j o) (gi l)) : 0 ≤ (bsJ j).e ∧ (bsJ j).e ≤ enP j l := by
  have hb : erlB j (lks j o) = true := by
    rw [← Bool.not_eq_false]
    intro q
    exact erlB_no q ⟨_, hr⟩
  obtain ⟨l1, _, l3⟩ := erl_facts hok (lks_lk' ho) hb
  obtain ⟨h1, h2⟩ := (bs_fold (ordsK j j.tm.length []) bs0).2 o (ords_mem ho) hb
  refine ⟨h1, Int.le_trans h2 ?_⟩
  show enK j _ _ ≤ enK j _ _
  rw [l1, hl]
  exact enK_mono j _ (fun i hi => l3 _ hr i hi)
theorem bs_right {j : Jb} (hok : OkJ j) (h : 0 ≤ (bsJ j).e) : OkO j (bsJ j).o ∧ (bsJ j).l.length = j.ts.length ∧ Rgt j.ts (lks j (bsJ j).o) (gi (bsJ j).l) ∧ (bsJ j).e = enP j (bsJ j).l := by
  have key : ∀ (l : List (List (List Int))) (b : Bo), (∀ o ∈ l, OkO j o) → (b.e < 0 ∨ (OkO j b.o ∧ b.l.length = j.ts.length ∧ Rgt j.ts (lks j b.o) (gi b.l) ∧ b.e = enP j b.l)) → ((l.foldl (stB j) b).e < 0 ∨ (OkO j (l.foldl (stB j) b).o ∧ (l.foldl (stB j) b).l.length = j.ts.length ∧ Rgt j.ts (lks j (l.foldl (stB j) b).o) (gi (l.foldl (stB j) b).l) ∧ (l.foldl (stB j) b).e = enP j (l.foldl (stB j) b).l)) := fun l => by
    induction l with
    | nil => intro b _ hb; exact hb
    | cons o l ih =>
      intro b hl hb
      refine ih (stB j b o) (fun x hx => hl x (List.mem_cons_of_mem _ hx)) ?_
      have ho := hl o List.mem_cons_self
      unfold stB
      split
      · rename_i q
        obtain ⟨l1, l2, _⟩ := erl_facts hok (lks_lk' ho) q.1
        exact .inr ⟨ho, l1, l2, rfl⟩
      · exact hb
  rcases key _ bs0 (fun o ho => ords_ok hok ho) (.inl (by show (-1 : Int) < 0; omega)) with q | q
  · exact absurd h (Int.not_le.2 q)
  · exact q
end Go.Proofs.Ytoiohkjomcbadaa

namespace Go.Proofs.Ytoiohkjomcbadaa
open Go Sy
set_option linter.unusedVariables false
theorem ins_perm {α : Type} (lt : α → α → Bool) (v : α) : ∀ l : List α, (ins lt v l).Perm (v :: l)
  | [] => List.Perm.refl _
  | u :: l => by
    simp only [ins]
    split
    · exact List.Perm.refl _
    · exact ((ins_perm lt v l).cons u).trans (List.Perm.swap v u l)
theorem isort_perm {α : Type} (lt : α → α → Bool) (l : List α) : (isort lt l).Perm l :=
  snoc_ind (P := fun l => (isort lt l).Perm l) (List.Perm.refl _) (fun l v ih => by
    rw [isort_snoc]
    refine (ins_perm lt v _).trans ?_
    refine (ih.cons v).trans ?_
    exact (List.perm_append_comm (l₁ := [v]) (l₂ := l))) l
theorem orS_at (j : Jb) (l : List Int) {k t : Nat} (h : t < k) : (orS j l k).getD t [] = rwL j l (t : Nat) := by
  unfold orS; simp [List.getD, h]
theorem orS_ok {j : Jb} (h : OkJ j) (l : List Int) : OkO j (orS j l j.tm.length) :=
  { h with
    len := orS_len j l _
    row := fun t ht => by
      rw [orS_len] at ht
      rw [orS_at j l ht]
      exact isort_perm _ _ }
theorem row_chain {j : Jb} {o : List (List Int)} (h : OkO j o) {l : List Int} (hr : Rgt j.ts (lks j o) (gi l)) {t : Nat} (ht : t < o.length) : ∀ {p q : Nat}, p < q → q < (gr o t).length → gi l (gi (gr o t) p).toNat + (gt j.ts (gi (gr o t) p).toNat).mi + gi j.tm t ≤ gi l (gi (gr o t) q).toNat := by
  have htm : 0 ≤ gi j.tm t := (h.m _ (getD_mem' 0 j.tm t (by have := h.len; omega))).1
  have step : ∀ i, i + 1 < (gr o t).length → gi l (gi (gr o t) i).toNat + (gt j.ts (gi (gr o t) i).toNat).mi + gi j.tm t ≤ gi l (gi (gr o t) (i + 1)).toNat := fun i hi => by
    have hm : rowA j o t i ∈ lks j o := by
      refine List.mem_append_right _ (List.mem_flatMap.2 ⟨t, List.mem_range.2 ht, List.mem_map.2 ⟨i, List.mem_range.2 (by omega), rfl⟩⟩)
    have := hr.l _ hm
    have : gi l (gi (gr o t) i).toNat + ((gt j.ts (gi (gr o t) i).toNat).mi + gi j.tm t) ≤ gi l (gi (gr o t) (i + 1)).toNat := this
    omega
  intro p q hpq
  induction q with
  | zero => omega
  | succ q ih =>
    intro hq
    rcases Nat.lt_or_ge p q with z | z
    · have h1 := ih z (by omega)
      have h2 := step q hq
      have h3 := (h.t _ (row_at h ht (i := q) (by omega)).2.1).1.1
      omega
    · obtain rfl : p = q := by omega
      exact step p hq
theorem mem_at {l : List Int} {x : Int} (h : x ∈ l) : ∃ i, i < l.length ∧ gi l i = x := by
  obtain ⟨i, hi, he⟩ := List.getElem_of_mem h
  exact ⟨i, hi, by show l.getD i 0 = _; rw [List.getD_eq_getElem?_getD, List.getElem?_eq_getElem hi]; exact he⟩
theorem orS_right {j : Jb} {o : List (List Int)} (h : OkO j o) {l : List Int} (hr : Rgt j.ts (lks j o) (gi l)) : Rgt j.ts (lks j (orS j l j.tm.length)) (gi l) := by
  refine ⟨hr.f, fun e he => ?_⟩
  unfold lks lksK at he
  rcases List.mem_append.1 he with he | he
  · exact hr.l e (List.mem_append_left _ he)
  · obtain ⟨t, ht, he⟩ := List.mem_flatMap.1 he
    have ht := List.mem_range.1 ht
    obtain ⟨i, hi, rfl⟩ := List.mem_map.1 he
    have hi := List.mem_range.1 hi
    have hO := orS_ok h.toOkJ l
    rw [orS_len] at ht
    have hto : t < o.length := by rw [h.len]; exact ht
    have eg : gr (orS j l j.tm.length) t = isort (ltO j l) (memT j (t : Nat)) := orS_at j l ht
    have hne := row_ne hO (t := t) (i := i) (by rw [orS_len]; exact ht) (by omega)
    have hx := row_at hO (t := t) (i := i) (by rw [orS_len]; exact ht) (by omega)
    have hy := row_at hO (t := t) (i := i + 1) (by rw [orS_len]; exact ht) (by omega)
    have hs : ltO j l (gi (gr (orS j l j.tm.length) t) (i + 1)) (gi (gr (orS j l j.tm.length) t) i) = false := by
      rw [eg] at hi ⊢
      exact srt_get (srt_isort (ltO_sw j l) _) 0 (Nat.lt_succ_self i) (by omega)
    show gi l (gi (gr (orS j l j.tm.length) t) i).toNat + ((gt j.ts (gi (gr (orS j l j.tm.length) t) i).toNat).mi + gi j.tm t) ≤ gi l (gi (gr (orS j l j.tm.length) t) (i + 1)).toNat
    generalize gi (gr (orS j l j.tm.length) t) i = x at *
    generalize gi (gr (orS j l j.tm.length) t) (i + 1) = y at *
    have mx : x ∈ gr o t := (h.row t hto).mem_iff.2 (memT_iff.2 hx)
    have my : y ∈ gr o t := (h.row t hto).mem_iff.2 (memT_iff.2 hy)
    obtain ⟨p, hp, ep⟩ := mem_at mx
    obtain ⟨q, hq, eq⟩ := mem_at my
    have htm : 0 ≤ gi j.tm t := (h.m _ (getD_mem' 0 j.tm t ht)).1
    have hmy := (h.t _ hy.2.1).1.1
    have hmx := (h.t _ hx.2.1).1.1
    rcases Nat.lt_trichotomy p q with z | z | z
    · have := row_chain h hr hto z hq
      rw [ep, eq] at this
      omega
    · subst z
      exact absurd (ep.symm.trans eq) hne
    · have h1 := row_chain h hr hto z hp
      rw [ep, eq] at h1
      rw [ltO_no] at hs
      unfold k1O k2O at hs
      omega
theorem or_fin {j : Jb} {o : List (List Int)} {l : List Int} (ho : chkO j o = 0) (hc : cpE j o l = 0) (hm : mnP j j.tm.length ≤ 5040) :
    orE j l = 0 ∧ cpE j (orL j l) l = 0 ∧ btE j = 0 ∧ l.length = j.ts.length ∧ btN j ≤ enP j l := by
  obtain ⟨hO, hj⟩ := chkO_ok ho
  obtain ⟨hl, hr⟩ := (cpE_iff ho).1 hc
  have hs : stE j l = 0 := by
    unfold cpE at hc
    rw [if_pos ho] at hc
    by_cases q : stE j l = 0
    · exact q
    · rw [if_neg q] at hc; exact hc
  have he : orE j l = 0 := by unfold orE; rw [if_pos hj]; exact hs
  have hL : orL j l = orS j l j.tm.length := by unfold orL; rw [if_pos he]
  obtain ⟨b1, b2⟩ := bs_best hO.toOkJ hO hl hr
  refine ⟨he, ?_, ?_, hl, ?_⟩
  · rw [hL]
    exact (cpE_iff (chkO_of hj (orS_ok hO.toOkJ l))).2 ⟨hl, orS_right hO hr⟩
  · unfold btE; rw [if_pos hj, if_pos hm, if_pos b1]
  · unfold btN; rw [if_pos ⟨hj, hm, b1⟩]; exact b2
theorem bt_fin {j : Jb} (he : btE j = 0) : cpE j (btO j) (btL j) = 0 ∧ (btL j).length = j.ts.length ∧ btN j = enP j (btL j) := by
  have key : chkJ j = 0 ∧ mnP j j.tm.length ≤ 5040 ∧ 0 ≤ (bsJ j).e := by
    unfold btE at he
    by_cases h1 : chkJ j = 0
    · rw [if_pos h1] at he
      by_cases h2 : mnP j j.tm.length ≤ 5040
      · rw [if_pos h2] at he
        by_cases h3 : 0 ≤ (bsJ j).e
        · exact ⟨h1, h2, h3⟩
        · rw [if_neg h3] at he; omega
      · rw [if_neg h2] at he; omega
    · rw [if_neg h1] at he; exact absurd he h1
  have hok := chkJ_ok key.1
  obtain ⟨r1, r2, r3, r4⟩ := bs_right hok key.2.2
  unfold btO btL btN
  rw [if_pos key, if_pos key, if_pos key]
  exact ⟨(cpE_iff (chkO_of key.1 r1)).2 ⟨r2, r3⟩, r2, r4⟩
theorem bt_err {j : Jb} (h : chkJ j = 0) (hm : mnP j j.tm.length ≤ 5040) : btE j = 0 ∨ btE j = 15 := by
  unfold btE; rw [if_pos h, if_pos hm]
  split
  · exact .inl rfl
  · exact .inr rfl
theorem mn_le {j : Jb} (h : mnM j ≤ 130) : mnP j j.tm.length ≤ 5040 := by
  unfold mnM at h
  omega
end Go.Proofs.Ytoiohkjomcbadaa

namespace Go.Proofs.Ytoiohkjomcbadaa
open Go Sy
set_option maxRecDepth 100000
set_option maxHeartbeats 4000000
set_option linter.unusedVariables false
set_option linter.unusedSimpArgs false
theorem cp_st {j : Jb} {o : List (List Int)} {l : List Int} (h : cpE j o l = 0) : chkJ j = 0 ∧ l.length = j.ts.length ∧ (∀ i, i < l.length → 0 ≤ gi l i ∧ gi l i ≤ 1099511627776) := by
  unfold cpE at h
  by_cases q : chkO j o = 0
  · rw [if_pos q] at h
    by_cases z : stE j l = 0
    · obtain ⟨h1, h2⟩ := stE_ok z
      exact ⟨(chkO_ok q).2, h1, h2⟩
    · rw [if_neg z] at h; exact absurd h z
  · rw [if_neg q] at h; exact absurd h q
theorem fnEnd {j : Jb} {o : List (List Int)} {l : List Int} (h : cpE j o l = 0) : Sy.Fn Try.prog 48 [aJ j, aI l] (iv (enP j l)) := by
  obtain ⟨h1, h2, h3⟩ := cp_st h
  have hok := chkJ_ok h1
  have hn := hok.n
  exact fn48 j l (by omega) (by omega) h3 (fun k hk => by
    have := (hok.t k (by omega)).1
    exact ⟨this.1, this.2.1⟩)
theorem or_go {j : Jb} {l : List Int} (h : Gj j) : Go' (orL j l) := by
  have ht := h.t
  have hm := h.m
  unfold orL
  split
  · refine ⟨by rw [orS_len]; omega, fun i hi => ?_⟩
    rw [orS_len] at hi
    have := rwL_len j l (i : Nat)
    rw [orS_at j l hi]
    omega
  · exact ⟨by simp, fun i hi => absurd hi (by simp)⟩
theorem fn11 (j : Jb) (o : List (List Int)) (l : List Int) (h1 : j.ts.length ≤ 140737488355328) (h2 : o.length ≤ 140737488355328) (h3 : l.length ≤ 140737488355328) : Sy.Fn Try.prog 11 [aJ j, aO o, aI l] (bv true) := by
  refine Fn_of_W mixed Xt11 rfl ?_
  have c13 := fn13
  have c12 := fn12 j o h1 h2
  by_cases hv : valB j o = true
  rotate_left
  · have hv : valB j o = false := by rw [← Bool.not_eq_true]; exact hv
    rw [hv] at c12
    repeat' (first | refine w1g ?_ | refine w1l ?_ | refine w1q ?_ | refine w1b ?_ | refine w1p ?_ | ((first | refine w1r ?_ | refine w1k ?_ | refine w1e ?_ | refine CallC.now (c12) ?_); (refine sy1 ?_; try exact True.intro)) | refine an2 ?_ | (refine CallC.go (iv 0) (fun hpc => absurd hpc (by simp [pc])) rfl ?_; (refine sy1 ?_; try exact True.intro)) | fail)
    refine W_cond (by rfl) (fun _ => ?_) (fun h => by cases h)
    repeat' (first | refine w1g ?_ | refine w1l ?_ | refine w1q ?_ | refine w1b ?_ | refine w1p ?_ | ((first | refine w1r ?_ | refine w1k ?_ | refine w1e ?_ | refine CallC.now (c13) ?_); (refine sy1 ?_; try exact True.intro)) | refine an2 ?_ | fail)
    exact W_ret ⟨[_], ⟨rfl, rfl⟩, rfl⟩
  rw [hv] at c12
  obtain ⟨hG, hO, hc, hn8⟩ := val_ok hv
  have c18 := fn18 j hG.t (by have := hG.m; omega)
  by_cases hl : (60 : Int) < (l.length : Int)
  · have e1 : decide ((60 : Int) < (l.length : Int)) = true := decide_eq_true hl
    repeat' (first | refine w1g ?_ | refine w1l ?_ | refine w1q ?_ | refine w1b ?_ | refine w1p ?_ | ((first | refine w1r ?_ | refine w1k ?_ | refine w1e ?_ | refine CallC.now (c12) ?_); simp (maxSteps := 400000) (disch := omega) only [push_cast, ↓reduceIte, reduceCtorEq, Nat.reduceAdd, Nat.reduceSub, Nat.reduceEqDiff, Nat.reduceLeDiff, Nat.reduceLT, Nat.reduceBEq, Nat.reduceDiv, Nat.reduceMod, Nat.reducePow, Nat.reduceMul, Int.reduceToNat, Int.reduceLT, Int.reduceLE, e1]) | refine an2 ?_ | (refine CallC.go (iv 0) (fun hpc => absurd hpc (by simp [pc])) rfl ?_; simp (maxSteps := 400000) (disch := omega) only [push_cast, ↓reduceIte, reduceCtorEq, Nat.reduceAdd, Nat.reduceSub, Nat.reduceEqDiff, Nat.reduceLeDiff, Nat.reduceLT, Nat.reduceBEq, Nat.reduceDiv, Nat.reduceMod, Nat.reducePow, Nat.reduceMul, Int.reduceToNat, Int.reduceLT, Int.reduceLE, e1]) | fail)
    refine W_cond (by rfl) (fun _ => ?_) (fun h => by cases h)
    repeat' (first | refine w1g ?_ | refine w1l ?_ | refine w1q ?_ | refine w1b ?_ | refine w1p ?_ | ((first | refine w1r ?_ | refine w1k ?_ | refine w1e ?_ | refine CallC.now (c13) ?_); (refine sy1 ?_; try exact True.intro)) | refine an2 ?_ | fail)
    exact W_ret ⟨[_], ⟨rfl, rfl⟩, rfl⟩
  have e1 : decide ((60 : Int) < (l.length : Int)) = false := decide_eq_false hl
  by_cases hm : (130 : Int) < (mnM j : Int)
  · have e2 : decide ((130 : Int) < (mnM j : Int)) = true := decide_eq_true hm
    generalize mnM j = M at *
    repeat' (first | refine w1g ?_ | refine w1l ?_ | refine w1q ?_ | refine w1b ?_ | refine w1p ?_ | ((first | refine w1r ?_ | refine w1k ?_ | refine w1e ?_ | refine CallC.now (c12) ?_ | refine CallC.now (c18) ?_); simp (maxSteps := 400000) (disch := omega) only [push_cast, ↓reduceIte, reduceCtorEq, Nat.reduceAdd, Nat.reduceSub, Nat.reduceEqDiff, Nat.reduceLeDiff, Nat.reduceLT, Nat.reduceBEq, Nat.reduceDiv, Nat.reduceMod, Nat.reducePow, Nat.reduceMul, Int.reduceToNat, Int.reduceLT, Int.reduceLE, e1, e2]) | refine an2 ?_ | fail)
    refine W_cond (by rfl) (fun _ => ?_) (fun h => by cases h)
    repeat' (first | refine w1g ?_ | refine w1l ?_ | refine w1q ?_ | refine w1b ?_ | refine w1p ?_ | ((first | refine w1r ?_ | refine w1k ?_ | refine w1e ?_ | refine CallC.now (c13) ?_); (refine sy1 ?_; try exact True.intro)) | refine an2 ?_ | fail)
    exact W_ret ⟨[_], ⟨rfl, rfl⟩, rfl⟩
  have e2 : decide ((130 : Int) < (mnM j : Int)) = false := decide_eq_false hm
  have hmn : mnP j j.tm.length ≤ 5040 := mn_le (by omega)
  have hj := (chkO_ok hc).2
  have c19 := fn19 j hG
  have hbf := bt_fin (j := j)
  have hbe := bt_err hj hmn
  have hof := or_fin (o := o) (l := l) hc
  obtain ⟨s1, s2, s3⟩ := bt_small j
  have c15 := fn15 j o l hG hO (by omega)
  have c15b := fn15 j (btO j) (btL j) hG ⟨by omega, fun t ht => by have := s2 _ (getD_mem' [] (btO j) t ht); omega⟩ (by omega)
  have c45 := fn45 j l hG (by omega)
  have c15c := fn15 j (orL j l) l hG (or_go hG) (by omega)
  have c48b : btE j = 0 → Sy.Fn Try.prog 48 [aJ j, aI (btL j)] (iv (enP j (btL j))) := fun h => fnEnd (hbf h).1
  have c48 : cpE j o l = 0 → Sy.Fn Try.prog 48 [aJ j, aI l] (iv (enP j l)) := fnEnd
  have eln : ∀ {a b : Nat}, a = b → ((a : Int) != (b : Int)) = false := fun h => by rw [h, bne_self_eq_false]
  have eln2 : ∀ {a b : Nat}, a = b → ((a : Int) == (b : Int)) = true := fun h => by rw [h, beq_self_eq_true]
  clear s1 s2
  generalize mnM j = M at *
  generalize btO j = BO at *
  generalize btL j = BL at *
  generalize btN j = BN at *
  generalize btE j = BE at *
  generalize orL j l = OL at *
  generalize orE j l = OE at *
  generalize cpI j o l = I1 at *
  generalize cpE j o l = E1 at *
  generalize cpI j BO BL = I2 at *
  generalize cpE j BO BL = E2 at *
  generalize cpI j OL l = I3 at *
  generalize cpE j OL l = E3 at *
  generalize enP j BL = N2 at *
  generalize enP j l = N1 at *
  repeat' (first | refine w1g ?_ | refine w1l ?_ | refine w1q ?_ | refine w1b ?_ | refine w1p ?_ | ((first | refine w1r ?_ | refine w1k ?_ | refine w1e ?_ | refine CallC.now (c12) ?_ | refine CallC.now (c18) ?_); simp (maxSteps := 400000) (disch := omega) only [push_cast, ↓reduceIte, reduceCtorEq, Nat.reduceAdd, Nat.reduceSub, Nat.reduceEqDiff, Nat.reduceLeDiff, Nat.reduceLT, Nat.reduceBEq, Nat.reduceDiv, Nat.reduceMod, Nat.reducePow, Nat.reduceMul, Int.reduceToNat, Int.reduceLT, Int.reduceLE, e1, e2]) | refine an2 ?_ | fail)
  refine W_cond (by rfl) (fun h => by cases h) (fun _ => ?_)
  repeat' (first | refine w1g ?_ | refine w1l ?_ | refine w1q ?_ | refine w1b ?_ | refine w1p ?_ | ((first | refine w1r ?_ | refine w1k ?_ | refine w1e ?_ | refine CallC.now (c19) ?_); (refine sy1 ?_; try exact True.intro)) | refine an2 ?_ | fail)
  rcases hbe with rfl | rfl
  · obtain ⟨b1, b2, b3⟩ := hbf rfl
    have c48b := c48b rfl
    subst b1; subst b3
    have e3 := eln b2
    repeat' (first | refine w1g ?_ | refine w1l ?_ | refine w1q ?_ | refine w1b ?_ | refine w1p ?_ | ((first | refine w1r ?_ | refine w1k ?_ | refine w1e ?_); simp (maxSteps := 400000) (disch := omega) only [push_cast, ↓reduceIte, reduceCtorEq, Nat.reduceAdd, Nat.reduceSub, Nat.reduceEqDiff, Nat.reduceLeDiff, Nat.reduceLT, Nat.reduceBEq, Nat.reduceDiv, Nat.reduceMod, Nat.reducePow, Nat.reduceMul, Int.reduceToNat, Int.reduceLT, Int.reduceLE, bne_self_eq_false]) | refine an2 ?_ | fail)
    refine W_cond (by rfl) (fun h => by cases h) (fun _ => ?_)
    repeat' (first | refine w1g ?_ | refine w1l ?_ | refine w1q ?_ | refine w1b ?_ | refine w1p ?_ | ((first | refine w1r ?_ | refine w1k ?_ | refine w1e ?_); simp (maxSteps := 400000) (disch := omega) only [push_cast, ↓reduceIte, reduceCtorEq, Nat.reduceAdd, Nat.reduceSub, Nat.reduceEqDiff, Nat.reduceLeDiff, Nat.reduceLT, Nat.reduceBEq, Nat.reduceDiv, Nat.reduceMod, Nat.reducePow, Nat.reduceMul, Int.reduceToNat, Int.reduceLT, Int.reduceLE, beq_self_eq_true]) | refine an2 ?_ | fail)
    refine W_cond (by rfl) (fun _ => ?_) (fun h => by cases h)
    repeat' (first | refine w1g ?_ | refine w1l ?_ | refine w1q ?_ | refine w1b ?_ | refine w1p ?_ | ((first | refine w1r ?_ | refine w1k ?_ | refine w1e ?_ | refine CallC.now (c15b) ?_ | refine CallC.now (c48b) ?_); simp (maxSteps := 400000) (disch := omega) only [push_cast, ↓reduceIte, reduceCtorEq, Nat.reduceAdd, Nat.reduceSub, Nat.reduceEqDiff, Nat.reduceLeDiff, Nat.reduceLT, Nat.reduceBEq, Nat.reduceDiv, Nat.reduceMod, Nat.reducePow, Nat.reduceMul, Int.reduceToNat, Int.reduceLT, Int.reduceLE, e3, bne_self_eq_false]) | refine an2 ?_ | fail)
    refine W_cond (by rfl) (fun h => by cases h) (fun _ => ?_)
    by_cases h4 : E1 = 0
    · subst h4
      obtain ⟨f1, f2, f3, f4, f5⟩ := hof rfl hmn
      subst f1; subst f2
      have c48 := c48 rfl
      have e4 := eln2 f4
      have e5 := decide_eq_true f5
      repeat' (first | refine w1g ?_ | refine w1l ?_ | refine w1q ?_ | refine w1b ?_ | refine w1p ?_ | ((first | refine w1r ?_ | refine w1k ?_ | refine w1e ?_ | refine CallC.now (c15) ?_); simp (maxSteps := 400000) (disch := omega) only [push_cast, ↓reduceIte, reduceCtorEq, Nat.reduceAdd, Nat.reduceSub, Nat.reduceEqDiff, Nat.reduceLeDiff, Nat.reduceLT, Nat.reduceBEq, Nat.reduceDiv, Nat.reduceMod, Nat.reducePow, Nat.reduceMul, Int.reduceToNat, Int.reduceLT, Int.reduceLE, bne_self_eq_false]) | refine an2 ?_ | fail)
      refine W_cond (by rfl) (fun h => by cases h) (fun _ => ?_)
      repeat' (first | refine w1g ?_ | refine w1l ?_ | refine w1q ?_ | refine w1b ?_ | refine w1p ?_ | ((first | refine w1r ?_ | refine w1k ?_ | refine w1e ?_ | refine CallC.now (c45) ?_ | refine CallC.now (c15c) ?_ | refine CallC.now (c48) ?_ | refine CallC.now (c13) ?_); simp (maxSteps := 400000) (disch := omega) only [push_cast, ↓reduceIte, reduceCtorEq, Nat.reduceAdd, Nat.reduceSub, Nat.reduceEqDiff, Nat.reduceLeDiff, Nat.reduceLT, Nat.reduceBEq, Nat.reduceDiv, Nat.reduceMod, Nat.reducePow, Nat.reduceMul, Int.reduceToNat, Int.reduceLT, Int.reduceLE, e4, e5, beq_self_eq_true]) | refine an2 ?_ | fail)
      exact W_ret ⟨[_], ⟨rfl, rfl⟩, rfl⟩
    · have e4 : (E1 != 0) = true := bne_iff_ne.2 h4
      repeat' (first | refine w1g ?_ | refine w1l ?_ | refine w1q ?_ | refine w1b ?_ | refine w1p ?_ | ((first | refine w1r ?_ | refine w1k ?_ | refine w1e ?_ | refine CallC.now (c15) ?_); simp (maxSteps := 400000) (disch := omega) only [push_cast, ↓reduceIte, reduceCtorEq, Nat.reduceAdd, Nat.reduceSub, Nat.reduceEqDiff, Nat.reduceLeDiff, Nat.reduceLT, Nat.reduceBEq, Nat.reduceDiv, Nat.reduceMod, Nat.reducePow, Nat.reduceMul, Int.reduceToNat, Int.reduceLT, Int.reduceLE, e4]) | refine an2 ?_ | fail)
      refine W_cond (by rfl) (fun _ => ?_) (fun h => by cases h)
      repeat' (first | refine w1g ?_ | refine w1l ?_ | refine w1q ?_ | refine w1b ?_ | refine w1p ?_ | ((first | refine w1r ?_ | refine w1k ?_ | refine w1e ?_ | refine CallC.now (c13) ?_); (refine sy1 ?_; try exact True.intro)) | refine an2 ?_ | fail)
      exact W_ret ⟨[_], ⟨rfl, rfl⟩, rfl⟩
  · have h4 : E1 ≠ 0 := fun q => by
      have := (hof q hmn).2.2.1
      omega
    have e4 : (E1 != 0) = true := bne_iff_ne.2 h4
    repeat' (first | refine w1g ?_ | refine w1l ?_ | refine w1q ?_ | refine w1b ?_ | refine w1p ?_ | ((first | refine w1r ?_ | refine w1k ?_ | refine w1e ?_); simp (maxSteps := 400000) (disch := omega) only [push_cast, ↓reduceIte, reduceCtorEq, Nat.reduceAdd, Nat.reduceSub, Nat.reduceEqDiff, Nat.reduceLeDiff, Nat.reduceLT, Nat.reduceBEq, Nat.reduceDiv, Nat.reduceMod, Nat.reducePow, Nat.reduceMul, Int.reduceToNat, Int.reduceLT, Int.reduceLE, bne_self_eq_false]) | refine an2 ?_ | fail)
    refine W_cond (by rfl) (fun h => by cases h) (fun _ => ?_)
    repeat' (first | refine w1g ?_ | refine w1l ?_ | refine w1q ?_ | refine w1b ?_ | refine w1p ?_ | ((first | refine w1r ?_ | refine w1k ?_ | refine w1e ?_); (refine sy1 ?_; try exact True.intro)) | refine an2 ?_ | fail)
    refine W_cond (by rfl) (fun h => by cases h) (fun _ => ?_)
    repeat' (first | refine w1g ?_ | refine w1l ?_ | refine w1q ?_ | refine w1b ?_ | refine w1p ?_ | ((first | refine w1r ?_ | refine w1k ?_ | refine w1e ?_ | refine CallC.now (c15) ?_); simp (maxSteps := 400000) (disch := omega) only [push_cast, ↓reduceIte, reduceCtorEq, Nat.reduceAdd, Nat.reduceSub, Nat.reduceEqDiff, Nat.reduceLeDiff, Nat.reduceLT, Nat.reduceBEq, Nat.reduceDiv, Nat.reduceMod, Nat.reducePow, Nat.reduceMul, Int.reduceToNat, Int.reduceLT, Int.reduceLE, e4]) | refine an2 ?_ | fail)
    refine W_cond (by rfl) (fun _ => ?_) (fun h => by cases h)
    repeat' (first | refine w1g ?_ | refine w1l ?_ | refine w1q ?_ | refine w1b ?_ | refine w1p ?_ | ((first | refine w1r ?_ | refine w1k ?_ | refine w1e ?_ | refine CallC.now (c13) ?_); (refine sy1 ?_; try exact True.intro)) | refine an2 ?_ | fail)
    exact W_ret ⟨[_], ⟨rfl, rfl⟩, rfl⟩
end Go.Proofs.Ytoiohkjomcbadaa

namespace Go.Proofs.Ytoiohkjomcbadaa
open Go Sy Go.ChangeShapes Go.WideShapes Go.RowKit
set_option maxRecDepth 100000
set_option linter.unusedVariables false
theorem own : ownKnob Try.prog.godebug = none := by kernel_rfl
theorem laidOut : laidOutB Try.prog = true := by kernel_rfl
theorem walk11 (W : World) (v0 v1 v2 : Value) (j : Jb) (o : List (List Int)) (l : List Int) (h0 : fsat (inW W) W (aJ j) v0) (h1 : fsat (inW W) W (aO o) v1) (h2 : fsat (inW W) W (aI l) v2) (oj : OJ j) (oo : o.length * 24 ≤ 140737488351232 ∧ ∀ l ∈ o, l.length * 8 ≤ 140737488351232 ∧ ∀ x ∈ l, I64 x) (ol : l.length * 8 ≤ 140737488351232 ∧ ∀ x ∈ l, I64 x) :
    Calls Try.prog 11 #[v0, v1, v2] W fun e w' => e = .returned (.bool true) ∧ Below W.heap.size W w' := by
  have hf : Sy.Fn Try.prog 11 [aJ j, aO o, aI l] (bv true) := fn11 j o l (by have := oj.t; omega) (by have := oo.1; omega) (by have := ol.1; omega)
  refine (hf.2 (inW W) W [v0, v1, v2] (fun b hb => hb) ?_).mono ?_
  · simp only [fsatT]
    exact ⟨v0, _, rfl, h0, v1, _, rfl, h1, v2, _, rfl, h2, rfl⟩
  · rintro e w' ⟨v, rfl, hb, hv⟩
    simp only [fsat] at hv
    exact ⟨by rw [hv], hb⟩
theorem lifted11 (os : Os) (started : os.Started) (H : Type) (enc : TypeId × Value → H) :
    ReturnsInHanded {} Try.checked os 11 .any (Rows.scheduleOrdersSpec.pre6 enc Try.prog Try.f11 Rows.scheduleOrdersRow.domain false) (Rows.scheduleOrdersSpec.post enc Try.prog Try.f11 false true false false) := by
  refine returnsInHanded_of_change_sized (C := Try.checked) own started (by kernel_rfl) Try.func11
    (ChangeSpec.witness6 (enc := enc) (C := Try.checked) false ⟨#[], #[.agg #[.slice none 0 0, .slice none 0 0, .slice none 0 0], .slice none 0 0, .slice none 0 0], []⟩ 8 (by kernel_rfl) (by kernel_rfl) (by kernel_rfl) (by kernel_rfl)) ?_
  intro W base args ds gs before hval0 hW hcnd hsz _
  have hval : ∀ (j : Nat) t v, Try.f11.params[j]? = some t → args[j]? = some v → Value.okWide Try.prog W .any base t v := hval0
  have hW' := hW
  obtain ⟨p, q, hA0, hV, rfl, hfz, hnd⟩ := hW
  have hA : DataW.TrodAll enc Try.prog W 0 (fun _ => true) true Try.f11.params.toList args.toList ds p := hA0
  rw [Try.params11] at hA hval
  obtain ⟨v0, vs0, d0, ds0, p0, q0, hargs, rfl, rfl, h0, r0⟩ := trodAll_cons hA
  obtain ⟨v1, vs1, d1, ds1, p1, q1, rfl, rfl, rfl, h1, r1⟩ := trodAll_cons r0
  obtain ⟨v2, vs2, d2, ds2, p2, q2, rfl, rfl, rfl, h2, r2⟩ := trodAll_cons r1
  obtain ⟨rfl, rfl, rfl⟩ := trodAll_nil r2
  obtain rfl : args = #[v0, v1, v2] := by cases args; simp_all
  obtain ⟨rfl, rfl⟩ := trodVars_none hV
  have hs : ∀ (j : Nat) t (d : DataW H), [26, 27, 24][j]? = some t → [d0, d1, d2][j]? = some d → ∀ n ∈ d.weights Try.prog t, n ≤ reachBytes := fun j t d ht hd n hn => by
    have hall := List.all_eq_true.1 hsz n (DataW.weights_mem_each (j := j) (t := t) (d := d) (by rw [Try.params11]; simpa using (List.getElem?_append_left (l₂ := _) (by have := (List.getElem?_eq_some_iff.1 ht).1; simpa using this)).trans ht) (by simpa using (List.getElem?_append_left (l₂ := _) (by have := (List.getElem?_eq_some_iff.1 hd).1; simpa using this)).trans hd) n hn)
    simpa using hall
  have lt0 : ∀ x ∈ p0, x.block < W.heap.size := by obtain ⟨m, hm⟩ := h0; exact DataW.trod_lt m _ _ _ hm
  have lt1 : ∀ x ∈ p1, x.block < W.heap.size := by obtain ⟨m, hm⟩ := h1; exact DataW.trod_lt m _ _ _ hm
  have lt2 : ∀ x ∈ p2, x.block < W.heap.size := by obtain ⟨m, hm⟩ := h2; exact DataW.trod_lt m _ _ _ hm
  obtain ⟨j, oj, s0⟩ := k26.arg (by kernel_rfl) (hval 0 26 v0 rfl rfl) h0 (hs 0 26 d0 rfl rfl)
  obtain ⟨o, oo, s1⟩ := k27.arg1 (by kernel_rfl) (hval 1 27 v1 rfl rfl) h1 (hs 1 27 d1 rfl rfl)
  obtain ⟨l, ol, s2⟩ := k24.arg1 (by kernel_rfl) (hval 2 24 v2 rfl rfl) h2 (hs 2 24 d2 rfl rfl)
  clear hA0 hval0
  refine (walk11 W v0 v1 v2 j o l s0 s1 s2 oj oo ol).mono fun e W' ⟨he, bel⟩ => ?_
  subst he
  exact ⟨_, rfl, _, _, _, [], _, [], hW', trodAll_mk1 (shut_bool Try.underlying4 _), (trodAll_cons_mk (Below.trod laidOut (by kernel_rfl) (of_decide_eq_true (by kernel_rfl)) h0 bel lt0) (trodAll_cons_mk (Below.trod laidOut (by kernel_rfl) (of_decide_eq_true (by kernel_rfl)) h1 bel lt1) (trodAll_cons_mk (Below.trod laidOut (by kernel_rfl) (of_decide_eq_true (by kernel_rfl)) h2 bel lt2) trodAll_mk0))), rfl, bel.frame _, fun h => by cases h⟩
theorem over11 : Rows.scheduleOrdersRow.holds Try.pinned (OpenSpec.ofChange Rows.scheduleOrdersSpec) :=
  OpenClaim.holds_of_wide 11 Try.f11 rfl rfl rfl rfl rfl rfl rfl ⟨rfl, rfl, rfl, rfl, rfl⟩ rfl rfl rfl rfl rfl (by kernel_rfl) Try.func11 (by kernel_rfl)
    (of_decide_eq_true (by kernel_rfl)) (by unfold Func.isWrapper; first | (rw [if_pos (by decide +kernel)]; kernel_rfl) | (rw [if_neg (by decide +kernel)]; exact ⟨rfl, rfl⟩))
    (fun os started H enc _ => lifted11 os started H enc)
theorem schedule_orders_holds : Rows.ScheduleOrdersSaid := over11
end Go.Proofs.Ytoiohkjomcbadaa

