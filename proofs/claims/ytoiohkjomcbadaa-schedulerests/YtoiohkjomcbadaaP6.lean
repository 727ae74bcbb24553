/- For crews with at most seven legs and few times: times that are allowed are never ahead of the crew's best times, the best times are allowed, and with more time to drive, shorter rests and an earlier start they end no later: the law ScheduleRests holds. -/
import Derived.Test.YtoiohkjomcbadaaP5
import Derived.Test.YtoiohkjomcbadaaRows
import Derived.ShutString
namespace Go.Proofs.Ytoiohkjomcbadaa
open Go Sy
set_option maxRecDepth 100000
set_option maxHeartbeats 4000000
set_option linter.unusedVariables false
set_option linter.unusedSimpArgs false
theorem cr_none {ls : List Lg} {a b st : Int} (h : crF ls a b st ≠ 0) : crL ls a b st = [] := by
  by_cases h0 : crE ls a b st = 0
  · by_cases hn : 0 < ls.length
    · have := crF_iff h0 hn
      by_cases z : crL ls a b st = []
      · exact z
      · rw [if_neg z] at this; exact absurd this h
    · unfold crL
      rw [if_neg (fun q => q.2 (by omega))]
  · unfold crL
    rw [if_neg (fun q => h0 q.1)]
theorem cr_bad {ls : List Lg} {a b st : Int} {l : List Int} (h : crF ls a b st ≠ 0) : ckE ls a b st l ≠ 0 := by
  intro hk
  obtain ⟨h0, hl⟩ := ck_len hk
  by_cases hn : 0 < ls.length
  · have h1 := (ck_best hn hk).1
    exact h1 (cr_none h)
  · refine h ?_
    unfold crF
    rw [if_pos h0, if_pos (by omega)]
theorem cr_yes {ls : List Lg} {a b st : Int} (h : crF ls a b st = 0) : crE ls a b st = 0 ∧ (crL ls a b st).length = ls.length ∧ ckE ls a b st (crL ls a b st) = 0 := by
  have h0 : crE ls a b st = 0 := by
    by_cases q : crE ls a b st = 0
    · exact q
    · unfold crF at h
      rw [if_neg q] at h
      exact absurd h q
  by_cases hn : 0 < ls.length
  · have h1 := crF_iff h0 hn
    have h2 : crL ls a b st ≠ [] := fun z => by rw [if_pos z, h] at h1; cases h1
    exact ⟨h0, cr_len h2, cr_ok hn h0 h2⟩
  · have e : crL ls a b st = [] := by
      unfold crL
      rw [if_neg (fun q => q.2 (by omega))]
    rw [e]
    refine ⟨h0, by simp; omega, (ck_zero h0 (by simp; omega)).2 ⟨fun i hi => absurd hi (by omega), fun i hi => absurd hi (by omega)⟩⟩
theorem cr_more {ls : List Lg} {a b st a' b' st' : Int} (hn : 0 < ls.length) (h : crF ls a b st = 0) (ha : a ≤ a' ∧ a' ≤ 10080) (hb : 1 ≤ b' ∧ b' ≤ b) (hs : 0 ≤ st' ∧ st' ≤ st) : crF ls a' b' st' = 0 ∧ (crL ls a' b' st').length = ls.length ∧ gi (crL ls a' b' st') (ls.length - 1) ≤ gi (crL ls a b st) (ls.length - 1) := by
  obtain ⟨h0, hl, hk⟩ := cr_yes h
  have h1 := ck_mono hk ha hb hs
  obtain ⟨h2, h3, _⟩ := ck_best hn h1
  have h4 := cr_mono h0 ha hb hs
  refine ⟨?_, cr_len h2, h3⟩
  rw [crF_iff h4 hn, if_neg h2]
theorem fn9 (ls : List Lg) (a b st : Int) (l : List Int) (m : Int) (h1 : ls.length ≤ 140737488355328) (h2 : l.length ≤ 140737488355328) (hm : 0 ≤ m ∧ m ≤ 255) : Sy.Fn Try.prog 9 [aL ls, iv a, iv b, iv st, aI l, .v (.int .u8 m)] (bv true) := by
  refine Fn_of_W mixed Xt9 rfl ?_
  have c13 := fn13
  have c32 := fn32 ls h1
  by_cases hq : hvB ls = false ∧ ls.length ≤ 7 ∧ l.length ≤ 40
  rotate_left
  · have e : (hvB ls || decide ((7 : Int) < (ls.length : Int)) || decide ((40 : Int) < (l.length : Int))) = true := by
      cases hg : hvB ls
      · rw [Bool.false_or, Bool.or_eq_true, decide_eq_true_eq, decide_eq_true_eq]
        have : ¬ (ls.length ≤ 7 ∧ l.length ≤ 40) := fun z => hq ⟨hg, z⟩
        omega
      · rfl
    generalize hvB ls = b0 at *
    repeat' (first | refine w1g ?_ | refine w1l ?_ | refine w1q ?_ | refine w1b ?_ | refine w1p ?_ | ((first | refine w1r ?_ | refine w1k ?_ | refine w1e ?_ | refine CallC.now (c32) ?_); (refine sy1 ?_; try exact True.intro)) | refine an2 ?_ | fail)
    rw [e]
    refine W_cond (by rfl) (fun _ => ?_) (fun h => by cases h)
    repeat' (first | refine w1g ?_ | refine w1l ?_ | refine w1q ?_ | refine w1b ?_ | refine w1p ?_ | ((first | refine w1r ?_ | refine w1k ?_ | refine w1e ?_ | refine CallC.now (c13) ?_); (refine sy1 ?_; try exact True.intro)) | refine an2 ?_ | fail)
    exact W_ret ⟨[_], ⟨rfl, rfl⟩, rfl⟩
  obtain ⟨q1, q3, q2⟩ := hq
  obtain ⟨w1, w2⟩ := hv_ok q1
  have hw : ∀ x ∈ ls, x.ws.length ≤ 140737488355328 := fun x hx => by have := w2 x hx; omega
  have c33 := fn33 ls a b st l h1 hw h2
  have c35 := fn35 ls a b st h1 hw
  have c33C := fn33 ls a b st (crL ls a b st) h1 hw
  rw [q1] at c32
  have e1 : decide ((7 : Int) < (ls.length : Int)) = false := decide_eq_false (by omega)
  have e2 : decide ((40 : Int) < (l.length : Int)) = false := decide_eq_false (by omega)
  by_cases hF : crF ls a b st = 0
  rotate_left
  · have hb := cr_bad (l := l) hF
    have hn := cr_none hF
    rw [hn] at c35
    generalize crF ls a b st = CF at *
    generalize ckE ls a b st l = E1 at *
    generalize ckI ls a b st l = I1 at *
    have b1 : (E1 != 0) = true := bne_iff_ne.2 hb
    repeat' (first | refine w1g ?_ | refine w1l ?_ | refine w1q ?_ | refine w1b ?_ | refine w1p ?_ | ((first | refine w1r ?_ | refine w1k ?_ | refine w1e ?_ | refine CallC.now (c32) ?_); simp (maxSteps := 400000) (disch := omega) only [push_cast, ↓reduceIte, reduceCtorEq, Nat.reduceAdd, Nat.reduceSub, Nat.reduceEqDiff, Nat.reduceLeDiff, Nat.reduceLT, Nat.reduceBEq, Nat.reduceDiv, Nat.reduceMod, Nat.reducePow, Nat.reduceMul, Int.reduceToNat, Int.reduceLT, Int.reduceLE, e1, e2]) | refine an2 ?_ | fail)
    refine W_cond (by rfl) (fun h => by cases h) (fun _ => ?_)
    repeat' (first | refine w1g ?_ | refine w1l ?_ | refine w1q ?_ | refine w1b ?_ | refine w1p ?_ | ((first | refine w1r ?_ | refine w1k ?_ | refine w1e ?_ | refine CallC.now (c35) ?_ | refine CallC.now (c33) ?_); simp (maxSteps := 400000) (disch := omega) only [push_cast, ↓reduceIte, reduceCtorEq, Nat.reduceAdd, Nat.reduceSub, Nat.reduceEqDiff, Nat.reduceLeDiff, Nat.reduceLT, Nat.reduceBEq, Nat.reduceDiv, Nat.reduceMod, Nat.reducePow, Nat.reduceMul, Int.reduceToNat, Int.reduceLT, Int.reduceLE, b1]) | refine an2 ?_ | fail)
    refine W_cond (by rfl) (fun _ => ?_) (fun h => absurd (by simpa using h) hF)
    repeat' (first | refine w1g ?_ | refine w1l ?_ | refine w1q ?_ | refine w1b ?_ | refine w1p ?_ | ((first | refine w1r ?_ | refine w1k ?_ | refine w1e ?_ | refine CallC.now (c13) ?_); simp (maxSteps := 400000) (disch := omega) only [push_cast, ↓reduceIte, reduceCtorEq, Nat.reduceAdd, Nat.reduceSub, Nat.reduceEqDiff, Nat.reduceLeDiff, Nat.reduceLT, Nat.reduceBEq, Nat.reduceDiv, Nat.reduceMod, Nat.reducePow, Nat.reduceMul, Int.reduceToNat, Int.reduceLT, Int.reduceLE, b1, List.length_nil, Int.natCast_zero, beq_self_eq_true]) | refine an2 ?_ | fail)
    exact W_ret ⟨[_], ⟨rfl, rfl⟩, rfl⟩
  obtain ⟨h0, hCl, hCk⟩ := cr_yes hF
  have c33C := c33C (by omega)
  have hbest := fun hn (hk : ckE ls a b st l = 0) => (ck_best hn hk).2
  have hkl := fun (hk : ckE ls a b st l = 0) => (ck_len hk).2
  have hok := crE_ok h0
  have hra := hok.ra
  have hrb := hok.rb
  have hrs := hok.s
  have hmore := fun (hn : 0 < ls.length) => cr_more hn hF (a' := min 10080 (a + m)) (b' := max 1 (b - m)) (st' := max 0 (st - m)) ⟨by omega, by omega⟩ ⟨by omega, by omega⟩ ⟨by omega, by omega⟩
  have c35M := fn35 ls (min 10080 (a + m)) (max 1 (b - m)) (max 0 (st - m)) h1 hw
  rw [hF] at c35
  rw [hCk] at c33C
  generalize hCL : crL ls a b st = CL at *
  generalize ckE ls a b st l = E1 at *
  generalize ckI ls a b st l = I1 at *
  generalize ckI ls a b st CL = I2 at *
  have e3 : ((CL.length : Int) != (ls.length : Int)) = false := by rw [bne_eq_false_iff_eq]; omega
  repeat' (first | refine w1g ?_ | refine w1l ?_ | refine w1q ?_ | refine w1b ?_ | refine w1p ?_ | ((first | refine w1r ?_ | refine w1k ?_ | refine w1e ?_ | refine CallC.now (c32) ?_); simp (maxSteps := 400000) (disch := omega) only [push_cast, ↓reduceIte, reduceCtorEq, Nat.reduceAdd, Nat.reduceSub, Nat.reduceEqDiff, Nat.reduceLeDiff, Nat.reduceLT, Nat.reduceBEq, Nat.reduceDiv, Nat.reduceMod, Nat.reducePow, Nat.reduceMul, Int.reduceToNat, Int.reduceLT, Int.reduceLE, e1, e2]) | refine an2 ?_ | fail)
  refine W_cond (by rfl) (fun h => by cases h) (fun _ => ?_)
  repeat' (first | refine w1g ?_ | refine w1l ?_ | refine w1q ?_ | refine w1b ?_ | refine w1p ?_ | ((first | refine w1r ?_ | refine w1k ?_ | refine w1e ?_ | refine CallC.now (c35) ?_ | refine CallC.now (c33) ?_); (refine sy1 ?_; try exact True.intro)) | refine an2 ?_ | fail)
  refine W_cond (by rfl) (fun h => by cases h) (fun _ => ?_)
  repeat' (first | refine w1g ?_ | refine w1l ?_ | refine w1q ?_ | refine w1b ?_ | refine w1p ?_ | ((first | refine w1r ?_ | refine w1k ?_ | refine w1e ?_ | refine CallC.now (c33C) ?_); simp (maxSteps := 400000) (disch := omega) only [push_cast, ↓reduceIte, reduceCtorEq, Nat.reduceAdd, Nat.reduceSub, Nat.reduceEqDiff, Nat.reduceLeDiff, Nat.reduceLT, Nat.reduceBEq, Nat.reduceDiv, Nat.reduceMod, Nat.reducePow, Nat.reduceMul, Int.reduceToNat, Int.reduceLT, Int.reduceLE, e3]) | refine an2 ?_ | fail)
  refine W_cond (by rfl) (fun h => by cases h) (fun _ => ?_)
  repeat' (first | refine w1g ?_ | refine w1l ?_ | refine w1q ?_ | refine w1b ?_ | refine w1p ?_ | ((first | refine w1r ?_ | refine w1k ?_ | refine w1e ?_); (refine sy1 ?_; try exact True.intro)) | refine an2 ?_ | fail)
  by_cases hz : ls.length = 0
  · rw [show ((ls.length : Int) == 0) = true by rw [hz]; rfl]
    refine W_cond (by rfl) (fun _ => ?_) (fun h => by cases h)
    repeat' (first | refine w1g ?_ | refine w1l ?_ | refine w1q ?_ | refine w1b ?_ | refine w1p ?_ | ((first | refine w1r ?_ | refine w1k ?_ | refine w1e ?_ | refine CallC.now (c13) ?_); (refine sy1 ?_; try exact True.intro)) | refine an2 ?_ | fail)
    exact W_ret ⟨[_], ⟨rfl, rfl⟩, rfl⟩
  have hn0 : 0 < ls.length := by omega
  rw [show ((ls.length : Int) == 0) = false from beq_eq_false_iff_ne.2 (by omega)]
  refine W_cond (by rfl) (fun h => by cases h) (fun _ => ?_)
  repeat' (first | refine w1g ?_ | refine w1l ?_ | refine w1q ?_ | refine w1b ?_ | refine w1p ?_ | ((first | refine w1r ?_ | refine w1k ?_ | refine w1e ?_); (refine sy1 ?_; try exact True.intro)) | refine an2 ?_ | fail)
  have hmore := hmore hn0
  have hbest := hbest hn0
  obtain ⟨m1, m2, m3⟩ := hmore
  rw [m1] at c35M
  generalize hA : min 10080 (a + m) = a2 at *
  generalize hB : max 1 (b - m) = b2 at *
  generalize hS : max 0 (st - m) = s2 at *
  generalize crL ls a2 b2 s2 = CM at *
  have hli : ((ls.length : Int) - 1).toNat = ls.length - 1 := by omega
  have g1 : l.getD (ls.length - 1) 0 = gi l (ls.length - 1) := rfl
  have g2 : CL.getD (ls.length - 1) 0 = gi CL (ls.length - 1) := rfl
  have g3 : CM.getD (ls.length - 1) 0 = gi CM (ls.length - 1) := rfl
  have hcv : IntKind.i64.wrap m = m := wrap64 ⟨by omega, by omega⟩
  have e5 : ((CM.length : Int) == (ls.length : Int)) = true := by rw [beq_iff_eq]; omega
  have e6 : decide (gi CM (ls.length - 1) ≤ gi CL (ls.length - 1)) = true := decide_eq_true m3
  by_cases hE : E1 = 0
  rotate_left
  · rw [show (E1 == 0) = false from beq_eq_false_iff_ne.2 hE]
    refine W_cond (by rfl) (fun h => by cases h) (fun _ => ?_)
    repeat' (first | refine w1g ?_ | refine w1l ?_ | refine w1q ?_ | refine w1b ?_ | refine w1p ?_ | ((first | refine w1r ?_ | refine w1k ?_ | refine w1e ?_ | refine CallC.now (c35M) ?_); simp (maxSteps := 400000) (disch := omega) only [push_cast, ↓reduceIte, reduceCtorEq, Nat.reduceAdd, Nat.reduceSub, Nat.reduceEqDiff, Nat.reduceLeDiff, Nat.reduceLT, Nat.reduceBEq, Nat.reduceDiv, Nat.reduceMod, Nat.reducePow, Nat.reduceMul, Int.reduceToNat, Int.reduceLT, Int.reduceLE, hcv, hA, hB, hS]) | refine an2 ?_ | fail)
    repeat' (first | refine w1g ?_ | refine w1l ?_ | refine w1q ?_ | refine w1b ?_ | refine w1p ?_ | ((first | refine w1r ?_ | refine w1k ?_ | refine w1e ?_ | refine CallC.now (c13) ?_); simp (maxSteps := 400000) (disch := omega) only [push_cast, ↓reduceIte, reduceCtorEq, Nat.reduceAdd, Nat.reduceSub, Nat.reduceEqDiff, Nat.reduceLeDiff, Nat.reduceLT, Nat.reduceBEq, Nat.reduceDiv, Nat.reduceMod, Nat.reducePow, Nat.reduceMul, Int.reduceToNat, Int.reduceLT, Int.reduceLE, hli, g2, g3, e5, e6]) | refine an2 ?_ | fail)
    exact W_ret ⟨[_], ⟨rfl, rfl⟩, rfl⟩
  · rw [show (E1 == 0) = true from beq_iff_eq.2 hE]
    have hlen := hkl hE
    obtain ⟨b1, b2'⟩ := hbest hE
    have e7 : ((l.length : Int) != (ls.length : Int)) = false := by rw [bne_eq_false_iff_eq]; omega
    have e8 : decide (gi l (ls.length - 1) < gi CL (ls.length - 1)) = false := decide_eq_false (by omega)
    refine W_cond (by rfl) (fun _ => ?_) (fun h => by cases h)
    repeat' (first | refine w1g ?_ | refine w1l ?_ | refine w1q ?_ | refine w1b ?_ | refine w1p ?_ | ((first | refine w1r ?_ | refine w1k ?_ | refine w1e ?_); simp (maxSteps := 400000) (disch := omega) only [push_cast, ↓reduceIte, reduceCtorEq, Nat.reduceAdd, Nat.reduceSub, Nat.reduceEqDiff, Nat.reduceLeDiff, Nat.reduceLT, Nat.reduceBEq, Nat.reduceDiv, Nat.reduceMod, Nat.reducePow, Nat.reduceMul, Int.reduceToNat, Int.reduceLT, Int.reduceLE, hli, g1, g2, e7, e8]) | refine an2 ?_ | fail)
    refine W_cond (by rfl) (fun h => by cases h) (fun _ => ?_)
    repeat' (first | refine w1g ?_ | refine w1l ?_ | refine w1q ?_ | refine w1b ?_ | refine w1p ?_ | ((first | refine w1r ?_ | refine w1k ?_ | refine w1e ?_); (refine sy1 ?_; try exact True.intro)) | refine an2 ?_ | fail)
    refine W_loopU (fun i : Nat => [(20, iv i)]) (fun i => []) (fun i => i ≤ ls.length ∧ ∀ k, k < i → gi CL k = gi l k) (fun i => ls.length - i) 0 ⟨by omega, fun k hk => absurd hk (Nat.not_lt_zero k)⟩ (by rfl) (by rfl) (fun i hi => ?_)
    obtain ⟨hi, hp⟩ := hi
    (refine sy1 ?_; try exact True.intro)
    repeat' (first | refine w1g ?_ | refine w1l ?_ | refine w1q ?_ | refine w1b ?_ | refine w1p ?_ | ((first | refine w1r ?_ | refine w1k ?_ | refine w1e ?_); simp (maxSteps := 400000) (disch := omega) only [push_cast, ↓reduceIte, reduceCtorEq, Nat.reduceAdd, Nat.reduceSub, Nat.reduceEqDiff, Nat.reduceLeDiff, Nat.reduceLT, Nat.reduceBEq, Nat.reduceDiv, Nat.reduceMod, Nat.reducePow, Nat.reduceMul, Int.reduceToNat, Int.reduceLT, Int.reduceLE, hli, g1, g2]) | refine an2 ?_ | fail)
    refine W_cond (by rfl) (fun h5 => ?_) (fun h5 => ?_)
    · rw [Bool.and_eq_true, decide_eq_true_eq, beq_iff_eq] at h5
      obtain ⟨h5, h6⟩ := h5
      have hil : i < ls.length := by omega
      have hle := b2' h6.symm i hil hp
      have hup := @up_all _ i hp
      have g4 : l.getD i 0 = gi l i := rfl
      have g5 : CL.getD i 0 = gi CL i := rfl
      have e9 : decide (gi l i < gi CL i) = false := decide_eq_false (by omega)
      repeat' (first | refine w1g ?_ | refine w1l ?_ | refine w1q ?_ | refine w1b ?_ | refine w1p ?_ | ((first | refine w1r ?_ | refine w1k ?_ | refine w1e ?_); simp (maxSteps := 400000) (disch := omega) only [push_cast, ↓reduceIte, reduceCtorEq, Nat.reduceAdd, Nat.reduceSub, Nat.reduceEqDiff, Nat.reduceLeDiff, Nat.reduceLT, Nat.reduceBEq, Nat.reduceDiv, Nat.reduceMod, Nat.reducePow, Nat.reduceMul, Int.reduceToNat, Int.reduceLT, Int.reduceLE, g4, g5, e9]) | refine an2 ?_ | fail)
      refine W_cond (by rfl) (fun h => by cases h) (fun _ => ?_)
      repeat' (first | refine w1g ?_ | refine w1l ?_ | refine w1q ?_ | refine w1b ?_ | refine w1p ?_ | ((first | refine w1r ?_ | refine w1k ?_ | refine w1e ?_); simp (maxSteps := 400000) (disch := omega) only [push_cast, ↓reduceIte, reduceCtorEq, Nat.reduceAdd, Nat.reduceSub, Nat.reduceEqDiff, Nat.reduceLeDiff, Nat.reduceLT, Nat.reduceBEq, Nat.reduceDiv, Nat.reduceMod, Nat.reducePow, Nat.reduceMul, Int.reduceToNat, Int.reduceLT, Int.reduceLE, g4, g5]) | refine an2 ?_ | fail)
      by_cases hgt : gi CL i < gi l i
      · rw [decide_eq_true hgt]
        refine W_cond (by rfl) (fun _ => ?_) (fun h => by cases h)
        repeat' (first | refine w1g ?_ | refine w1l ?_ | refine w1q ?_ | refine w1b ?_ | refine w1p ?_ | ((first | refine w1r ?_ | refine w1k ?_ | refine w1e ?_ | refine CallC.now (c35M) ?_); simp (maxSteps := 400000) (disch := omega) only [push_cast, ↓reduceIte, reduceCtorEq, Nat.reduceAdd, Nat.reduceSub, Nat.reduceEqDiff, Nat.reduceLeDiff, Nat.reduceLT, Nat.reduceBEq, Nat.reduceDiv, Nat.reduceMod, Nat.reducePow, Nat.reduceMul, Int.reduceToNat, Int.reduceLT, Int.reduceLE, hcv, hA, hB, hS]) | refine an2 ?_ | fail)
        repeat' (first | refine w1g ?_ | refine w1l ?_ | refine w1q ?_ | refine w1b ?_ | refine w1p ?_ | ((first | refine w1r ?_ | refine w1k ?_ | refine w1e ?_ | refine CallC.now (c13) ?_); simp (maxSteps := 400000) (disch := omega) only [push_cast, ↓reduceIte, reduceCtorEq, Nat.reduceAdd, Nat.reduceSub, Nat.reduceEqDiff, Nat.reduceLeDiff, Nat.reduceLT, Nat.reduceBEq, Nat.reduceDiv, Nat.reduceMod, Nat.reducePow, Nat.reduceMul, Int.reduceToNat, Int.reduceLT, Int.reduceLE, hli, g2, g3, e5, e6]) | refine an2 ?_ | fail)
        exact W_ret ⟨[_], ⟨rfl, rfl⟩, rfl⟩
      · rw [decide_eq_false hgt]
        refine W_cond (by rfl) (fun h => by cases h) (fun _ => ?_)
        repeat' (first | refine w1g ?_ | refine w1l ?_ | refine w1q ?_ | refine w1b ?_ | refine w1p ?_ | ((first | refine w1r ?_ | refine w1k ?_ | refine w1e ?_); (refine sy1 ?_; try exact True.intro)) | refine an2 ?_ | fail)
        refine ⟨i + 1, ⟨by omega, hup (by omega)⟩, by omega, by rfl, ?_⟩
        (refine syE ?_; try exact True.intro)
    · clear h5
      repeat' (first | refine w1g ?_ | refine w1l ?_ | refine w1q ?_ | refine w1b ?_ | refine w1p ?_ | ((first | refine w1r ?_ | refine w1k ?_ | refine w1e ?_ | refine CallC.now (c35M) ?_); simp (maxSteps := 400000) (disch := omega) only [push_cast, ↓reduceIte, reduceCtorEq, Nat.reduceAdd, Nat.reduceSub, Nat.reduceEqDiff, Nat.reduceLeDiff, Nat.reduceLT, Nat.reduceBEq, Nat.reduceDiv, Nat.reduceMod, Nat.reducePow, Nat.reduceMul, Int.reduceToNat, Int.reduceLT, Int.reduceLE, hcv, hA, hB, hS]) | refine an2 ?_ | fail)
      repeat' (first | refine w1g ?_ | refine w1l ?_ | refine w1q ?_ | refine w1b ?_ | refine w1p ?_ | ((first | refine w1r ?_ | refine w1k ?_ | refine w1e ?_ | refine CallC.now (c13) ?_); simp (maxSteps := 400000) (disch := omega) only [push_cast, ↓reduceIte, reduceCtorEq, Nat.reduceAdd, Nat.reduceSub, Nat.reduceEqDiff, Nat.reduceLeDiff, Nat.reduceLT, Nat.reduceBEq, Nat.reduceDiv, Nat.reduceMod, Nat.reducePow, Nat.reduceMul, Int.reduceToNat, Int.reduceLT, Int.reduceLE, hli, g2, g3, e5, e6]) | refine an2 ?_ | fail)
      exact W_ret ⟨[_], ⟨rfl, rfl⟩, rfl⟩
end Go.Proofs.Ytoiohkjomcbadaa

namespace Go.Proofs.Ytoiohkjomcbadaa
open Go Sy Go.ChangeShapes Go.WideShapes Go.RowKit
set_option maxRecDepth 100000
set_option linter.unusedVariables false
theorem own : ownKnob Try.prog.godebug = none := by kernel_rfl
theorem laidOut : laidOutB Try.prog = true := by kernel_rfl
theorem walk9 (W : World) (v0 v1 v2 v3 v4 v5 : Value) (ls : List Lg) (a : Int) (b : Int) (st : Int) (l : List Int) (m : Int) (h0 : fsat (inW W) W (aL ls) v0) (h1 : fsat (inW W) W (iv a) v1) (h2 : fsat (inW W) W (iv b) v2) (h3 : fsat (inW W) W (iv st) v3) (h4 : fsat (inW W) W (aI l) v4) (h5 : fsat (inW W) W (.v (.int .u8 m)) v5) (ols : ls.length * 32 ≤ 140737488351232 ∧ ∀ t ∈ ls, OL t) (oa : I64 a) (ob : I64 b) (ost : I64 st) (ol : l.length * 8 ≤ 140737488351232 ∧ ∀ x ∈ l, I64 x) (om : 0 ≤ m ∧ m ≤ 255) :
    Calls Try.prog 9 #[v0, v1, v2, v3, v4, v5] W fun e w' => e = .returned (.bool true) ∧ Below W.heap.size W w' := by
  have hf : Sy.Fn Try.prog 9 [aL ls, iv a, iv b, iv st, aI l, .v (.int .u8 m)] (bv true) := fn9 ls a b st l m (by have := ols.1; omega) (by have := ol.1; omega) (by have := om; omega)
  refine (hf.2 (inW W) W [v0, v1, v2, v3, v4, v5] (fun b hb => hb) ?_).mono ?_
  · simp only [fsatT]
    exact ⟨v0, _, rfl, h0, v1, _, rfl, h1, v2, _, rfl, h2, v3, _, rfl, h3, v4, _, rfl, h4, v5, _, rfl, h5, rfl⟩
  · rintro e w' ⟨v, rfl, hb, hv⟩
    simp only [fsat] at hv
    exact ⟨by rw [hv], hb⟩
theorem lifted9 (os : Os) (started : os.Started) (H : Type) (enc : TypeId × Value → H) :
    ReturnsInHanded {} Try.checked os 9 .any (Rows.scheduleRestsSpec.pre6 enc Try.prog Try.f9 Rows.scheduleRestsRow.domain false) (Rows.scheduleRestsSpec.post enc Try.prog Try.f9 false true false false) := by
  refine returnsInHanded_of_change_sized (C := Try.checked) own started (by kernel_rfl) Try.func9
    (ChangeSpec.witness6 (enc := enc) (C := Try.checked) false ⟨#[], #[.slice none 0 0, .int .i64 0, .int .i64 0, .int .i64 0, .slice none 0 0, .int .u8 0], []⟩ 8 (by kernel_rfl) (by kernel_rfl) (by kernel_rfl) (by kernel_rfl)) ?_
  intro W base args ds gs before hval0 hW hcnd hsz _
  have hval : ∀ (j : Nat) t v, Try.f9.params[j]? = some t → args[j]? = some v → Value.okWide Try.prog W .any base t v := hval0
  have hW' := hW
  obtain ⟨p, q, hA0, hV, rfl, hfz, hnd⟩ := hW
  have hA : DataW.TrodAll enc Try.prog W 0 (fun _ => true) true Try.f9.params.toList args.toList ds p := hA0
  rw [Try.params9] at hA hval
  obtain ⟨v0, vs0, d0, ds0, p0, q0, hargs, rfl, rfl, h0, r0⟩ := trodAll_cons hA
  obtain ⟨v1, vs1, d1, ds1, p1, q1, rfl, rfl, rfl, h1, r1⟩ := trodAll_cons r0
  obtain ⟨v2, vs2, d2, ds2, p2, q2, rfl, rfl, rfl, h2, r2⟩ := trodAll_cons r1
  obtain ⟨v3, vs3, d3, ds3, p3, q3, rfl, rfl, rfl, h3, r3⟩ := trodAll_cons r2
  obtain ⟨v4, vs4, d4, ds4, p4, q4, rfl, rfl, rfl, h4, r4⟩ := trodAll_cons r3
  obtain ⟨v5, vs5, d5, ds5, p5, q5, rfl, rfl, rfl, h5, r5⟩ := trodAll_cons r4
  obtain ⟨rfl, rfl, rfl⟩ := trodAll_nil r5
  obtain rfl : args = #[v0, v1, v2, v3, v4, v5] := by cases args; simp_all
  obtain ⟨rfl, rfl⟩ := trodVars_none hV
  have hs : ∀ (j : Nat) t (d : DataW H), [66, 2, 2, 2, 24, 5][j]? = some t → [d0, d1, d2, d3, d4, d5][j]? = some d → ∀ n ∈ d.weights Try.prog t, n ≤ reachBytes := fun j t d ht hd n hn => by
    have hall := List.all_eq_true.1 hsz n (DataW.weights_mem_each (j := j) (t := t) (d := d) (by rw [Try.params9]; simpa using (List.getElem?_append_left (l₂ := _) (by have := (List.getElem?_eq_some_iff.1 ht).1; simpa using this)).trans ht) (by simpa using (List.getElem?_append_left (l₂ := _) (by have := (List.getElem?_eq_some_iff.1 hd).1; simpa using this)).trans hd) n hn)
    simpa using hall
  have lt0 : ∀ x ∈ p0, x.block < W.heap.size := by obtain ⟨m, hm⟩ := h0; exact DataW.trod_lt m _ _ _ hm
  have lt1 : ∀ x ∈ p1, x.block < W.heap.size := by obtain ⟨m, hm⟩ := h1; exact DataW.trod_lt m _ _ _ hm
  have lt2 : ∀ x ∈ p2, x.block < W.heap.size := by obtain ⟨m, hm⟩ := h2; exact DataW.trod_lt m _ _ _ hm
  have lt3 : ∀ x ∈ p3, x.block < W.heap.size := by obtain ⟨m, hm⟩ := h3; exact DataW.trod_lt m _ _ _ hm
  have lt4 : ∀ x ∈ p4, x.block < W.heap.size := by obtain ⟨m, hm⟩ := h4; exact DataW.trod_lt m _ _ _ hm
  have lt5 : ∀ x ∈ p5, x.block < W.heap.size := by obtain ⟨m, hm⟩ := h5; exact DataW.trod_lt m _ _ _ hm
  obtain ⟨ls, ols, s0⟩ := k66.arg1 (by kernel_rfl) (hval 0 66 v0 rfl rfl) h0 (hs 0 66 d0 rfl rfl)
  obtain ⟨a, oa, s1⟩ := k2.arg1 (by kernel_rfl) (hval 1 2 v1 rfl rfl) h1 (hs 1 2 d1 rfl rfl)
  obtain ⟨b, ob, s2⟩ := k2.arg1 (by kernel_rfl) (hval 2 2 v2 rfl rfl) h2 (hs 2 2 d2 rfl rfl)
  obtain ⟨st, ost, s3⟩ := k2.arg1 (by kernel_rfl) (hval 3 2 v3 rfl rfl) h3 (hs 3 2 d3 rfl rfl)
  obtain ⟨l, ol, s4⟩ := k24.arg1 (by kernel_rfl) (hval 4 24 v4 rfl rfl) h4 (hs 4 24 d4 rfl rfl)
  obtain ⟨m, om, s5⟩ := k5.arg1 (by kernel_rfl) (hval 5 5 v5 rfl rfl) h5 (hs 5 5 d5 rfl rfl)
  clear hA0 hval0
  refine (walk9 W v0 v1 v2 v3 v4 v5 ls a b st l m s0 s1 s2 s3 s4 s5 ols oa ob ost ol om).mono fun e W' ⟨he, bel⟩ => ?_
  subst he
  exact ⟨_, rfl, _, _, _, [], _, [], hW', trodAll_mk1 (shut_bool Try.underlying4 _), (trodAll_cons_mk (Below.trod laidOut (by kernel_rfl) (of_decide_eq_true (by kernel_rfl)) h0 bel lt0) (trodAll_cons_mk (Below.trod laidOut (by kernel_rfl) (of_decide_eq_true (by kernel_rfl)) h1 bel lt1) (trodAll_cons_mk (Below.trod laidOut (by kernel_rfl) (of_decide_eq_true (by kernel_rfl)) h2 bel lt2) (trodAll_cons_mk (Below.trod laidOut (by kernel_rfl) (of_decide_eq_true (by kernel_rfl)) h3 bel lt3) (trodAll_cons_mk (Below.trod laidOut (by kernel_rfl) (of_decide_eq_true (by kernel_rfl)) h4 bel lt4) (trodAll_cons_mk (Below.trod laidOut (by kernel_rfl) (of_decide_eq_true (by kernel_rfl)) h5 bel lt5) trodAll_mk0)))))), rfl, bel.frame _, fun h => by cases h⟩
theorem over9 : Rows.scheduleRestsRow.holds Try.pinned (OpenSpec.ofChange Rows.scheduleRestsSpec) :=
  OpenClaim.holds_of_wide 9 Try.f9 rfl rfl rfl rfl rfl rfl rfl ⟨rfl, rfl, rfl, rfl, rfl⟩ rfl rfl rfl rfl rfl (by kernel_rfl) Try.func9 (by kernel_rfl)
    (of_decide_eq_true (by kernel_rfl)) (by unfold Func.isWrapper; first | (rw [if_pos (by decide +kernel)]; kernel_rfl) | (rw [if_neg (by decide +kernel)]; exact ⟨rfl, rfl⟩))
    (fun os started H enc _ => lifted9 os started H enc)
theorem schedule_rests_holds : Rows.ScheduleRestsSaid := over9
end Go.Proofs.Ytoiohkjomcbadaa

