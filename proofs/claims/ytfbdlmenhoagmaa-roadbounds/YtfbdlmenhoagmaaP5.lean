/- Part 5 of the proof of: RoadBounds: for every input the law returns true. -/
import Derived.Test.YtfbdlmenhoagmaaP4
namespace Go.Proofs.Ytfbdlmenhoagmaa
open Go Sy
set_option maxRecDepth 100000
set_option maxHeartbeats 4000000
set_option linter.unusedVariables false
set_option linter.unusedSimpArgs false
theorem setW_msk {m : Mp} {l : List Int} (h : Srt m.ws.length 0 l) : SetW m l (msk l) := ⟨msk_bits fun x hx => (h.mem x hx).1, h⟩
theorem fn117 (l : List Int) (n : Nat) (hn : n ≤ 10) (hs : Srt n 0 l) : Sy.Fn Try.prog 117 [.v (.slice none 0 0), .clo 118 [] [.fp [uv (msk l)] 0]] (aI l) := by
  refine Fn_of_W mixed Xt117 rfl ?_
  obtain ⟨s, hsm⟩ : ∃ s, s = msk l := ⟨_, rfl⟩
  have hb : BitsOf s l := by rw [hsm]; exact msk_bits fun x hx => (hs.mem x hx).1
  have hs1 : s < 1024 := by rw [hsm]; exact msk_lt hs (by omega)
  rw [← hsm]
  repeat' (first | refine WK_go ?_ | refine W_seqL ?_ | refine W_seq ?_ | refine W_block ?_ | refine W_scp ?_ | ((first | refine W_regL ?_ | refine W_skip ?_ | refine W_exit ?_); simp (maxSteps := 400000) (disch := omega) only [push_cast, ↓reduceIte, reduceCtorEq, Nat.reduceAdd, Nat.reduceSub, Nat.reduceEqDiff, Nat.reduceLeDiff, Nat.reduceLT, Nat.reduceBEq, Nat.reduceDiv, Nat.reduceMod, Nat.reducePow, Nat.reduceMul, Int.reduceToNat, Int.reduceLT, Int.reduceLE]) | refine And.intro (by omega) ?_ | refine And.intro (by intro hq; (try simp only [Bool.and_eq_true, Bool.or_eq_true, Bool.and_eq_false_iff, Bool.or_eq_false_iff, decide_eq_true_eq, decide_eq_false_iff_not, Bool.not_eq_true', Bool.not_eq_false', beq_iff_eq, beq_eq_false_iff_ne, ne_eq] at hq); omega) ?_ | fail)
  refine W_rfn (.inl rfl) (fun lp R hR => Inl_of_W mixed Xt118 rfl (fun vs => ?_))
  simp (maxSteps := 400000) (disch := omega) only [push_cast, ↓reduceIte, reduceCtorEq, Nat.reduceAdd, Nat.reduceSub, Nat.reduceEqDiff, Nat.reduceLeDiff, Nat.reduceLT, Nat.reduceBEq, Nat.reduceDiv, Nat.reduceMod, Nat.reducePow, Nat.reduceMul, Int.reduceToNat, Int.reduceLT, Int.reduceLE]
  repeat' (first | refine WK_go ?_ | refine W_seqL ?_ | refine W_seq ?_ | refine W_block ?_ | refine W_scp ?_ | ((first | refine W_regL ?_ | refine W_skip ?_ | refine W_exit ?_); simp (maxSteps := 400000) (disch := omega) only [push_cast, ↓reduceIte, reduceCtorEq, Nat.reduceAdd, Nat.reduceSub, Nat.reduceEqDiff, Nat.reduceLeDiff, Nat.reduceLT, Nat.reduceBEq, Nat.reduceDiv, Nat.reduceMod, Nat.reducePow, Nat.reduceMul, Int.reduceToNat, Int.reduceLT, Int.reduceLE]) | refine And.intro (by omega) ?_ | refine And.intro (by intro hq; (try simp only [Bool.and_eq_true, Bool.or_eq_true, Bool.and_eq_false_iff, Bool.or_eq_false_iff, decide_eq_true_eq, decide_eq_false_iff_not, Bool.not_eq_true', Bool.not_eq_false', beq_iff_eq, beq_eq_false_iff_ne, ne_eq] at hq); omega) ?_ | fail)
  refine W_le (le_adoptC 0 0 3 1 (0 : Int) cI (by omega) _ rfl rfl (by simp)) ?_
  simp (maxSteps := 400000) (disch := omega) only [push_cast, ↓reduceIte, reduceCtorEq, Nat.reduceAdd, Nat.reduceSub, Nat.reduceEqDiff, Nat.reduceLeDiff, Nat.reduceLT, Nat.reduceBEq, Nat.reduceDiv, Nat.reduceMod, Nat.reducePow, Nat.reduceMul, Int.reduceToNat, Int.reduceLT, Int.reduceLE]
  refine W_loopU (fun i : Nat => [(3, iv i)]) (fun i => [(0, .cells [.row 6 (pre l i).length]), (6, .row (pre l i).length 3 1 0 cI (pre l i))]) (fun i => i ≤ 10) (fun i => 11 - i) 0 (by omega) (by rfl) (by rw [pre_zero hs]; rfl) (fun i hi => ?_)
  obtain ⟨q, hq⟩ : ∃ q, q = s / 2 ^ i := ⟨_, rfl⟩
  have e1 := shrS s (i := i) (by omega)
  have e2 := andS (s / 2 ^ i) (div_lt64 hs1 i)
  rw [bits_shr hb i] at e2
  rw [← hq] at e1 e2
  have e4 := pre_succ (i := i) hs
  have hlen : (pre l i).length ≤ 10 := by
    have h1 := hs.len (by omega)
    have h2 := List.length_filter_le (fun x => decide (x < (i : Int))) l
    unfold pre
    omega
  simp (maxSteps := 400000) (disch := omega) only [push_cast, ↓reduceIte, reduceCtorEq, Nat.reduceAdd, Nat.reduceSub, Nat.reduceEqDiff, Nat.reduceLeDiff, Nat.reduceLT, Nat.reduceBEq, Nat.reduceDiv, Nat.reduceMod, Nat.reducePow, Nat.reduceMul, Int.reduceToNat, Int.reduceLT, Int.reduceLE]
  repeat' (first | refine WK_go ?_ | refine W_seqL ?_ | refine W_seq ?_ | refine W_block ?_ | refine W_scp ?_ | ((first | refine W_regL ?_ | refine W_skip ?_ | refine W_exit ?_); simp (maxSteps := 400000) (disch := omega) only [push_cast, ↓reduceIte, reduceCtorEq, Nat.reduceAdd, Nat.reduceSub, Nat.reduceEqDiff, Nat.reduceLeDiff, Nat.reduceLT, Nat.reduceBEq, Nat.reduceDiv, Nat.reduceMod, Nat.reducePow, Nat.reduceMul, Int.reduceToNat, Int.reduceLT, Int.reduceLE, e1]) | refine And.intro (by omega) ?_ | refine And.intro (by intro hq; (try simp only [Bool.and_eq_true, Bool.or_eq_true, Bool.and_eq_false_iff, Bool.or_eq_false_iff, decide_eq_true_eq, decide_eq_false_iff_not, Bool.not_eq_true', Bool.not_eq_false', beq_iff_eq, beq_eq_false_iff_ne, ne_eq] at hq); omega) ?_ | fail)
  refine W_cond (by rfl) (fun hb2 => ?_) (fun hb2 => ?_)
  · have hi10 : i < 10 := bits_more hb (by rw [← hq]; intro z; rw [z] at hb2; simp at hb2) (fun x hx => by have := (hs.mem x hx).2; omega)
    by_cases hm : (i : Int) ∈ l
    · rw [if_pos hm] at e2 e4
      have e2 : bits .and .u64 (q : Int) 1 = 1 := e2
      repeat' (first | refine WK_go ?_ | refine W_seqL ?_ | refine W_seq ?_ | refine W_block ?_ | refine W_scp ?_ | ((first | refine W_regL ?_ | refine W_skip ?_ | refine W_exit ?_); simp (maxSteps := 400000) (disch := omega) only [push_cast, ↓reduceIte, reduceCtorEq, Nat.reduceAdd, Nat.reduceSub, Nat.reduceEqDiff, Nat.reduceLeDiff, Nat.reduceLT, Nat.reduceBEq, Nat.reduceDiv, Nat.reduceMod, Nat.reducePow, Nat.reduceMul, Int.reduceToNat, Int.reduceLT, Int.reduceLE, e1, e2]) | refine And.intro (by omega) ?_ | refine And.intro (by intro hq; (try simp only [Bool.and_eq_true, Bool.or_eq_true, Bool.and_eq_false_iff, Bool.or_eq_false_iff, decide_eq_true_eq, decide_eq_false_iff_not, Bool.not_eq_true', Bool.not_eq_false', beq_iff_eq, beq_eq_false_iff_ne, ne_eq] at hq); omega) ?_ | fail)
      refine StopC.yld (fun hpc => ⟨trivial, Yl_of_W (k := 3) mixed hR rfl rfl rfl (fun vs2 => ?_)⟩) (fun hpc => absurd (by simp [pc]) hpc)
      simp (maxSteps := 400000) (disch := omega) only [push_cast, ↓reduceIte, reduceCtorEq, Nat.reduceAdd, Nat.reduceSub, Nat.reduceEqDiff, Nat.reduceLeDiff, Nat.reduceLT, Nat.reduceBEq, Nat.reduceDiv, Nat.reduceMod, Nat.reducePow, Nat.reduceMul, Int.reduceToNat, Int.reduceLT, Int.reduceLE]
      repeat' (first | refine WK_go ?_ | refine W_seqL ?_ | refine W_seq ?_ | refine W_block ?_ | refine W_scp ?_ | ((first | refine W_regL ?_ | refine W_skip ?_ | refine W_exit ?_); simp (maxSteps := 400000) (disch := omega) only [push_cast, ↓reduceIte, reduceCtorEq, Nat.reduceAdd, Nat.reduceSub, Nat.reduceEqDiff, Nat.reduceLeDiff, Nat.reduceLT, Nat.reduceBEq, Nat.reduceDiv, Nat.reduceMod, Nat.reducePow, Nat.reduceMul, Int.reduceToNat, Int.reduceLT, Int.reduceLE]) | refine And.intro (by omega) ?_ | refine And.intro (by intro hq; (try simp only [Bool.and_eq_true, Bool.or_eq_true, Bool.and_eq_false_iff, Bool.or_eq_false_iff, decide_eq_true_eq, decide_eq_false_iff_not, Bool.not_eq_true', Bool.not_eq_false', beq_iff_eq, beq_eq_false_iff_ne, ne_eq] at hq); omega) ?_ | fail)
      refine ⟨_, rfl, ?_⟩
      simp (maxSteps := 400000) (disch := omega) only [push_cast, ↓reduceIte, reduceCtorEq, Nat.reduceAdd, Nat.reduceSub, Nat.reduceEqDiff, Nat.reduceLeDiff, Nat.reduceLT, Nat.reduceBEq, Nat.reduceDiv, Nat.reduceMod, Nat.reducePow, Nat.reduceMul, Int.reduceToNat, Int.reduceLT, Int.reduceLE]
      repeat' (first | refine WK_go ?_ | refine W_seqL ?_ | refine W_seq ?_ | refine W_block ?_ | refine W_scp ?_ | ((first | refine W_regL ?_ | refine W_skip ?_ | refine W_exit ?_); simp (maxSteps := 400000) (disch := omega) only [push_cast, ↓reduceIte, reduceCtorEq, Nat.reduceAdd, Nat.reduceSub, Nat.reduceEqDiff, Nat.reduceLeDiff, Nat.reduceLT, Nat.reduceBEq, Nat.reduceDiv, Nat.reduceMod, Nat.reducePow, Nat.reduceMul, Int.reduceToNat, Int.reduceLT, Int.reduceLE]) | refine And.intro (by omega) ?_ | refine And.intro (by intro hq; (try simp only [Bool.and_eq_true, Bool.or_eq_true, Bool.and_eq_false_iff, Bool.or_eq_false_iff, decide_eq_true_eq, decide_eq_false_iff_not, Bool.not_eq_true', Bool.not_eq_false', beq_iff_eq, beq_eq_false_iff_ne, ne_eq] at hq); omega) ?_ | fail)
      refine ⟨rfl, trivial, Int, 0, cI, [(i : Int)], rfl, by omega, fun x _ => ⟨rfl, rfl⟩, rfl, ?_⟩
      simp (maxSteps := 400000) (disch := omega) only [push_cast, ↓reduceIte, reduceCtorEq, Nat.reduceAdd, Nat.reduceSub, Nat.reduceEqDiff, Nat.reduceLeDiff, Nat.reduceLT, Nat.reduceBEq, Nat.reduceDiv, Nat.reduceMod, Nat.reducePow, Nat.reduceMul, Int.reduceToNat, Int.reduceLT, Int.reduceLE]
      refine ⟨rfl, ⟨Nat.le_of_ble_eq_true rfl, rfl⟩, trivial, [(i : Int)], rfl, by first | omega | (simp; omega), by first | omega | (simp; omega), ?_⟩
      simp (maxSteps := 400000) (disch := omega) only [push_cast, ↓reduceIte, reduceCtorEq, Nat.reduceAdd, Nat.reduceSub, Nat.reduceEqDiff, Nat.reduceLeDiff, Nat.reduceLT, Nat.reduceBEq, Nat.reduceDiv, Nat.reduceMod, Nat.reducePow, Nat.reduceMul, Int.reduceToNat, Int.reduceLT, Int.reduceLE]
      refine ⟨_, _, rfl, rfl, ?_⟩
      simp (maxSteps := 400000) (disch := omega) only [push_cast, ↓reduceIte, reduceCtorEq, Nat.reduceAdd, Nat.reduceSub, Nat.reduceEqDiff, Nat.reduceLeDiff, Nat.reduceLT, Nat.reduceBEq, Nat.reduceDiv, Nat.reduceMod, Nat.reducePow, Nat.reduceMul, Int.reduceToNat, Int.reduceLT, Int.reduceLE]
      refine W_cond (by rfl) (fun h => by cases h) (fun _ => ?_)
      repeat' (first | refine WK_go ?_ | refine W_seqL ?_ | refine W_seq ?_ | refine W_block ?_ | refine W_scp ?_ | ((first | refine W_regL ?_ | refine W_skip ?_ | refine W_exit ?_); simp (maxSteps := 400000) (disch := omega) only [push_cast, ↓reduceIte, reduceCtorEq, Nat.reduceAdd, Nat.reduceSub, Nat.reduceEqDiff, Nat.reduceLeDiff, Nat.reduceLT, Nat.reduceBEq, Nat.reduceDiv, Nat.reduceMod, Nat.reducePow, Nat.reduceMul, Int.reduceToNat, Int.reduceLT, Int.reduceLE]) | refine And.intro (by omega) ?_ | refine And.intro (by intro hq; (try simp only [Bool.and_eq_true, Bool.or_eq_true, Bool.and_eq_false_iff, Bool.or_eq_false_iff, decide_eq_true_eq, decide_eq_false_iff_not, Bool.not_eq_true', Bool.not_eq_false', beq_iff_eq, beq_eq_false_iff_ne, ne_eq] at hq); omega) ?_ | fail)
      refine ⟨i + 1, by omega, by omega, by rfl, ?_⟩
      rw [e4, List.length_append]
      simp (maxSteps := 400000) (disch := omega) only [push_cast, ↓reduceIte, reduceCtorEq, Nat.reduceAdd, Nat.reduceSub, Nat.reduceEqDiff, Nat.reduceLeDiff, Nat.reduceLT, Nat.reduceBEq, Nat.reduceDiv, Nat.reduceMod, Nat.reducePow, Nat.reduceMul, Int.reduceToNat, Int.reduceLT, Int.reduceLE, S.mk.injEq, List.cons.injEq, Prod.mk.injEq, AV.v.injEq, Value.int.injEq, Value.bool.injEq, Blk.cells.injEq]
    · rw [if_neg hm] at e2 e4
      have e2 : bits .and .u64 (q : Int) 1 = 0 := e2
      have z01 : ((0 : Int) == 1) = false := rfl
      repeat' (first | refine WK_go ?_ | refine W_seqL ?_ | refine W_seq ?_ | refine W_block ?_ | refine W_scp ?_ | ((first | refine W_regL ?_ | refine W_skip ?_ | refine W_exit ?_); simp (maxSteps := 400000) (disch := omega) only [push_cast, ↓reduceIte, reduceCtorEq, Nat.reduceAdd, Nat.reduceSub, Nat.reduceEqDiff, Nat.reduceLeDiff, Nat.reduceLT, Nat.reduceBEq, Nat.reduceDiv, Nat.reduceMod, Nat.reducePow, Nat.reduceMul, Int.reduceToNat, Int.reduceLT, Int.reduceLE, e1, e2, z01]) | refine And.intro (by omega) ?_ | refine And.intro (by intro hq; (try simp only [Bool.and_eq_true, Bool.or_eq_true, Bool.and_eq_false_iff, Bool.or_eq_false_iff, decide_eq_true_eq, decide_eq_false_iff_not, Bool.not_eq_true', Bool.not_eq_false', beq_iff_eq, beq_eq_false_iff_ne, ne_eq] at hq); omega) ?_ | fail)
      refine StopC.yld (fun hpc => absurd hpc (by simp [pc])) (fun hpc => ?_)
      simp (maxSteps := 400000) (disch := omega) only [push_cast, ↓reduceIte, reduceCtorEq, Nat.reduceAdd, Nat.reduceSub, Nat.reduceEqDiff, Nat.reduceLeDiff, Nat.reduceLT, Nat.reduceBEq, Nat.reduceDiv, Nat.reduceMod, Nat.reducePow, Nat.reduceMul, Int.reduceToNat, Int.reduceLT, Int.reduceLE]
      repeat' (first | refine WK_go ?_ | refine W_seqL ?_ | refine W_seq ?_ | refine W_block ?_ | refine W_scp ?_ | ((first | refine W_regL ?_ | refine W_skip ?_ | refine W_exit ?_); simp (maxSteps := 400000) (disch := omega) only [push_cast, ↓reduceIte, reduceCtorEq, Nat.reduceAdd, Nat.reduceSub, Nat.reduceEqDiff, Nat.reduceLeDiff, Nat.reduceLT, Nat.reduceBEq, Nat.reduceDiv, Nat.reduceMod, Nat.reducePow, Nat.reduceMul, Int.reduceToNat, Int.reduceLT, Int.reduceLE]) | refine And.intro (by omega) ?_ | refine And.intro (by intro hq; (try simp only [Bool.and_eq_true, Bool.or_eq_true, Bool.and_eq_false_iff, Bool.or_eq_false_iff, decide_eq_true_eq, decide_eq_false_iff_not, Bool.not_eq_true', Bool.not_eq_false', beq_iff_eq, beq_eq_false_iff_ne, ne_eq] at hq); omega) ?_ | fail)
      refine W_cond (by rfl) (fun h => by cases h) (fun _ => ?_)
      repeat' (first | refine WK_go ?_ | refine W_seqL ?_ | refine W_seq ?_ | refine W_block ?_ | refine W_scp ?_ | ((first | refine W_regL ?_ | refine W_skip ?_ | refine W_exit ?_); simp (maxSteps := 400000) (disch := omega) only [push_cast, ↓reduceIte, reduceCtorEq, Nat.reduceAdd, Nat.reduceSub, Nat.reduceEqDiff, Nat.reduceLeDiff, Nat.reduceLT, Nat.reduceBEq, Nat.reduceDiv, Nat.reduceMod, Nat.reducePow, Nat.reduceMul, Int.reduceToNat, Int.reduceLT, Int.reduceLE]) | refine And.intro (by omega) ?_ | refine And.intro (by intro hq; (try simp only [Bool.and_eq_true, Bool.or_eq_true, Bool.and_eq_false_iff, Bool.or_eq_false_iff, decide_eq_true_eq, decide_eq_false_iff_not, Bool.not_eq_true', Bool.not_eq_false', beq_iff_eq, beq_eq_false_iff_ne, ne_eq] at hq); omega) ?_ | fail)
      refine ⟨i + 1, by omega, by omega, by rfl, ?_⟩
      rw [e4, List.append_nil]
      simp (maxSteps := 400000) (disch := omega) only [push_cast, ↓reduceIte, reduceCtorEq, Nat.reduceAdd, Nat.reduceSub, Nat.reduceEqDiff, Nat.reduceLeDiff, Nat.reduceLT, Nat.reduceBEq, Nat.reduceDiv, Nat.reduceMod, Nat.reducePow, Nat.reduceMul, Int.reduceToNat, Int.reduceLT, Int.reduceLE, S.mk.injEq, List.cons.injEq, Prod.mk.injEq, AV.v.injEq, Value.int.injEq, Value.bool.injEq, Blk.cells.injEq]
  · have hq0 : s / 2 ^ i = 0 := by
      rw [← hq]
      have := bne_eq_false_iff_eq.1 hb2
      omega
    have hall := pre_all (bits_end hb (fun x hx => (hs.mem x hx).1) hq0)
    rw [hall]
    repeat' (first | refine WK_go ?_ | refine W_seqL ?_ | refine W_seq ?_ | refine W_block ?_ | refine W_scp ?_ | ((first | refine W_regL ?_ | refine W_skip ?_ | refine W_exit ?_); simp (maxSteps := 400000) (disch := omega) only [push_cast, ↓reduceIte, reduceCtorEq, Nat.reduceAdd, Nat.reduceSub, Nat.reduceEqDiff, Nat.reduceLeDiff, Nat.reduceLT, Nat.reduceBEq, Nat.reduceDiv, Nat.reduceMod, Nat.reducePow, Nat.reduceMul, Int.reduceToNat, Int.reduceLT, Int.reduceLE]) | refine And.intro (by omega) ?_ | refine And.intro (by intro hq; (try simp only [Bool.and_eq_true, Bool.or_eq_true, Bool.and_eq_false_iff, Bool.or_eq_false_iff, decide_eq_true_eq, decide_eq_false_iff_not, Bool.not_eq_true', Bool.not_eq_false', beq_iff_eq, beq_eq_false_iff_ne, ne_eq] at hq); omega) ?_ | fail)
    refine ⟨_, _, rfl, rfl, ⟨_, _, rfl, by rw [hR.st]; simp, ?_⟩⟩
    rw [hR.pe]
    simp (maxSteps := 400000) (disch := omega) only [push_cast, ↓reduceIte, reduceCtorEq, Nat.reduceAdd, Nat.reduceSub, Nat.reduceEqDiff, Nat.reduceLeDiff, Nat.reduceLT, Nat.reduceBEq, Nat.reduceDiv, Nat.reduceMod, Nat.reducePow, Nat.reduceMul, Int.reduceToNat, Int.reduceLT, Int.reduceLE, EndP]
    repeat' (first | refine WK_go ?_ | refine W_seqL ?_ | refine W_seq ?_ | refine W_block ?_ | refine W_scp ?_ | ((first | refine W_regL ?_ | refine W_skip ?_ | refine W_exit ?_); simp (maxSteps := 400000) (disch := omega) only [push_cast, ↓reduceIte, reduceCtorEq, Nat.reduceAdd, Nat.reduceSub, Nat.reduceEqDiff, Nat.reduceLeDiff, Nat.reduceLT, Nat.reduceBEq, Nat.reduceDiv, Nat.reduceMod, Nat.reducePow, Nat.reduceMul, Int.reduceToNat, Int.reduceLT, Int.reduceLE]) | refine And.intro (by omega) ?_ | refine And.intro (by intro hq; (try simp only [Bool.and_eq_true, Bool.or_eq_true, Bool.and_eq_false_iff, Bool.or_eq_false_iff, decide_eq_true_eq, decide_eq_false_iff_not, Bool.not_eq_true', Bool.not_eq_false', beq_iff_eq, beq_eq_false_iff_ne, ne_eq] at hq); omega) ?_ | fail)
    refine W_ret ⟨[_], ⟨rfl, rfl⟩, ?_⟩
    simp (maxSteps := 400000) (disch := omega) only [push_cast, ↓reduceIte, reduceCtorEq, Nat.reduceAdd, Nat.reduceSub, Nat.reduceEqDiff, Nat.reduceLeDiff, Nat.reduceLT, Nat.reduceBEq, Nat.reduceDiv, Nat.reduceMod, Nat.reducePow, Nat.reduceMul, Int.reduceToNat, Int.reduceLT, Int.reduceLE, pack]
theorem fn60 (l : List Int) (n : Nat) (hn : n ≤ 10) (hs : Srt n 0 l) : Sy.Fn Try.prog 60 [.clo 118 [] [.fp [uv (msk l)] 0]] (aI l) := by
  refine Fn_of_W mixed Xt60 rfl ?_
  repeat' (first | refine WK_go ?_ | refine W_seqL ?_ | refine W_seq ?_ | refine W_block ?_ | refine W_scp ?_ | ((first | refine W_regL ?_ | refine W_skip ?_ | refine W_exit ?_ | refine CallC.now (fn117 l n hn hs) ?_); simp (maxSteps := 400000) (disch := omega) only [push_cast, ↓reduceIte, reduceCtorEq, Nat.reduceAdd, Nat.reduceSub, Nat.reduceEqDiff, Nat.reduceLeDiff, Nat.reduceLT, Nat.reduceBEq, Nat.reduceDiv, Nat.reduceMod, Nat.reducePow, Nat.reduceMul, Int.reduceToNat, Int.reduceLT, Int.reduceLE]) | refine And.intro (by omega) ?_ | refine And.intro (by intro hq; (try simp only [Bool.and_eq_true, Bool.or_eq_true, Bool.and_eq_false_iff, Bool.or_eq_false_iff, decide_eq_true_eq, decide_eq_false_iff_not, Bool.not_eq_true', Bool.not_eq_false', beq_iff_eq, beq_eq_false_iff_ne, ne_eq] at hq); omega) ?_ | fail)
  exact W_ret ⟨[_], ⟨rfl, rfl⟩, rfl⟩
def cU (m : Mp) (f : Nat → Int) (s : List Int) (i : Nat) : Int := (edB m (usB m f s) i).c
theorem cU_rng {m : Mp} (h : OkM m) (f : Nat → Int) (s : List Int) {i : Nat} (hi : i < m.rs.length) : (0 ≤ cU m f s i → 1 ≤ cU m f s i) ∧ -1 ≤ cU m f s i ∧ cU m f s i ≤ 1073741824 := by
  have hr := (roadB_ok (h.r i hi)).c
  unfold cU edB
  dsimp only
  split <;> omega
def dL (m : Mp) (f : Nat → Int) (s : List Int) (to : Int) : List Int := dstC m true (cU m f s) to
theorem dL_fn (m : Mp) (f : Nat → Int) (s : List Int) (to : Int) (bk : Bool) (h : OkM m) (hs : Srt m.ws.length 0 s) (ht : 0 ≤ to ∧ to < m.n) : Sy.Fn Try.prog 57 [aAt m f, iv to, bv bk, .clo 116 [] [.fp (cAt m f) 0, .fp [uv (msk s)] 0]] (aI (dstC m bk (cU m f s) to)) :=
  fn57 m f to bk 116 [] _ (cU m f s) h ht (fun i hi => (cU_rng h f s hi).1) (fun i hi => by have := (cU_rng h f s hi).2; omega) (fun i hi => fn116 m f s (msk s) i h (setW_msk hs) hi)
theorem dL_dst {m : Mp} (h : OkM m) (f : Nat → Int) (s : List Int) (bk : Bool) {to : Int} (ht : 0 ≤ to ∧ to < m.n) : Dst (edgC m bk (cU m f s)) to.toNat m.n.toNat (dstC m bk (cU m f s) to) ∧ Fix (edgC m bk (cU m f s)) (dstC m bk (cU m f s) to) := by
  obtain ⟨k1, k2⟩ := edgC_ok h bk (c := cU m f s) (fun i hi => (cU_rng h f s hi).1)
  exact ⟨dst_dst k1 (by omega), dst_fix k1 k2 (by omega)⟩
theorem dL_rng {m : Mp} (h : OkM m) (f : Nat → Int) (s : List Int) (bk : Bool) {to : Int} (ht : 0 ≤ to ∧ to < m.n) {y : Nat} (hy : y < m.n.toNat) : 0 ≤ gi (dstC m bk (cU m f s) to) y ∧ gi (dstC m bk (cU m f s) to) y ≤ 1125899906842624 := (dL_dst h f s bk ht).1.le hy
theorem dL_len {m : Mp} (h : OkM m) (f : Nat → Int) (s : List Int) (bk : Bool) {to : Int} (ht : 0 ≤ to ∧ to < m.n) : (dstC m bk (cU m f s) to).length = m.n.toNat := (dL_dst h f s bk ht).1.len
def cfS (m : Mp) (f : Nat → Int) (fr to : Int) (s : List Int) : Int := gi (dL m f s to) fr.toNat + costL m s
def okS (m : Mp) (f : Nat → Int) (fr to : Int) (s : List Int) : Bool := decide (gi (dL m f s to) fr.toNat < 1125899906842624)
theorem costL_set {m : Mp} (h : OkM m) {s : List Int} (hs : Srt m.ws.length 0 s) : 0 ≤ costL m s ∧ costL m s ≤ 10737418240 := by
  have h1 := costL_rng h (l := s) (fun x hx => hs.mem x hx)
  have h2 := hs.len (by omega)
  have := h.nw
  have h3 : (s.length : Int) * 1073741824 ≤ 10 * 1073741824 := by omega
  omega
theorem fn56 (m : Mp) (f : Nat → Int) (fr to : Int) (s : List Int) (h : OkM m) (hs : Srt m.ws.length 0 s) (ht : 0 ≤ to ∧ to < m.n) (hf : 0 ≤ fr ∧ fr < m.n) : Sy.Fn Try.prog 56 [uv (msk s), .fp (cAt m f) 0, .fp [iv to] 0, .fp [iv fr] 0] (.tup [iv (cfS m f fr to s), bv (okS m f fr to s)]) := by
  refine Fn_of_W mixed Xt56 rfl ?_
  have c57 := dL_fn m f s to true h hs ht
  have c59 := fn59 m f s (msk s) h (setW_msk hs)
  have hr := dL_rng h f s true ht (y := fr.toNat) (by omega)
  have hl := dL_len h f s true ht
  have hc := costL_set h hs
  unfold cfS okS
  have e : dL m f s to = dstC m true (cU m f s) to := rfl
  rw [e]
  generalize dstC m true (cU m f s) to = D at *
  have gI : ∀ (l : List Int) i, l.getD i 0 = gi l i := fun _ _ => rfl
  repeat' (first | refine WK_go ?_ | refine W_seqL ?_ | refine W_seq ?_ | refine W_block ?_ | refine W_scp ?_ | ((first | refine W_regL ?_ | refine W_skip ?_ | refine W_exit ?_ | refine CallC.now (fn58 m f (msk s)) ?_ | refine CallC.now (c57) ?_ | refine CallC.now (c59) ?_); simp (maxSteps := 400000) (disch := omega) only [push_cast, ↓reduceIte, reduceCtorEq, Nat.reduceAdd, Nat.reduceSub, Nat.reduceEqDiff, Nat.reduceLeDiff, Nat.reduceLT, Nat.reduceBEq, Nat.reduceDiv, Nat.reduceMod, Nat.reducePow, Nat.reduceMul, Int.reduceToNat, Int.reduceLT, Int.reduceLE, gI]) | refine And.intro (by omega) ?_ | refine And.intro (by intro hq; (try simp only [Bool.and_eq_true, Bool.or_eq_true, Bool.and_eq_false_iff, Bool.or_eq_false_iff, decide_eq_true_eq, decide_eq_false_iff_not, Bool.not_eq_true', Bool.not_eq_false', beq_iff_eq, beq_eq_false_iff_ne, ne_eq] at hq); omega) ?_ | fail)
  exact W_ret ⟨[_, _], ⟨rfl, rfl, rfl⟩, rfl⟩
end Go.Proofs.Ytfbdlmenhoagmaa

namespace Go.Proofs.Ytfbdlmenhoagmaa
open Go Sy
set_option linter.unusedVariables false
def fstN (p : Nat → Bool) : Nat → Nat → Nat
  | 0, i => i
  | k + 1, i => if p i = true then i else fstN p k (i + 1)
theorem fst_eq {p : Nat → Bool} : ∀ (k i j : Nat), i ≤ j → j < i + k → p j = true → (∀ x, i ≤ x → x < j → p x = false) → fstN p k i = j
  | 0, i, j, h1, h2, _, _ => by omega
  | k + 1, i, j, h1, h2, h3, h4 => by
    simp only [fstN]
    by_cases q : p i = true
    · rw [if_pos q]
      apply Classical.byContradiction
      intro z
      rw [h4 i (Nat.le_refl _) (by omega)] at q
      cases q
    · rw [if_neg q]
      have : i ≠ j := fun e => q (e ▸ h3)
      exact fst_eq k (i + 1) j (by omega) (by omega) h3 (fun x hx hy => h4 x (by omega) hy)
theorem fst_ex {p : Nat → Bool} : ∀ (k i j : Nat), i ≤ j → j < i + k → p j = true → ∃ d, i ≤ d ∧ d < i + k ∧ p d = true ∧ (∀ x, i ≤ x → x < d → p x = false)
  | 0, i, j, h1, h2, _ => by omega
  | k + 1, i, j, h1, h2, h3 => by
    by_cases q : p i = true
    · exact ⟨i, Nat.le_refl _, by omega, q, fun x hx hy => by omega⟩
    · have : i ≠ j := fun e => q (e ▸ h3)
      obtain ⟨d, h4, h5, h6, h7⟩ := fst_ex k (i + 1) j (by omega) (by omega) h3
      refine ⟨d, by omega, by omega, h6, fun x hx hy => ?_⟩
      by_cases e : x = i
      · rw [e]; simpa using q
      · exact h7 x (by omega) hy
def pB (left : List Int) (a : Int) (r : Rd) : Bool := r.f == a && gi left a.toNat == r.c + gi left r.t.toNat
def hitB (m : Mp) (f : Nat → Int) (s left : List Int) (a : Int) (i : Nat) : Bool := usB m f s i && pB left a (gr m i)
def nxt (m : Mp) (f : Nat → Int) (s left : List Int) (a : Int) : Nat := fstN (hitB m f s left a) m.rs.length 0
def wayC (m : Mp) (f : Nat → Int) (s left : List Int) (to : Int) : Nat → Int → List Int
  | 0, _ => []
  | k + 1, a => if a = to then [] else (nxt m f s left a : Int) :: wayC m f s left to k (gr m (nxt m f s left a)).t
def minL (m : Mp) (l : List Int) : Int := l.foldl (fun n x => n + (gr m x.toNat).m) 0
theorem minL_snoc (m : Mp) (l : List Int) (x : Int) : minL m (l ++ [x]) = minL m l + (gr m x.toNat).m := by
  unfold minL; rw [List.foldl_append]; rfl
structure AtW (m : Mp) (f : Nat → Int) (s left : List Int) (to a : Int) : Prop where
  r : 0 ≤ a ∧ a < m.n
  l : 0 ≤ gi left a.toNat ∧ gi left a.toNat < 1125899906842624
theorem hit_ex {m : Mp} {f : Nat → Int} {s : List Int} {to a : Int} (h : OkM m) (ht : 0 ≤ to ∧ to < m.n) (ha : AtW m f s (dL m f s to) to a) (hne : a ≠ to) : ∃ i, i < m.rs.length ∧ hitB m f s (dL m f s to) a i = true := by
  obtain ⟨h1, h2⟩ := dL_dst h f s true ht
  obtain ⟨k1, k2⟩ := edgC_ok h true (c := cU m f s) (fun i hi => (cU_rng h f s hi).1)
  have hl := ha.l
  have hr := ha.r
  rcases last_road k1 h1 h2 (y := a.toNat) (by omega) hl.2 with q | ⟨e, he, h3, h4, h5⟩
  · omega
  · obtain ⟨i, hi, rfl⟩ := List.mem_map.1 he
    have hi := List.mem_range.1 hi
    have ok := roadB_ok (h.r i hi)
    refine ⟨i, hi, ?_⟩
    have e1 : (edC m true (cU m f s) i).y = (gr m i).f.toNat := rfl
    have e2 : (edC m true (cU m f s) i).x = (gr m i).t.toNat := rfl
    have e3 : (edC m true (cU m f s) i).c = cU m f s i := rfl
    rw [e1] at h3
    rw [e2, e3] at h5
    rw [e3] at h4
    have hu : usB m f s i = true := by
      apply Classical.byContradiction
      intro z
      have : cU m f s i = -1 := by unfold cU edB; simp [z]
      omega
    have hc : cU m f s i = (gr m i).c := by unfold cU edB; simp [hu]
    have hf := ok.f
    unfold hitB pB
    rw [hu, Bool.true_and, Bool.and_eq_true, beq_iff_eq, beq_iff_eq]
    refine ⟨by omega, ?_⟩
    rw [hc] at h5
    show gi (dstC m true (cU m f s) to) a.toNat = _ + gi (dstC m true (cU m f s) to) _
    omega
theorem hit_step {m : Mp} {f : Nat → Int} {s : List Int} {to a : Int} (h : OkM m) (ht : 0 ≤ to ∧ to < m.n) (ha : AtW m f s (dL m f s to) to a) {i : Nat} (hi : i < m.rs.length) (hh : hitB m f s (dL m f s to) a i = true) :
    usB m f s i = true ∧ (gr m i).f = a ∧ gi (dL m f s to) a.toNat = (gr m i).c + gi (dL m f s to) (gr m i).t.toNat ∧ AtW m f s (dL m f s to) to (gr m i).t ∧ rk (dL m f s to) m.n.toNat (gr m i).t.toNat < rk (dL m f s to) m.n.toNat a.toNat := by
  have ok := roadB_ok (h.r i hi)
  unfold hitB pB at hh
  rw [Bool.and_eq_true, Bool.and_eq_true, beq_iff_eq, beq_iff_eq] at hh
  obtain ⟨h1, h2, h3⟩ := hh
  have hl := ha.l
  have hc := ok.c
  have htr := ok.t
  have hb := dL_rng h f s true ht (y := (gr m i).t.toNat) (by omega)
  have hb : 0 ≤ gi (dL m f s to) (gr m i).t.toNat ∧ gi (dL m f s to) (gr m i).t.toNat ≤ 1125899906842624 := hb
  refine ⟨h1, h2, h3, ⟨htr, by omega⟩, rk_lt (by omega) (by omega)⟩
theorem nxt_spec {m : Mp} {f : Nat → Int} {s : List Int} {to a : Int} (h : OkM m) (ht : 0 ≤ to ∧ to < m.n) (ha : AtW m f s (dL m f s to) to a) (hne : a ≠ to) :
    nxt m f s (dL m f s to) a < m.rs.length ∧ hitB m f s (dL m f s to) a (nxt m f s (dL m f s to) a) = true ∧ ∀ j, j < nxt m f s (dL m f s to) a → hitB m f s (dL m f s to) a j = false := by
  obtain ⟨i, hi, hh⟩ := hit_ex h ht ha hne
  obtain ⟨d, h1, h2, h3, h4⟩ := fst_ex m.rs.length 0 i (by omega) (by omega) hh
  have e : nxt m f s (dL m f s to) a = d := fst_eq m.rs.length 0 d (by omega) (by omega) h3 h4
  rw [e]
  exact ⟨by omega, h3, fun j hj => h4 j (by omega) hj⟩
def bestS (m : Mp) (f : Nat → Int) (fr to : Int) : Option (List Int × Int) := leastL (cfS m f fr to) (okS m f fr to) (setsM m.ws.length)
def wayS (m : Mp) (f : Nat → Int) (fr to : Int) (s : List Int) : List Int := wayC m f s (dL m f s to) to m.n.toNat fr
def bE : Option (List Int × Int) → Int
  | none => 15
  | some _ => 0
def chV (m : Mp) (f : Nat → Int) (fr to : Int) : Option (List Int × Int) := if opE m f = 0 then (if plB m.n fr = true ∧ plB m.n to = true then bestS m f fr to else none) else none
def chE (m : Mp) (f : Nat → Int) (fr to : Int) : Int := if opE m f = 0 then (if plB m.n fr = true ∧ plB m.n to = true then bE (bestS m f fr to) else 3) else opE m f
theorem leastL_mem {g : List Int → Int} {ok : List Int → Bool} : ∀ (l : List (List Int)) (b : Option (List Int × Int)) {s : List Int} {n : Int}, l.foldl (lstep g ok) b = some (s, n) → b = some (s, n) ∨ (s ∈ l ∧ ok s = true ∧ n = g s)
  | [], b, s, n, h => .inl h
  | x :: l, b, s, n, h => by
    rcases leastL_mem l (lstep g ok b x) h with q | ⟨q1, q2, q3⟩
    · unfold lstep at q
      by_cases c : ok x = true
      · rw [if_pos c] at q
        rcases b with _ | ⟨y, k⟩
        · cases q; exact .inr ⟨List.mem_cons_self, c, rfl⟩
        · dsimp only at q
          split at q
          · cases q; exact .inr ⟨List.mem_cons_self, c, rfl⟩
          · exact .inl q
      · rw [if_neg c] at q
        exact .inl q
    · exact .inr ⟨List.mem_cons_of_mem _ q1, q2, q3⟩
theorem best_some {m : Mp} {f : Nat → Int} {fr to : Int} {s : List Int} {n : Int} (h : bestS m f fr to = some (s, n)) : s ∈ setsM m.ws.length ∧ Srt m.ws.length 0 s ∧ okS m f fr to s = true ∧ n = cfS m f fr to s := by
  rcases leastL_mem _ _ h with q | ⟨q1, q2, q3⟩
  · cases q
  · exact ⟨q1, sets_srt s q1, q2, q3⟩
end Go.Proofs.Ytfbdlmenhoagmaa

namespace Go.Proofs.Ytfbdlmenhoagmaa
open Go Sy
set_option maxRecDepth 100000
set_option maxHeartbeats 4000000
set_option linter.unusedVariables false
set_option linter.unusedSimpArgs false
theorem fn63 (left : List Int) (a : Int) (r : Rd) (ha : 0 ≤ a ∧ a < left.length) (ht : 0 ≤ r.t ∧ r.t < left.length) (hc : 1 ≤ r.c ∧ r.c ≤ 1073741824) (hl : 0 ≤ gi left r.t.toNat ∧ gi left r.t.toNat ≤ 1125899906842624) : Sy.Fn Try.prog 63 [.agg (cR r), .fp [iv a] 0, .fp [aI left] 0] (bv (pB left a r)) := by
  refine Fn_of_W mixed Xt63 rfl ?_
  have gI : ∀ (l : List Int) i, l.getD i 0 = gi l i := fun _ _ => rfl
  unfold pB
  cases hb : r.f == a
  · repeat' (first | refine WK_go ?_ | refine W_seqL ?_ | refine W_seq ?_ | refine W_block ?_ | refine W_scp ?_ | ((first | refine W_regL ?_ | refine W_skip ?_ | refine W_exit ?_); simp (maxSteps := 400000) (disch := omega) only [push_cast, ↓reduceIte, reduceCtorEq, Nat.reduceAdd, Nat.reduceSub, Nat.reduceEqDiff, Nat.reduceLeDiff, Nat.reduceLT, Nat.reduceBEq, Nat.reduceDiv, Nat.reduceMod, Nat.reducePow, Nat.reduceMul, Int.reduceToNat, Int.reduceLT, Int.reduceLE, gI, hb]) | refine And.intro (by omega) ?_ | refine And.intro (by intro hq; (try simp only [Bool.and_eq_true, Bool.or_eq_true, Bool.and_eq_false_iff, Bool.or_eq_false_iff, decide_eq_true_eq, decide_eq_false_iff_not, Bool.not_eq_true', Bool.not_eq_false', beq_iff_eq, beq_eq_false_iff_ne, ne_eq] at hq); omega) ?_ | fail)
    exact W_ret ⟨[_], ⟨rfl, rfl⟩, rfl⟩
  · repeat' (first | refine WK_go ?_ | refine W_seqL ?_ | refine W_seq ?_ | refine W_block ?_ | refine W_scp ?_ | ((first | refine W_regL ?_ | refine W_skip ?_ | refine W_exit ?_); simp (maxSteps := 400000) (disch := omega) only [push_cast, ↓reduceIte, reduceCtorEq, Nat.reduceAdd, Nat.reduceSub, Nat.reduceEqDiff, Nat.reduceLeDiff, Nat.reduceLT, Nat.reduceBEq, Nat.reduceDiv, Nat.reduceMod, Nat.reducePow, Nat.reduceMul, Int.reduceToNat, Int.reduceLT, Int.reduceLE, gI, hb]) | refine And.intro (by omega) ?_ | refine And.intro (by intro hq; (try simp only [Bool.and_eq_true, Bool.or_eq_true, Bool.and_eq_false_iff, Bool.or_eq_false_iff, decide_eq_true_eq, decide_eq_false_iff_not, Bool.not_eq_true', Bool.not_eq_false', beq_iff_eq, beq_eq_false_iff_ne, ne_eq] at hq); omega) ?_ | fail)
    exact W_ret ⟨[_], ⟨rfl, rfl⟩, rfl⟩
theorem fn65 (left : List Int) (a : Int) (r : Rd) (ha : 0 ≤ a ∧ a < left.length) (ht : 0 ≤ r.t ∧ r.t < left.length) (hc : 1 ≤ r.c ∧ r.c ≤ 1073741824) (hl : 0 ≤ gi left r.t.toNat ∧ gi left r.t.toNat ≤ 1125899906842624) : Sy.Fn Try.prog 65 [.agg (cR r), .fp [iv a] 0, .fp [aI left] 0] (bv (pB left a r)) := by
  refine Fn_of_W mixed Xt65 rfl ?_
  have gI : ∀ (l : List Int) i, l.getD i 0 = gi l i := fun _ _ => rfl
  unfold pB
  cases hb : r.f == a
  · repeat' (first | refine WK_go ?_ | refine W_seqL ?_ | refine W_seq ?_ | refine W_block ?_ | refine W_scp ?_ | ((first | refine W_regL ?_ | refine W_skip ?_ | refine W_exit ?_); simp (maxSteps := 400000) (disch := omega) only [push_cast, ↓reduceIte, reduceCtorEq, Nat.reduceAdd, Nat.reduceSub, Nat.reduceEqDiff, Nat.reduceLeDiff, Nat.reduceLT, Nat.reduceBEq, Nat.reduceDiv, Nat.reduceMod, Nat.reducePow, Nat.reduceMul, Int.reduceToNat, Int.reduceLT, Int.reduceLE, gI, hb]) | refine And.intro (by omega) ?_ | refine And.intro (by intro hq; (try simp only [Bool.and_eq_true, Bool.or_eq_true, Bool.and_eq_false_iff, Bool.or_eq_false_iff, decide_eq_true_eq, decide_eq_false_iff_not, Bool.not_eq_true', Bool.not_eq_false', beq_iff_eq, beq_eq_false_iff_ne, ne_eq] at hq); omega) ?_ | fail)
    exact W_ret ⟨[_], ⟨rfl, rfl⟩, rfl⟩
  · repeat' (first | refine WK_go ?_ | refine W_seqL ?_ | refine W_seq ?_ | refine W_block ?_ | refine W_scp ?_ | ((first | refine W_regL ?_ | refine W_skip ?_ | refine W_exit ?_); simp (maxSteps := 400000) (disch := omega) only [push_cast, ↓reduceIte, reduceCtorEq, Nat.reduceAdd, Nat.reduceSub, Nat.reduceEqDiff, Nat.reduceLeDiff, Nat.reduceLT, Nat.reduceBEq, Nat.reduceDiv, Nat.reduceMod, Nat.reducePow, Nat.reduceMul, Int.reduceToNat, Int.reduceLT, Int.reduceLE, gI, hb]) | refine And.intro (by omega) ?_ | refine And.intro (by intro hq; (try simp only [Bool.and_eq_true, Bool.or_eq_true, Bool.and_eq_false_iff, Bool.or_eq_false_iff, decide_eq_true_eq, decide_eq_false_iff_not, Bool.not_eq_true', Bool.not_eq_false', beq_iff_eq, beq_eq_false_iff_ne, ne_eq] at hq); omega) ?_ | fail)
    exact W_ret ⟨[_], ⟨rfl, rfl⟩, rfl⟩
def cRt (rs ws : List Int) (c mi : Int) : List AV := [aI rs, aI ws, iv c, iv mi]
def zRt : List AV := [.v (.slice none 0 0), .v (.slice none 0 0), iv 0, iv 0]
def rtC (m : Mp) (f : Nat → Int) (fr to : Int) : Option (List Int × Int) → List AV
  | none => zRt
  | some p => cRt (wayS m f fr to p.1) p.1 p.2 (minL m (wayS m f fr to p.1))
theorem fn15 (m : Mp) (f : Nat → Int) (fr to : Int) (hm : Gm m) : Sy.Fn Try.prog 15 [aM m, .agg (c6 f), iv fr, iv to] (.tup [.agg (rtC m f fr to (chV m f fr to)), iv (chE m f fr to)]) := by
  refine Fn_of_W mixed Xt15 rfl ?_
  have c52 := fn52 m f hm
  by_cases h0 : opE m f = 0
  rotate_left
  · have e1 : chV m f fr to = none := by unfold chV; rw [if_neg h0]
    have e2 : chE m f fr to = opE m f := by unfold chE; rw [if_neg h0]
    rw [e1, e2]
    have hv : opV m f = cAt m f ∨ opV m f = zAt := by
      unfold opV
      split
      · exact .inl rfl
      · exact .inr rfl
    generalize opE m f = e at *
    rcases hv with hv | hv
    all_goals
      rw [hv] at c52
      try unfold zAt at c52
      repeat' (first | refine WK_go ?_ | refine W_seqL ?_ | refine W_seq ?_ | refine W_block ?_ | refine W_scp ?_ | ((first | refine W_regL ?_ | refine W_skip ?_ | refine W_exit ?_ | refine CallC.now (c52) ?_); simp (maxSteps := 400000) (disch := omega) only [push_cast, ↓reduceIte, reduceCtorEq, Nat.reduceAdd, Nat.reduceSub, Nat.reduceEqDiff, Nat.reduceLeDiff, Nat.reduceLT, Nat.reduceBEq, Nat.reduceDiv, Nat.reduceMod, Nat.reducePow, Nat.reduceMul, Int.reduceToNat, Int.reduceLT, Int.reduceLE]) | refine And.intro (by omega) ?_ | refine And.intro (by intro hq; (try simp only [Bool.and_eq_true, Bool.or_eq_true, Bool.and_eq_false_iff, Bool.or_eq_false_iff, decide_eq_true_eq, decide_eq_false_iff_not, Bool.not_eq_true', Bool.not_eq_false', beq_iff_eq, beq_eq_false_iff_ne, ne_eq] at hq); omega) ?_ | fail)
      refine W_cond (by rfl) (fun h => ?_) (fun h => ?_)
      · repeat' (first | refine WK_go ?_ | refine W_seqL ?_ | refine W_seq ?_ | refine W_block ?_ | refine W_scp ?_ | ((first | refine W_regL ?_ | refine W_skip ?_ | refine W_exit ?_); simp (maxSteps := 400000) (disch := omega) only [push_cast, ↓reduceIte, reduceCtorEq, Nat.reduceAdd, Nat.reduceSub, Nat.reduceEqDiff, Nat.reduceLeDiff, Nat.reduceLT, Nat.reduceBEq, Nat.reduceDiv, Nat.reduceMod, Nat.reducePow, Nat.reduceMul, Int.reduceToNat, Int.reduceLT, Int.reduceLE]) | refine And.intro (by omega) ?_ | refine And.intro (by intro hq; (try simp only [Bool.and_eq_true, Bool.or_eq_true, Bool.and_eq_false_iff, Bool.or_eq_false_iff, decide_eq_true_eq, decide_eq_false_iff_not, Bool.not_eq_true', Bool.not_eq_false', beq_iff_eq, beq_eq_false_iff_ne, ne_eq] at hq); omega) ?_ | fail)
        exact W_ret ⟨[_, _], ⟨⟨by simp, rfl⟩, rfl, rfl⟩, rfl⟩
      · exact absurd (by simpa using h) h0
  have hchk : chkM m = 0 ∧ szE f = 0 := by
    unfold opE at h0
    by_cases q : chkM m = 0
    · rw [if_pos q] at h0; exact ⟨q, h0⟩
    · rw [if_neg q] at h0; exact absurd h0 q
  have hv : opV m f = cAt m f := by unfold opV; rw [if_pos hchk.1]
  have hok := chkM_ok hchk.1
  rw [hv, h0] at c52
  have c53 := fn53 m [fr, to] (by simp)
  have hpl : plsB m [fr, to] = (plB m.n fr && plB m.n to) := by simp [plsB]
  rw [hpl] at c53
  by_cases hp : plB m.n fr = true ∧ plB m.n to = true
  rotate_left
  · have e1 : chV m f fr to = none := by unfold chV; rw [if_pos h0, if_neg hp]
    have e2 : chE m f fr to = 3 := by unfold chE; rw [if_pos h0, if_neg hp]
    have e3 : (plB m.n fr && plB m.n to) = false := by rw [← Bool.not_eq_true, Bool.and_eq_true]; exact hp
    rw [e3] at c53
    rw [e1, e2]
    repeat' (first | refine WK_go ?_ | refine W_seqL ?_ | refine W_seq ?_ | refine W_block ?_ | refine W_scp ?_ | ((first | refine W_regL ?_ | refine W_skip ?_ | refine W_exit ?_ | refine CallC.now (c52) ?_); simp (maxSteps := 400000) (disch := omega) only [push_cast, ↓reduceIte, reduceCtorEq, Nat.reduceAdd, Nat.reduceSub, Nat.reduceEqDiff, Nat.reduceLeDiff, Nat.reduceLT, Nat.reduceBEq, Nat.reduceDiv, Nat.reduceMod, Nat.reducePow, Nat.reduceMul, Int.reduceToNat, Int.reduceLT, Int.reduceLE]) | refine And.intro (by omega) ?_ | refine And.intro (by intro hq; (try simp only [Bool.and_eq_true, Bool.or_eq_true, Bool.and_eq_false_iff, Bool.or_eq_false_iff, decide_eq_true_eq, decide_eq_false_iff_not, Bool.not_eq_true', Bool.not_eq_false', beq_iff_eq, beq_eq_false_iff_ne, ne_eq] at hq); omega) ?_ | fail)
    refine W_cond (by rfl) (fun h => by cases h) (fun h => ?_)
    repeat' (first | refine WK_go ?_ | refine W_seqL ?_ | refine W_seq ?_ | refine W_block ?_ | refine W_scp ?_ | ((first | refine W_regL ?_ | refine W_skip ?_ | refine W_exit ?_ | refine CallC.now (c53) ?_); simp (maxSteps := 400000) (disch := omega) only [push_cast, ↓reduceIte, reduceCtorEq, Nat.reduceAdd, Nat.reduceSub, Nat.reduceEqDiff, Nat.reduceLeDiff, Nat.reduceLT, Nat.reduceBEq, Nat.reduceDiv, Nat.reduceMod, Nat.reducePow, Nat.reduceMul, Int.reduceToNat, Int.reduceLT, Int.reduceLE]) | refine And.intro (by omega) ?_ | refine And.intro (by intro hq; (try simp only [Bool.and_eq_true, Bool.or_eq_true, Bool.and_eq_false_iff, Bool.or_eq_false_iff, decide_eq_true_eq, decide_eq_false_iff_not, Bool.not_eq_true', Bool.not_eq_false', beq_iff_eq, beq_eq_false_iff_ne, ne_eq] at hq); omega) ?_ | fail)
    refine ⟨rfl, trivial, Int, 0, cI, [fr, to], rfl, by omega, fun x _ => ⟨rfl, rfl⟩, rfl, ?_⟩
    simp (maxSteps := 400000) (disch := omega) only [push_cast, ↓reduceIte, reduceCtorEq, Nat.reduceAdd, Nat.reduceSub, Nat.reduceEqDiff, Nat.reduceLeDiff, Nat.reduceLT, Nat.reduceBEq, Nat.reduceDiv, Nat.reduceMod, Nat.reducePow, Nat.reduceMul, Int.reduceToNat, Int.reduceLT, Int.reduceLE]
    repeat' (first | refine WK_go ?_ | refine W_seqL ?_ | refine W_seq ?_ | refine W_block ?_ | refine W_scp ?_ | ((first | refine W_regL ?_ | refine W_skip ?_ | refine W_exit ?_ | refine CallC.go _ (fun _ => ⟨trivial, c53⟩) rfl ?_); simp (maxSteps := 400000) (disch := omega) only [push_cast, ↓reduceIte, reduceCtorEq, Nat.reduceAdd, Nat.reduceSub, Nat.reduceEqDiff, Nat.reduceLeDiff, Nat.reduceLT, Nat.reduceBEq, Nat.reduceDiv, Nat.reduceMod, Nat.reducePow, Nat.reduceMul, Int.reduceToNat, Int.reduceLT, Int.reduceLE]) | refine And.intro (by omega) ?_ | refine And.intro (by intro hq; (try simp only [Bool.and_eq_true, Bool.or_eq_true, Bool.and_eq_false_iff, Bool.or_eq_false_iff, decide_eq_true_eq, decide_eq_false_iff_not, Bool.not_eq_true', Bool.not_eq_false', beq_iff_eq, beq_eq_false_iff_ne, ne_eq] at hq); omega) ?_ | fail)
    refine W_cond (by rfl) (fun h => ?_) (fun h => by cases h)
    repeat' (first | refine WK_go ?_ | refine W_seqL ?_ | refine W_seq ?_ | refine W_block ?_ | refine W_scp ?_ | ((first | refine W_regL ?_ | refine W_skip ?_ | refine W_exit ?_); simp (maxSteps := 400000) (disch := omega) only [push_cast, ↓reduceIte, reduceCtorEq, Nat.reduceAdd, Nat.reduceSub, Nat.reduceEqDiff, Nat.reduceLeDiff, Nat.reduceLT, Nat.reduceBEq, Nat.reduceDiv, Nat.reduceMod, Nat.reducePow, Nat.reduceMul, Int.reduceToNat, Int.reduceLT, Int.reduceLE]) | refine And.intro (by omega) ?_ | refine And.intro (by intro hq; (try simp only [Bool.and_eq_true, Bool.or_eq_true, Bool.and_eq_false_iff, Bool.or_eq_false_iff, decide_eq_true_eq, decide_eq_false_iff_not, Bool.not_eq_true', Bool.not_eq_false', beq_iff_eq, beq_eq_false_iff_ne, ne_eq] at hq); omega) ?_ | fail)
    exact W_ret ⟨[_, _], ⟨⟨by simp, rfl⟩, rfl, rfl⟩, rfl⟩
  have hp1 : (0 ≤ fr ∧ fr < m.n) ∧ (0 ≤ to ∧ to < m.n) := by
    have := hp.1; have := hp.2
    unfold plB at *
    simp only [Bool.and_eq_true, decide_eq_true_eq] at *
    omega
  have e3 : (plB m.n fr && plB m.n to) = true := by rw [hp.1, hp.2]; rfl
  rw [e3] at c53
  have c54 := fn54 m.ws.length hok.nw 56 [] [.fp (cAt m f) 0, .fp [iv to] 0, .fp [iv fr] 0] (cfS m f fr to) (okS m f fr to) (fun x hx => by
    have h1 := costL_set hok hx
    have h2 := dL_rng hok f x true hp1.2 (y := fr.toNat) (by omega)
    have h2 : 0 ≤ gi (dL m f x to) fr.toNat ∧ gi (dL m f x to) fr.toNat ≤ 1125899906842624 := h2
    unfold cfS
    omega) (fun x hx => fn56 m f fr to x hok hx hp1.2 hp1.1)
  have e1 : chV m f fr to = bestS m f fr to := by unfold chV; rw [if_pos h0, if_pos hp]
  have e2 : chE m f fr to = bE (bestS m f fr to) := by unfold chE; rw [if_pos h0, if_pos hp]
  rw [e1, e2]
  have hbs : leastL (cfS m f fr to) (okS m f fr to) (setsM m.ws.length) = bestS m f fr to := rfl
  rw [hbs] at c54
  repeat' (first | refine WK_go ?_ | refine W_seqL ?_ | refine W_seq ?_ | refine W_block ?_ | refine W_scp ?_ | ((first | refine W_regL ?_ | refine W_skip ?_ | refine W_exit ?_ | refine CallC.now (c52) ?_); simp (maxSteps := 400000) (disch := omega) only [push_cast, ↓reduceIte, reduceCtorEq, Nat.reduceAdd, Nat.reduceSub, Nat.reduceEqDiff, Nat.reduceLeDiff, Nat.reduceLT, Nat.reduceBEq, Nat.reduceDiv, Nat.reduceMod, Nat.reducePow, Nat.reduceMul, Int.reduceToNat, Int.reduceLT, Int.reduceLE]) | refine And.intro (by omega) ?_ | refine And.intro (by intro hq; (try simp only [Bool.and_eq_true, Bool.or_eq_true, Bool.and_eq_false_iff, Bool.or_eq_false_iff, decide_eq_true_eq, decide_eq_false_iff_not, Bool.not_eq_true', Bool.not_eq_false', beq_iff_eq, beq_eq_false_iff_ne, ne_eq] at hq); omega) ?_ | fail)
  refine W_cond (by rfl) (fun h => by cases h) (fun h => ?_)
  repeat' (first | refine WK_go ?_ | refine W_seqL ?_ | refine W_seq ?_ | refine W_block ?_ | refine W_scp ?_ | ((first | refine W_regL ?_ | refine W_skip ?_ | refine W_exit ?_ | refine CallC.now (c53) ?_); simp (maxSteps := 400000) (disch := omega) only [push_cast, ↓reduceIte, reduceCtorEq, Nat.reduceAdd, Nat.reduceSub, Nat.reduceEqDiff, Nat.reduceLeDiff, Nat.reduceLT, Nat.reduceBEq, Nat.reduceDiv, Nat.reduceMod, Nat.reducePow, Nat.reduceMul, Int.reduceToNat, Int.reduceLT, Int.reduceLE]) | refine And.intro (by omega) ?_ | refine And.intro (by intro hq; (try simp only [Bool.and_eq_true, Bool.or_eq_true, Bool.and_eq_false_iff, Bool.or_eq_false_iff, decide_eq_true_eq, decide_eq_false_iff_not, Bool.not_eq_true', Bool.not_eq_false', beq_iff_eq, beq_eq_false_iff_ne, ne_eq] at hq); omega) ?_ | fail)
  refine ⟨rfl, trivial, Int, 0, cI, [fr, to], rfl, by omega, fun x _ => ⟨rfl, rfl⟩, rfl, ?_⟩
  simp (maxSteps := 400000) (disch := omega) only [push_cast, ↓reduceIte, reduceCtorEq, Nat.reduceAdd, Nat.reduceSub, Nat.reduceEqDiff, Nat.reduceLeDiff, Nat.reduceLT, Nat.reduceBEq, Nat.reduceDiv, Nat.reduceMod, Nat.reducePow, Nat.reduceMul, Int.reduceToNat, Int.reduceLT, Int.reduceLE]
  repeat' (first | refine WK_go ?_ | refine W_seqL ?_ | refine W_seq ?_ | refine W_block ?_ | refine W_scp ?_ | ((first | refine W_regL ?_ | refine W_skip ?_ | refine W_exit ?_ | refine CallC.go _ (fun _ => ⟨trivial, c53⟩) rfl ?_); simp (maxSteps := 400000) (disch := omega) only [push_cast, ↓reduceIte, reduceCtorEq, Nat.reduceAdd, Nat.reduceSub, Nat.reduceEqDiff, Nat.reduceLeDiff, Nat.reduceLT, Nat.reduceBEq, Nat.reduceDiv, Nat.reduceMod, Nat.reducePow, Nat.reduceMul, Int.reduceToNat, Int.reduceLT, Int.reduceLE]) | refine And.intro (by omega) ?_ | refine And.intro (by intro hq; (try simp only [Bool.and_eq_true, Bool.or_eq_true, Bool.and_eq_false_iff, Bool.or_eq_false_iff, decide_eq_true_eq, decide_eq_false_iff_not, Bool.not_eq_true', Bool.not_eq_false', beq_iff_eq, beq_eq_false_iff_ne, ne_eq] at hq); omega) ?_ | fail)
  refine W_cond (by rfl) (fun h => by cases h) (fun h => ?_)
  repeat' (first | refine WK_go ?_ | refine W_seqL ?_ | refine W_seq ?_ | refine W_block ?_ | refine W_scp ?_ | ((first | refine W_regL ?_ | refine W_skip ?_ | refine W_exit ?_ | refine CallC.now (fn55 _) ?_ | refine CallC.go _ (fun _ => ⟨trivial, c54⟩) rfl ?_); simp (maxSteps := 400000) (disch := omega) only [push_cast, ↓reduceIte, reduceCtorEq, Nat.reduceAdd, Nat.reduceSub, Nat.reduceEqDiff, Nat.reduceLeDiff, Nat.reduceLT, Nat.reduceBEq, Nat.reduceDiv, Nat.reduceMod, Nat.reducePow, Nat.reduceMul, Int.reduceToNat, Int.reduceLT, Int.reduceLE]) | refine And.intro (by omega) ?_ | refine And.intro (by intro hq; (try simp only [Bool.and_eq_true, Bool.or_eq_true, Bool.and_eq_false_iff, Bool.or_eq_false_iff, decide_eq_true_eq, decide_eq_false_iff_not, Bool.not_eq_true', Bool.not_eq_false', beq_iff_eq, beq_eq_false_iff_ne, ne_eq] at hq); omega) ?_ | fail)
  rcases hb : bestS m f fr to with _ | ⟨s, n⟩
  · refine W_cond (by rfl) (fun h => ?_) (fun h => by cases h)
    repeat' (first | refine WK_go ?_ | refine W_seqL ?_ | refine W_seq ?_ | refine W_block ?_ | refine W_scp ?_ | ((first | refine W_regL ?_ | refine W_skip ?_ | refine W_exit ?_); simp (maxSteps := 400000) (disch := omega) only [push_cast, ↓reduceIte, reduceCtorEq, Nat.reduceAdd, Nat.reduceSub, Nat.reduceEqDiff, Nat.reduceLeDiff, Nat.reduceLT, Nat.reduceBEq, Nat.reduceDiv, Nat.reduceMod, Nat.reducePow, Nat.reduceMul, Int.reduceToNat, Int.reduceLT, Int.reduceLE]) | refine And.intro (by omega) ?_ | refine And.intro (by intro hq; (try simp only [Bool.and_eq_true, Bool.or_eq_true, Bool.and_eq_false_iff, Bool.or_eq_false_iff, decide_eq_true_eq, decide_eq_false_iff_not, Bool.not_eq_true', Bool.not_eq_false', beq_iff_eq, beq_eq_false_iff_ne, ne_eq] at hq); omega) ?_ | fail)
    exact W_ret ⟨[_, _], ⟨⟨by simp, rfl⟩, rfl, rfl⟩, rfl⟩
  obtain ⟨b1, b2, b3, b4⟩ := best_some hb
  have c60 := fn60 s m.ws.length hok.nw b2
  have c57 := dL_fn m f s to true hok b2 hp1.2
  have hl := dL_len hok f s true hp1.2
  have hlr : ∀ y, y < m.n.toNat → 0 ≤ gi (dstC m true (cU m f s) to) y ∧ gi (dstC m true (cU m f s) to) y ≤ 1125899906842624 := fun y hy => dL_rng hok f s true hp1.2 hy
  have hd : dL m f s to = dstC m true (cU m f s) to := rfl
  rw [← hd] at c57 hl hlr
  have hA0 : AtW m f s (dL m f s to) to fr := ⟨hp1.1, (by have := hlr fr.toNat (by omega); omega), (by unfold okS at b3; rw [decide_eq_true_eq] at b3; exact b3)⟩
  refine W_cond (by rfl) (fun h => by cases h) (fun h => ?_)
  repeat' (first | refine WK_go ?_ | refine W_seqL ?_ | refine W_seq ?_ | refine W_block ?_ | refine W_scp ?_ | ((first | refine W_regL ?_ | refine W_skip ?_ | refine W_exit ?_ | refine CallC.now (fn61 _) ?_ | refine CallC.now (c60) ?_); simp (maxSteps := 400000) (disch := omega) only [push_cast, ↓reduceIte, reduceCtorEq, Nat.reduceAdd, Nat.reduceSub, Nat.reduceEqDiff, Nat.reduceLeDiff, Nat.reduceLT, Nat.reduceBEq, Nat.reduceDiv, Nat.reduceMod, Nat.reducePow, Nat.reduceMul, Int.reduceToNat, Int.reduceLT, Int.reduceLE]) | refine And.intro (by omega) ?_ | refine And.intro (by intro hq; (try simp only [Bool.and_eq_true, Bool.or_eq_true, Bool.and_eq_false_iff, Bool.or_eq_false_iff, decide_eq_true_eq, decide_eq_false_iff_not, Bool.not_eq_true', Bool.not_eq_false', beq_iff_eq, beq_eq_false_iff_ne, ne_eq] at hq); omega) ?_ | fail)
  repeat' (first | refine WK_go ?_ | refine W_seqL ?_ | refine W_seq ?_ | refine W_block ?_ | refine W_scp ?_ | ((first | refine W_regL ?_ | refine W_skip ?_ | refine W_exit ?_ | refine CallC.now (fn58 m f (msk s)) ?_ | refine CallC.now (c57) ?_); simp (maxSteps := 400000) (disch := omega) only [push_cast, ↓reduceIte, reduceCtorEq, Nat.reduceAdd, Nat.reduceSub, Nat.reduceEqDiff, Nat.reduceLeDiff, Nat.reduceLT, Nat.reduceBEq, Nat.reduceDiv, Nat.reduceMod, Nat.reducePow, Nat.reduceMul, Int.reduceToNat, Int.reduceLT, Int.reduceLE]) | refine And.intro (by omega) ?_ | refine And.intro (by intro hq; (try simp only [Bool.and_eq_true, Bool.or_eq_true, Bool.and_eq_false_iff, Bool.or_eq_false_iff, decide_eq_true_eq, decide_eq_false_iff_not, Bool.not_eq_true', Bool.not_eq_false', beq_iff_eq, beq_eq_false_iff_ne, ne_eq] at hq); omega) ?_ | fail)
  have hN := hok.n
  obtain ⟨left, hleft⟩ : ∃ left, left = dL m f s to := ⟨_, rfl⟩
  have hbC : bC (some (s, n)) = n := rfl
  have hbS : bS (some (s, n)) = msk s := rfl
  have hres : rtC m f fr to (some (s, n)) = cRt (wayS m f fr to s) s n (minL m (wayS m f fr to s)) := rfl
  have hway : wayS m f fr to s = wayC m f s left to m.n.toNat fr := by rw [hleft]; rfl
  have hres2 : bE (some (s, n)) = 0 := rfl
  rw [hres, hres2, hway]
  rw [hbC, hbS]
  rw [← hleft] at hl hlr hA0 ⊢
  refine W_le (le_adoptC 45 0 3 1 (0 : Int) cI (by omega) _ rfl rfl (by simp)) ?_
  simp (maxSteps := 400000) (disch := omega) only [push_cast, ↓reduceIte, reduceCtorEq, Nat.reduceAdd, Nat.reduceSub, Nat.reduceEqDiff, Nat.reduceLeDiff, Nat.reduceLT, Nat.reduceBEq, Nat.reduceDiv, Nat.reduceMod, Nat.reducePow, Nat.reduceMul, Int.reduceToNat, Int.reduceLT, Int.reduceLE]
  refine W_loopU (fun u : Nat × Int × List Int => []) (fun u => [(2, .cells [iv u.2.1]), (45, .cells [.row 55 u.2.2.length, aI s, iv n, iv (minL m u.2.2)]), (55, .row u.2.2.length 3 1 0 cI u.2.2)]) (fun u => AtW m f s left to u.2.1 ∧ rk left m.n.toNat u.2.1.toNat ≤ u.1 ∧ u.2.2 ++ wayC m f s left to u.1 u.2.1 = wayC m f s left to m.n.toNat fr ∧ u.2.2.length + u.1 ≤ 64 ∧ 0 ≤ minL m u.2.2 ∧ minL m u.2.2 ≤ 1440 * u.2.2.length) (fun u => u.1) (m.n.toNat, fr, []) ⟨hA0, rk_le _ _ _, List.nil_append _, by simp; omega, by simp [minL], by simp [minL]⟩ (by rfl) (by rfl) (fun u hu => ?_)
  obtain ⟨k, a, acc⟩ := u
  obtain ⟨q1, q2, q3, q4, q5, q6⟩ := hu
  dsimp only at q1 q2 q3 q4 q5 q6 ⊢
  simp (maxSteps := 400000) (disch := omega) only [push_cast, ↓reduceIte, reduceCtorEq, Nat.reduceAdd, Nat.reduceSub, Nat.reduceEqDiff, Nat.reduceLeDiff, Nat.reduceLT, Nat.reduceBEq, Nat.reduceDiv, Nat.reduceMod, Nat.reducePow, Nat.reduceMul, Int.reduceToNat, Int.reduceLT, Int.reduceLE]
  repeat' (first | refine WK_go ?_ | refine W_seqL ?_ | refine W_seq ?_ | refine W_block ?_ | refine W_scp ?_ | ((first | refine W_regL ?_ | refine W_skip ?_ | refine W_exit ?_); simp (maxSteps := 400000) (disch := omega) only [push_cast, ↓reduceIte, reduceCtorEq, Nat.reduceAdd, Nat.reduceSub, Nat.reduceEqDiff, Nat.reduceLeDiff, Nat.reduceLT, Nat.reduceBEq, Nat.reduceDiv, Nat.reduceMod, Nat.reducePow, Nat.reduceMul, Int.reduceToNat, Int.reduceLT, Int.reduceLE]) | refine And.intro (by omega) ?_ | refine And.intro (by intro hq; (try simp only [Bool.and_eq_true, Bool.or_eq_true, Bool.and_eq_false_iff, Bool.or_eq_false_iff, decide_eq_true_eq, decide_eq_false_iff_not, Bool.not_eq_true', Bool.not_eq_false', beq_iff_eq, beq_eq_false_iff_ne, ne_eq] at hq); omega) ?_ | fail)
  refine W_cond (by rfl) (fun hb => ?_) (fun hb => ?_)
  · have hne : a ≠ to := by rw [bne_iff_ne] at hb; exact hb
    rw [hleft] at q1 q2
    obtain ⟨x1, x2, x3⟩ := nxt_spec hok hp1.2 q1 hne
    obtain ⟨y1, y2, y3, y4, y5⟩ := hit_step hok hp1.2 q1 x1 x2
    rw [← hleft] at q1 q2 x1 x2 x3 y1 y2 y3 y4 y5
    have ha := q1.r
    have hcl : ∀ r ∈ m.rs, Sy.Fn Try.prog 63 ([] ++ [.agg (cR r)] ++ [.fp [iv a] 0, .fp [aI left] 0]) (bv (pB left a r)) := fun r hr => by
      obtain ⟨i, hi, rfl⟩ := List.mem_iff_getElem.1 hr
      have hri := roadB_ok (hok.r i hi)
      have e : gr m i = m.rs[i] := by simp [gr, List.getD, hi]
      rw [e] at hri
      have := hri.t
      exact fn63 left a _ (by rw [hl]; omega) (by rw [hl]; omega) hri.c (hlr _ (by omega))
    have hnr := hok.nr
    have c62 := fn62 m.rs (by omega) 63 [] [.fp [iv a] 0, .fp [aI left] 0] (pB left a) hcl
    obtain ⟨x, hx⟩ : ∃ x, x = nxt m f s left a := ⟨_, rfl⟩
    rw [← hx] at x1 x2 x3 y1 y2 y3 y4 y5
    have hpx : pB left a (gr m x) = true := by unfold hitB at x2; rw [Bool.and_eq_true] at x2; exact x2.2
    obtain ⟨i0, z1, z2, z3, z4⟩ := fst_ex (p := fun i => pB left a (gr m i)) m.rs.length 0 x (by omega) (by omega) hpx
    have hi0 : idxF (pB left a) m.rs 0 = (i0 : Int) := by
      rw [idxF_at (pB left a) dR m.rs i0 0 (by omega) (fun j hj => z4 j (by omega) hj) z3]; omega
    rw [hi0] at c62
    have hno : ∀ j, pB left a (gr m j) = false → hitB m f s left a j = false := fun j hj => by unfold hitB; rw [hj, Bool.and_false]
    repeat' (first | refine WK_go ?_ | refine W_seqL ?_ | refine W_seq ?_ | refine W_block ?_ | refine W_scp ?_ | ((first | refine W_regL ?_ | refine W_skip ?_ | refine W_exit ?_ | refine CallC.go _ (fun _ => ⟨trivial, c62⟩) rfl ?_); simp (maxSteps := 400000) (disch := omega) only [push_cast, ↓reduceIte, reduceCtorEq, Nat.reduceAdd, Nat.reduceSub, Nat.reduceEqDiff, Nat.reduceLeDiff, Nat.reduceLT, Nat.reduceBEq, Nat.reduceDiv, Nat.reduceMod, Nat.reducePow, Nat.reduceMul, Int.reduceToNat, Int.reduceLT, Int.reduceLE]) | refine And.intro (by omega) ?_ | refine And.intro (by intro hq; (try simp only [Bool.and_eq_true, Bool.or_eq_true, Bool.and_eq_false_iff, Bool.or_eq_false_iff, decide_eq_true_eq, decide_eq_false_iff_not, Bool.not_eq_true', Bool.not_eq_false', beq_iff_eq, beq_eq_false_iff_ne, ne_eq] at hq); omega) ?_ | fail)
    refine W_loopU (fun i : Nat => [(18, iv i)]) (fun i => []) (fun i => i < m.rs.length ∧ pB left a (gr m i) = true ∧ ∀ j, j < i → hitB m f s left a j = false) (fun i => m.rs.length - i) i0 ⟨by omega, z3, fun j hj => hno j (z4 j (by omega) hj)⟩ (by rfl) (by rfl) (fun i hi => ?_)
    obtain ⟨w1, w2, w3⟩ := hi
    have c64 := fn64 m f s (msk s) i hok (setW_msk b2) w1
    simp (maxSteps := 400000) (disch := omega) only [push_cast, ↓reduceIte, reduceCtorEq, Nat.reduceAdd, Nat.reduceSub, Nat.reduceEqDiff, Nat.reduceLeDiff, Nat.reduceLT, Nat.reduceBEq, Nat.reduceDiv, Nat.reduceMod, Nat.reducePow, Nat.reduceMul, Int.reduceToNat, Int.reduceLT, Int.reduceLE]
    repeat' (first | refine WK_go ?_ | refine W_seqL ?_ | refine W_seq ?_ | refine W_block ?_ | refine W_scp ?_ | ((first | refine W_regL ?_ | refine W_skip ?_ | refine W_exit ?_ | refine CallC.go _ (fun _ => ⟨trivial, c64⟩) rfl ?_); simp (maxSteps := 400000) (disch := omega) only [push_cast, ↓reduceIte, reduceCtorEq, Nat.reduceAdd, Nat.reduceSub, Nat.reduceEqDiff, Nat.reduceLeDiff, Nat.reduceLT, Nat.reduceBEq, Nat.reduceDiv, Nat.reduceMod, Nat.reducePow, Nat.reduceMul, Int.reduceToNat, Int.reduceLT, Int.reduceLE]) | refine And.intro (by omega) ?_ | refine And.intro (by intro hq; (try simp only [Bool.and_eq_true, Bool.or_eq_true, Bool.and_eq_false_iff, Bool.or_eq_false_iff, decide_eq_true_eq, decide_eq_false_iff_not, Bool.not_eq_true', Bool.not_eq_false', beq_iff_eq, beq_eq_false_iff_ne, ne_eq] at hq); omega) ?_ | fail)
    refine W_cond (by rfl) (fun hu => ?_) (fun hu => ?_)
    · have hu : usB m f s i = false := by simpa using hu
      have hix : i < x := by
        rcases Nat.lt_trichotomy i x with q | q | q
        · exact q
        · rw [← q, hu] at y1; cases y1
        · rw [w3 x q] at x2; cases x2
      obtain ⟨i1, v1, v2, v3, v4⟩ := fst_ex (p := fun i => pB left a (gr m i)) (m.rs.length - (i + 1)) (i + 1) x (by omega) (by omega) hpx
      have hgd : ∀ j, (m.rs.drop (i + 1)).getD j dR = gr m (i + 1 + j) := fun j => by simp [gr, List.getD]
      have c62 := fn62 (m.rs.drop (i + 1)) (by rw [List.length_drop]; omega) 65 [] [.fp [iv a] 0, .fp [aI left] 0] (pB left a) (fun r hr => by
        have hr := List.mem_of_mem_drop hr
        obtain ⟨i, hi, rfl⟩ := List.mem_iff_getElem.1 hr
        have hri := roadB_ok (hok.r i hi)
        have e : gr m i = m.rs[i] := by simp [gr, List.getD, hi]
        rw [e] at hri
        have := hri.t
        exact fn65 left a _ (by rw [hl]; omega) (by rw [hl]; omega) hri.c (hlr _ (by omega)))
      have hi1 : idxF (pB left a) (m.rs.drop (i + 1)) 0 = ((i1 - (i + 1) : Nat) : Int) := by
        rw [idxF_at (pB left a) dR (m.rs.drop (i + 1)) (i1 - (i + 1)) 0 (by rw [List.length_drop]; omega) (fun j hj => by rw [hgd]; exact v4 (i + 1 + j) (by omega) (by omega)) (by rw [hgd, show i + 1 + (i1 - (i + 1)) = i1 by omega]; exact v3)]; omega
      rw [hi1] at c62
      repeat' (first | refine WK_go ?_ | refine W_seqL ?_ | refine W_seq ?_ | refine W_block ?_ | refine W_scp ?_ | ((first | refine W_regL ?_ | refine W_skip ?_ | refine W_exit ?_ | refine CallC.go _ (fun _ => ⟨trivial, c62⟩) rfl ?_); simp (maxSteps := 400000) (disch := omega) only [push_cast, ↓reduceIte, reduceCtorEq, Nat.reduceAdd, Nat.reduceSub, Nat.reduceEqDiff, Nat.reduceLeDiff, Nat.reduceLT, Nat.reduceBEq, Nat.reduceDiv, Nat.reduceMod, Nat.reducePow, Nat.reduceMul, Int.reduceToNat, Int.reduceLT, Int.reduceLE]) | refine And.intro (by omega) ?_ | refine And.intro (by intro hq; (try simp only [Bool.and_eq_true, Bool.or_eq_true, Bool.and_eq_false_iff, Bool.or_eq_false_iff, decide_eq_true_eq, decide_eq_false_iff_not, Bool.not_eq_true', Bool.not_eq_false', beq_iff_eq, beq_eq_false_iff_ne, ne_eq] at hq); omega) ?_ | fail)
      refine ⟨i1, ⟨by omega, v3, fun j hj => ?_⟩, by omega, by rfl, ?_⟩
      · rcases Nat.lt_trichotomy j i with q | q | q
        · exact w3 j q
        · rw [q]; unfold hitB; rw [hu]; rfl
        · exact hno j (v4 j (by omega) hj)
      · have e : (i : Int) + (1 + ((i1 : Int) - ((i : Int) + 1))) = i1 := by omega
        simp (maxSteps := 400000) (disch := omega) only [push_cast, ↓reduceIte, reduceCtorEq, Nat.reduceAdd, Nat.reduceSub, Nat.reduceEqDiff, Nat.reduceLeDiff, Nat.reduceLT, Nat.reduceBEq, Nat.reduceDiv, Nat.reduceMod, Nat.reducePow, Nat.reduceMul, Int.reduceToNat, Int.reduceLT, Int.reduceLE, S.mk.injEq, List.cons.injEq, Prod.mk.injEq, AV.v.injEq, Value.int.injEq, Value.bool.injEq, Blk.cells.injEq, e]
    · have hu : usB m f s i = true := by simpa using hu
      have hhit : hitB m f s left a i = true := by unfold hitB; rw [hu, w2]; rfl
      have hix : i = x := by
        rcases Nat.lt_trichotomy i x with q | q | q
        · rw [x3 i q] at hhit; cases hhit
        · exact q
        · rw [w3 x q] at x2; cases x2
      subst hix
      have hgr : m.rs.getD i dR = gr m i := rfl
      have hm1 := (roadB_ok (hok.r i w1)).m
      have hms : minL m (acc ++ [(i : Int)]) = minL m acc + (gr m i).m := by rw [minL_snoc]; rfl
      obtain ⟨k', hk'⟩ : ∃ k', k = k' + 1 := ⟨k - 1, by omega⟩
      have hw1 : wayC m f s left to k a = (i : Int) :: wayC m f s left to k' (gr m i).t := by
        rw [hk']
        simp only [wayC]
        rw [if_neg hne, ← hx]
      repeat' (first | refine WK_go ?_ | refine W_seqL ?_ | refine W_seq ?_ | refine W_block ?_ | refine W_scp ?_ | ((first | refine W_regL ?_ | refine W_skip ?_ | refine W_exit ?_); simp (maxSteps := 400000) (disch := omega) only [push_cast, ↓reduceIte, reduceCtorEq, Nat.reduceAdd, Nat.reduceSub, Nat.reduceEqDiff, Nat.reduceLeDiff, Nat.reduceLT, Nat.reduceBEq, Nat.reduceDiv, Nat.reduceMod, Nat.reducePow, Nat.reduceMul, Int.reduceToNat, Int.reduceLT, Int.reduceLE]) | refine And.intro (by omega) ?_ | refine And.intro (by intro hq; (try simp only [Bool.and_eq_true, Bool.or_eq_true, Bool.and_eq_false_iff, Bool.or_eq_false_iff, decide_eq_true_eq, decide_eq_false_iff_not, Bool.not_eq_true', Bool.not_eq_false', beq_iff_eq, beq_eq_false_iff_ne, ne_eq] at hq); omega) ?_ | fail)
      refine ⟨rfl, trivial, Int, 0, cI, [(i : Int)], rfl, by omega, fun x _ => ⟨rfl, rfl⟩, rfl, ?_⟩
      simp (maxSteps := 400000) (disch := omega) only [push_cast, ↓reduceIte, reduceCtorEq, Nat.reduceAdd, Nat.reduceSub, Nat.reduceEqDiff, Nat.reduceLeDiff, Nat.reduceLT, Nat.reduceBEq, Nat.reduceDiv, Nat.reduceMod, Nat.reducePow, Nat.reduceMul, Int.reduceToNat, Int.reduceLT, Int.reduceLE]
      refine ⟨rfl, ⟨Nat.le_of_ble_eq_true rfl, rfl⟩, trivial, [(i : Int)], rfl, by first | omega | (simp; omega), by first | omega | (simp; omega), ?_⟩
      simp (maxSteps := 400000) (disch := omega) only [push_cast, ↓reduceIte, reduceCtorEq, Nat.reduceAdd, Nat.reduceSub, Nat.reduceEqDiff, Nat.reduceLeDiff, Nat.reduceLT, Nat.reduceBEq, Nat.reduceDiv, Nat.reduceMod, Nat.reducePow, Nat.reduceMul, Int.reduceToNat, Int.reduceLT, Int.reduceLE]
      repeat' (first | refine WK_go ?_ | refine W_seqL ?_ | refine W_seq ?_ | refine W_block ?_ | refine W_scp ?_ | ((first | refine W_regL ?_ | refine W_skip ?_ | refine W_exit ?_); simp (maxSteps := 400000) (disch := omega) only [push_cast, ↓reduceIte, reduceCtorEq, Nat.reduceAdd, Nat.reduceSub, Nat.reduceEqDiff, Nat.reduceLeDiff, Nat.reduceLT, Nat.reduceBEq, Nat.reduceDiv, Nat.reduceMod, Nat.reducePow, Nat.reduceMul, Int.reduceToNat, Int.reduceLT, Int.reduceLE, hgr]) | refine And.intro (by omega) ?_ | refine And.intro (by intro hq; (try simp only [Bool.and_eq_true, Bool.or_eq_true, Bool.and_eq_false_iff, Bool.or_eq_false_iff, decide_eq_true_eq, decide_eq_false_iff_not, Bool.not_eq_true', Bool.not_eq_false', beq_iff_eq, beq_eq_false_iff_ne, ne_eq] at hq); omega) ?_ | fail)
      refine ⟨(k', (gr m i).t, acc ++ [(i : Int)]), ⟨y4, by dsimp only; omega, ?_, ?_, ?_, ?_⟩, by dsimp only; omega, by rfl, ?_⟩
      · dsimp only
        rw [← q3, hw1, List.append_assoc]; rfl
      · dsimp only; rw [List.length_append]; simp only [List.length_singleton]; omega
      · dsimp only; rw [hms]; omega
      · dsimp only; rw [hms, List.length_append]; simp only [List.length_singleton]; omega
      · dsimp only
        rw [hms, List.length_append]
        simp (maxSteps := 400000) (disch := omega) only [push_cast, ↓reduceIte, reduceCtorEq, Nat.reduceAdd, Nat.reduceSub, Nat.reduceEqDiff, Nat.reduceLeDiff, Nat.reduceLT, Nat.reduceBEq, Nat.reduceDiv, Nat.reduceMod, Nat.reducePow, Nat.reduceMul, Int.reduceToNat, Int.reduceLT, Int.reduceLE, S.mk.injEq, List.cons.injEq, Prod.mk.injEq, AV.v.injEq, Value.int.injEq, Value.bool.injEq, Blk.cells.injEq]
  · have hat : a = to := by simpa using hb
    have hw1 : wayC m f s left to k a = [] := by
      cases k with
      | zero => rfl
      | succ k => simp only [wayC]; rw [if_pos hat]
    rw [hw1, List.append_nil] at q3
    rw [← q3]
    repeat' (first | refine WK_go ?_ | refine W_seqL ?_ | refine W_seq ?_ | refine W_block ?_ | refine W_scp ?_ | ((first | refine W_regL ?_ | refine W_skip ?_ | refine W_exit ?_); simp (maxSteps := 400000) (disch := omega) only [push_cast, ↓reduceIte, reduceCtorEq, Nat.reduceAdd, Nat.reduceSub, Nat.reduceEqDiff, Nat.reduceLeDiff, Nat.reduceLT, Nat.reduceBEq, Nat.reduceDiv, Nat.reduceMod, Nat.reducePow, Nat.reduceMul, Int.reduceToNat, Int.reduceLT, Int.reduceLE]) | refine And.intro (by omega) ?_ | refine And.intro (by intro hq; (try simp only [Bool.and_eq_true, Bool.or_eq_true, Bool.and_eq_false_iff, Bool.or_eq_false_iff, decide_eq_true_eq, decide_eq_false_iff_not, Bool.not_eq_true', Bool.not_eq_false', beq_iff_eq, beq_eq_false_iff_ne, ne_eq] at hq); omega) ?_ | fail)
    refine W_ret ⟨[_, _], ⟨⟨by simp, rfl⟩, rfl, rfl⟩, ?_⟩
    simp (maxSteps := 400000) (disch := omega) only [push_cast, ↓reduceIte, reduceCtorEq, Nat.reduceAdd, Nat.reduceSub, Nat.reduceEqDiff, Nat.reduceLeDiff, Nat.reduceLT, Nat.reduceBEq, Nat.reduceDiv, Nat.reduceMod, Nat.reducePow, Nat.reduceMul, Int.reduceToNat, Int.reduceLT, Int.reduceLE, pack]
    rfl
end Go.Proofs.Ytfbdlmenhoagmaa

namespace Go.Proofs.Ytfbdlmenhoagmaa
open Go Sy
set_option maxRecDepth 100000
set_option maxHeartbeats 4000000
set_option linter.unusedVariables false
set_option linter.unusedSimpArgs false
def lvT (r : Rd) (t : Int) : Int := (if t % 1440 < r.o then t + (r.o - t % 1440) else if r.z - r.m < t % 1440 then t + (1440 - t % 1440 + r.o) else t) + r.m
theorem lvT_rng {n : Int} {r : Rd} (h : OkR n r) (t : Int) (ht : 0 ≤ t) : t + 1 ≤ lvT r t ∧ lvT r t ≤ t + 4320 := by
  have := h.o; have := h.m
  unfold lvT
  have := Int.emod_nonneg t (show (1440 : Int) ≠ 0 by decide)
  have := Int.emod_lt_of_pos t (show (0 : Int) < 1440 by decide)
  split
  · omega
  · split <;> omega
theorem fn93 (n : Int) (r : Rd) (t : Int) (h : OkR n r) (ht : 0 ≤ t ∧ t ≤ 4398046511104) : Sy.Fn Try.prog 93 [.agg (cR r), iv t] (iv (lvT r t)) := by
  refine Fn_of_W mixed Xt93 rfl ?_
  have ho := h.o; have hm := h.m
  have e0 : t.tmod 1440 = t % 1440 := Int.tmod_eq_emod_of_nonneg ht.1
  have h1 := Int.emod_nonneg t (show (1440 : Int) ≠ 0 by decide)
  have h2 := Int.emod_lt_of_pos t (show (0 : Int) < 1440 by decide)
  unfold lvT
  generalize t % 1440 = w at *
  repeat' (first | refine WK_go ?_ | refine W_seqL ?_ | refine W_seq ?_ | refine W_block ?_ | refine W_scp ?_ | ((first | refine W_regL ?_ | refine W_skip ?_ | refine W_exit ?_); simp (maxSteps := 400000) (disch := omega) only [push_cast, ↓reduceIte, reduceCtorEq, Nat.reduceAdd, Nat.reduceSub, Nat.reduceEqDiff, Nat.reduceLeDiff, Nat.reduceLT, Nat.reduceBEq, Nat.reduceDiv, Nat.reduceMod, Nat.reducePow, Nat.reduceMul, Int.reduceToNat, Int.reduceLT, Int.reduceLE, e0]) | refine And.intro (by omega) ?_ | refine And.intro (by intro hq; (try simp only [Bool.and_eq_true, Bool.or_eq_true, Bool.and_eq_false_iff, Bool.or_eq_false_iff, decide_eq_true_eq, decide_eq_false_iff_not, Bool.not_eq_true', Bool.not_eq_false', beq_iff_eq, beq_eq_false_iff_ne, ne_eq] at hq); omega) ?_ | fail)
  refine W_condD (by rfl) (fun q => ?_) (fun q => ?_)
  · rw [if_pos q]
    repeat' (first | refine WK_go ?_ | refine W_seqL ?_ | refine W_seq ?_ | refine W_block ?_ | refine W_scp ?_ | ((first | refine W_regL ?_ | refine W_skip ?_ | refine W_exit ?_); simp (maxSteps := 400000) (disch := omega) only [push_cast, ↓reduceIte, reduceCtorEq, Nat.reduceAdd, Nat.reduceSub, Nat.reduceEqDiff, Nat.reduceLeDiff, Nat.reduceLT, Nat.reduceBEq, Nat.reduceDiv, Nat.reduceMod, Nat.reducePow, Nat.reduceMul, Int.reduceToNat, Int.reduceLT, Int.reduceLE]) | refine And.intro (by omega) ?_ | refine And.intro (by intro hq; (try simp only [Bool.and_eq_true, Bool.or_eq_true, Bool.and_eq_false_iff, Bool.or_eq_false_iff, decide_eq_true_eq, decide_eq_false_iff_not, Bool.not_eq_true', Bool.not_eq_false', beq_iff_eq, beq_eq_false_iff_ne, ne_eq] at hq); omega) ?_ | fail)
    exact W_ret ⟨[_], ⟨rfl, rfl⟩, rfl⟩
  · rw [if_neg q]
    repeat' (first | refine WK_go ?_ | refine W_seqL ?_ | refine W_seq ?_ | refine W_block ?_ | refine W_scp ?_ | ((first | refine W_regL ?_ | refine W_skip ?_ | refine W_exit ?_); simp (maxSteps := 400000) (disch := omega) only [push_cast, ↓reduceIte, reduceCtorEq, Nat.reduceAdd, Nat.reduceSub, Nat.reduceEqDiff, Nat.reduceLeDiff, Nat.reduceLT, Nat.reduceBEq, Nat.reduceDiv, Nat.reduceMod, Nat.reducePow, Nat.reduceMul, Int.reduceToNat, Int.reduceLT, Int.reduceLE]) | refine And.intro (by omega) ?_ | refine And.intro (by intro hq; (try simp only [Bool.and_eq_true, Bool.or_eq_true, Bool.and_eq_false_iff, Bool.or_eq_false_iff, decide_eq_true_eq, decide_eq_false_iff_not, Bool.not_eq_true', Bool.not_eq_false', beq_iff_eq, beq_eq_false_iff_ne, ne_eq] at hq); omega) ?_ | fail)
    refine W_condD (by rfl) (fun q => ?_) (fun q => ?_)
    · rw [if_pos q]
      repeat' (first | refine WK_go ?_ | refine W_seqL ?_ | refine W_seq ?_ | refine W_block ?_ | refine W_scp ?_ | ((first | refine W_regL ?_ | refine W_skip ?_ | refine W_exit ?_); simp (maxSteps := 400000) (disch := omega) only [push_cast, ↓reduceIte, reduceCtorEq, Nat.reduceAdd, Nat.reduceSub, Nat.reduceEqDiff, Nat.reduceLeDiff, Nat.reduceLT, Nat.reduceBEq, Nat.reduceDiv, Nat.reduceMod, Nat.reducePow, Nat.reduceMul, Int.reduceToNat, Int.reduceLT, Int.reduceLE]) | refine And.intro (by omega) ?_ | refine And.intro (by intro hq; (try simp only [Bool.and_eq_true, Bool.or_eq_true, Bool.and_eq_false_iff, Bool.or_eq_false_iff, decide_eq_true_eq, decide_eq_false_iff_not, Bool.not_eq_true', Bool.not_eq_false', beq_iff_eq, beq_eq_false_iff_ne, ne_eq] at hq); omega) ?_ | fail)
      exact W_ret ⟨[_], ⟨rfl, rfl⟩, rfl⟩
    · rw [if_neg q]
      repeat' (first | refine WK_go ?_ | refine W_seqL ?_ | refine W_seq ?_ | refine W_block ?_ | refine W_scp ?_ | ((first | refine W_regL ?_ | refine W_skip ?_ | refine W_exit ?_); simp (maxSteps := 400000) (disch := omega) only [push_cast, ↓reduceIte, reduceCtorEq, Nat.reduceAdd, Nat.reduceSub, Nat.reduceEqDiff, Nat.reduceLeDiff, Nat.reduceLT, Nat.reduceBEq, Nat.reduceDiv, Nat.reduceMod, Nat.reducePow, Nat.reduceMul, Int.reduceToNat, Int.reduceLT, Int.reduceLE]) | refine And.intro (by omega) ?_ | refine And.intro (by intro hq; (try simp only [Bool.and_eq_true, Bool.or_eq_true, Bool.and_eq_false_iff, Bool.or_eq_false_iff, decide_eq_true_eq, decide_eq_false_iff_not, Bool.not_eq_true', Bool.not_eq_false', beq_iff_eq, beq_eq_false_iff_ne, ne_eq] at hq); omega) ?_ | fail)
      exact W_ret ⟨[_], ⟨rfl, rfl⟩, rfl⟩
def arT (m : Mp) (l : List Int) (t : Int) : Int := l.foldl (fun t x => lvT (gr m x.toNat) t) t
def cnB (m : Mp) (l : List Int) (i : Nat) : Bool := decide (i = 0) || (gr m (gi l i).toNat).f == (gr m (gi l (i - 1)).toNat).t
def cnA (m : Mp) (l : List Int) : Bool := (List.range l.length).all (cnB m l)
def arE (m : Mp) (l : List Int) (t : Int) : Int := if chkM m = 0 then (if rdE m l = 0 then (if inR t 0 1099511627776 = true then (if cnA m l = true then 0 else 16) else 3) else rdE m l) else chkM m
def arV (m : Mp) (l : List Int) (t : Int) : Int := if arE m l t = 0 then arT m l t else 0
theorem arT_snoc (m : Mp) (l : List Int) (x t : Int) : arT m (l ++ [x]) t = lvT (gr m x.toNat) (arT m l t) := by
  unfold arT; rw [List.foldl_append]; rfl
theorem take_snoc {l : List Int} {i : Nat} (h : i < l.length) : l.take (i + 1) = l.take i ++ [gi l i] := by
  rw [List.take_succ_eq_append_getElem h]
  simp [gi, List.getD, h]
theorem rdE_ok {m : Mp} {l : List Int} (h : rdE m l = 0) : l.length ≤ 256 ∧ ∀ i, i < l.length → 0 ≤ gi l i ∧ gi l i < m.rs.length := by
  unfold rdE at h
  by_cases q : 256 < l.length
  · rw [if_pos q] at h; omega
  · rw [if_neg q] at h
    by_cases q2 : (l.any fun x => !plB m.rs.length x) = true
    · rw [if_pos q2] at h; omega
    · refine ⟨by omega, fun i hi => ?_⟩
      rw [List.any_eq_true] at q2
      have h1 : gi l i ∈ l := getD_mem 0 l i hi
      have h2 : ¬ (!plB m.rs.length (gi l i)) = true := fun z => q2 ⟨_, h1, z⟩
      unfold plB at h2
      simp only [Bool.not_eq_true', Bool.not_eq_false, Bool.and_eq_true, decide_eq_true_eq] at h2
      exact h2
theorem cnA_yes {m : Mp} {l : List Int} (h : ∀ i, i < l.length → cnB m l i = true) : cnA m l = true := by
  unfold cnA; rw [List.all_eq_true]; intro i hi; exact h i (List.mem_range.1 hi)
theorem cnA_no {m : Mp} {l : List Int} {i : Nat} (hi : i < l.length) (h : cnB m l i = false) : cnA m l = false := by
  unfold cnA
  rw [← Bool.not_eq_true, List.all_eq_true]
  intro q
  have := q i (List.mem_range.2 hi)
  rw [h] at this; cases this
theorem arT_rng {m : Mp} (h : OkM m) : ∀ (l : List Int) (t : Int), 0 ≤ t → (∀ x ∈ l, 0 ≤ x ∧ x < m.rs.length) → t ≤ arT m l t ∧ arT m l t ≤ t + 4320 * l.length
  | [], t, ht, _ => by simp [arT]
  | x :: l, t, ht, hx => by
    have h1 := hx x List.mem_cons_self
    have h2 := lvT_rng (roadB_ok (h.r x.toNat (by omega))) t ht
    have h3 := arT_rng h l (lvT (gr m x.toNat) t) (by omega) (fun y hy => hx y (List.mem_cons_of_mem _ hy))
    have e : arT m (x :: l) t = arT m l (lvT (gr m x.toNat) t) := rfl
    rw [e]
    simp only [List.length_cons]
    omega
theorem fn34 (m : Mp) (l : List Int) (t : Int) (hm : Gm m) (hl : l.length ≤ 1000000) : Sy.Fn Try.prog 34 [aM m, aI l, iv t] (.tup [iv (arV m l t), iv (arE m l t)]) := by
  refine Fn_of_W mixed Xt34 rfl ?_
  have c27 := fn27 m hm
  have c68 := fn68 m l hl
  by_cases h0 : chkM m = 0
  rotate_left
  · have e1 : arE m l t = chkM m := by unfold arE; rw [if_neg h0]
    have e2 : arV m l t = 0 := by unfold arV; rw [e1, if_neg h0]
    rw [e1, e2]
    generalize chkM m = e at *
    repeat' (first | refine WK_go ?_ | refine W_seqL ?_ | refine W_seq ?_ | refine W_block ?_ | refine W_scp ?_ | ((first | refine W_regL ?_ | refine W_skip ?_ | refine W_exit ?_ | refine CallC.now (c27) ?_); simp (maxSteps := 400000) (disch := omega) only [push_cast, ↓reduceIte, reduceCtorEq, Nat.reduceAdd, Nat.reduceSub, Nat.reduceEqDiff, Nat.reduceLeDiff, Nat.reduceLT, Nat.reduceBEq, Nat.reduceDiv, Nat.reduceMod, Nat.reducePow, Nat.reduceMul, Int.reduceToNat, Int.reduceLT, Int.reduceLE]) | refine And.intro (by omega) ?_ | refine And.intro (by intro hq; (try simp only [Bool.and_eq_true, Bool.or_eq_true, Bool.and_eq_false_iff, Bool.or_eq_false_iff, decide_eq_true_eq, decide_eq_false_iff_not, Bool.not_eq_true', Bool.not_eq_false', beq_iff_eq, beq_eq_false_iff_ne, ne_eq] at hq); omega) ?_ | fail)
    refine W_cond (by rfl) (fun h => ?_) (fun h => ?_)
    · repeat' (first | refine WK_go ?_ | refine W_seqL ?_ | refine W_seq ?_ | refine W_block ?_ | refine W_scp ?_ | ((first | refine W_regL ?_ | refine W_skip ?_ | refine W_exit ?_); simp (maxSteps := 400000) (disch := omega) only [push_cast, ↓reduceIte, reduceCtorEq, Nat.reduceAdd, Nat.reduceSub, Nat.reduceEqDiff, Nat.reduceLeDiff, Nat.reduceLT, Nat.reduceBEq, Nat.reduceDiv, Nat.reduceMod, Nat.reducePow, Nat.reduceMul, Int.reduceToNat, Int.reduceLT, Int.reduceLE]) | refine And.intro (by omega) ?_ | refine And.intro (by intro hq; (try simp only [Bool.and_eq_true, Bool.or_eq_true, Bool.and_eq_false_iff, Bool.or_eq_false_iff, decide_eq_true_eq, decide_eq_false_iff_not, Bool.not_eq_true', Bool.not_eq_false', beq_iff_eq, beq_eq_false_iff_ne, ne_eq] at hq); omega) ?_ | fail)
      exact W_ret ⟨[_, _], ⟨rfl, rfl, rfl⟩, rfl⟩
    · exact absurd (by simpa using h) h0
  have hok := chkM_ok h0
  rw [h0] at c27
  repeat' (first | refine WK_go ?_ | refine W_seqL ?_ | refine W_seq ?_ | refine W_block ?_ | refine W_scp ?_ | ((first | refine W_regL ?_ | refine W_skip ?_ | refine W_exit ?_ | refine CallC.now (c27) ?_); simp (maxSteps := 400000) (disch := omega) only [push_cast, ↓reduceIte, reduceCtorEq, Nat.reduceAdd, Nat.reduceSub, Nat.reduceEqDiff, Nat.reduceLeDiff, Nat.reduceLT, Nat.reduceBEq, Nat.reduceDiv, Nat.reduceMod, Nat.reducePow, Nat.reduceMul, Int.reduceToNat, Int.reduceLT, Int.reduceLE]) | refine And.intro (by omega) ?_ | refine And.intro (by intro hq; (try simp only [Bool.and_eq_true, Bool.or_eq_true, Bool.and_eq_false_iff, Bool.or_eq_false_iff, decide_eq_true_eq, decide_eq_false_iff_not, Bool.not_eq_true', Bool.not_eq_false', beq_iff_eq, beq_eq_false_iff_ne, ne_eq] at hq); omega) ?_ | fail)
  refine W_cond (by rfl) (fun h => by cases h) (fun _ => ?_)
  by_cases h1 : rdE m l = 0
  rotate_left
  · have e1 : arE m l t = rdE m l := by unfold arE; rw [if_pos h0, if_neg h1]
    have e2 : arV m l t = 0 := by unfold arV; rw [e1, if_neg h1]
    rw [e1, e2]
    generalize rdE m l = e at *
    repeat' (first | refine WK_go ?_ | refine W_seqL ?_ | refine W_seq ?_ | refine W_block ?_ | refine W_scp ?_ | ((first | refine W_regL ?_ | refine W_skip ?_ | refine W_exit ?_ | refine CallC.now (c68) ?_); simp (maxSteps := 400000) (disch := omega) only [push_cast, ↓reduceIte, reduceCtorEq, Nat.reduceAdd, Nat.reduceSub, Nat.reduceEqDiff, Nat.reduceLeDiff, Nat.reduceLT, Nat.reduceBEq, Nat.reduceDiv, Nat.reduceMod, Nat.reducePow, Nat.reduceMul, Int.reduceToNat, Int.reduceLT, Int.reduceLE]) | refine And.intro (by omega) ?_ | refine And.intro (by intro hq; (try simp only [Bool.and_eq_true, Bool.or_eq_true, Bool.and_eq_false_iff, Bool.or_eq_false_iff, decide_eq_true_eq, decide_eq_false_iff_not, Bool.not_eq_true', Bool.not_eq_false', beq_iff_eq, beq_eq_false_iff_ne, ne_eq] at hq); omega) ?_ | fail)
    refine W_cond (by rfl) (fun h => ?_) (fun h => ?_)
    · repeat' (first | refine WK_go ?_ | refine W_seqL ?_ | refine W_seq ?_ | refine W_block ?_ | refine W_scp ?_ | ((first | refine W_regL ?_ | refine W_skip ?_ | refine W_exit ?_); simp (maxSteps := 400000) (disch := omega) only [push_cast, ↓reduceIte, reduceCtorEq, Nat.reduceAdd, Nat.reduceSub, Nat.reduceEqDiff, Nat.reduceLeDiff, Nat.reduceLT, Nat.reduceBEq, Nat.reduceDiv, Nat.reduceMod, Nat.reducePow, Nat.reduceMul, Int.reduceToNat, Int.reduceLT, Int.reduceLE]) | refine And.intro (by omega) ?_ | refine And.intro (by intro hq; (try simp only [Bool.and_eq_true, Bool.or_eq_true, Bool.and_eq_false_iff, Bool.or_eq_false_iff, decide_eq_true_eq, decide_eq_false_iff_not, Bool.not_eq_true', Bool.not_eq_false', beq_iff_eq, beq_eq_false_iff_ne, ne_eq] at hq); omega) ?_ | fail)
      exact W_ret ⟨[_, _], ⟨rfl, rfl, rfl⟩, rfl⟩
    · exact absurd (by simpa using h) h1
  obtain ⟨hl2, hlr⟩ := rdE_ok h1
  rw [h1] at c68
  repeat' (first | refine WK_go ?_ | refine W_seqL ?_ | refine W_seq ?_ | refine W_block ?_ | refine W_scp ?_ | ((first | refine W_regL ?_ | refine W_skip ?_ | refine W_exit ?_ | refine CallC.now (c68) ?_); simp (maxSteps := 400000) (disch := omega) only [push_cast, ↓reduceIte, reduceCtorEq, Nat.reduceAdd, Nat.reduceSub, Nat.reduceEqDiff, Nat.reduceLeDiff, Nat.reduceLT, Nat.reduceBEq, Nat.reduceDiv, Nat.reduceMod, Nat.reducePow, Nat.reduceMul, Int.reduceToNat, Int.reduceLT, Int.reduceLE]) | refine And.intro (by omega) ?_ | refine And.intro (by intro hq; (try simp only [Bool.and_eq_true, Bool.or_eq_true, Bool.and_eq_false_iff, Bool.or_eq_false_iff, decide_eq_true_eq, decide_eq_false_iff_not, Bool.not_eq_true', Bool.not_eq_false', beq_iff_eq, beq_eq_false_iff_ne, ne_eq] at hq); omega) ?_ | fail)
  refine W_cond (by rfl) (fun h => by cases h) (fun _ => ?_)
  have e1 : arE m l t = if inR t 0 1099511627776 = true then (if cnA m l = true then 0 else 16) else 3 := by unfold arE; rw [if_pos h0, if_pos h1]
  repeat' (first | refine WK_go ?_ | refine W_seqL ?_ | refine W_seq ?_ | refine W_block ?_ | refine W_scp ?_ | ((first | refine W_regL ?_ | refine W_skip ?_ | refine W_exit ?_ | refine CallC.now (fn85 _ _ _) ?_); simp (maxSteps := 400000) (disch := omega) only [push_cast, ↓reduceIte, reduceCtorEq, Nat.reduceAdd, Nat.reduceSub, Nat.reduceEqDiff, Nat.reduceLeDiff, Nat.reduceLT, Nat.reduceBEq, Nat.reduceDiv, Nat.reduceMod, Nat.reducePow, Nat.reduceMul, Int.reduceToNat, Int.reduceLT, Int.reduceLE]) | refine And.intro (by omega) ?_ | refine And.intro (by intro hq; (try simp only [Bool.and_eq_true, Bool.or_eq_true, Bool.and_eq_false_iff, Bool.or_eq_false_iff, decide_eq_true_eq, decide_eq_false_iff_not, Bool.not_eq_true', Bool.not_eq_false', beq_iff_eq, beq_eq_false_iff_ne, ne_eq] at hq); omega) ?_ | fail)
  refine W_cond (by rfl) (fun h => ?_) (fun h => ?_)
  · have h : inR t 0 1099511627776 = false := by simpa using h
    rw [h] at e1
    have e2 : arV m l t = 0 := by unfold arV; rw [e1]; rfl
    rw [e1, e2]
    repeat' (first | refine WK_go ?_ | refine W_seqL ?_ | refine W_seq ?_ | refine W_block ?_ | refine W_scp ?_ | ((first | refine W_regL ?_ | refine W_skip ?_ | refine W_exit ?_); simp (maxSteps := 400000) (disch := omega) only [push_cast, ↓reduceIte, reduceCtorEq, Nat.reduceAdd, Nat.reduceSub, Nat.reduceEqDiff, Nat.reduceLeDiff, Nat.reduceLT, Nat.reduceBEq, Nat.reduceDiv, Nat.reduceMod, Nat.reducePow, Nat.reduceMul, Int.reduceToNat, Int.reduceLT, Int.reduceLE]) | refine And.intro (by omega) ?_ | refine And.intro (by intro hq; (try simp only [Bool.and_eq_true, Bool.or_eq_true, Bool.and_eq_false_iff, Bool.or_eq_false_iff, decide_eq_true_eq, decide_eq_false_iff_not, Bool.not_eq_true', Bool.not_eq_false', beq_iff_eq, beq_eq_false_iff_ne, ne_eq] at hq); omega) ?_ | fail)
    exact W_ret ⟨[_, _], ⟨rfl, rfl, rfl⟩, rfl⟩
  have h : inR t 0 1099511627776 = true := by simpa using h
  rw [if_pos h] at e1
  have ht := inR_iff.1 h
  repeat' (first | refine WK_go ?_ | refine W_seqL ?_ | refine W_seq ?_ | refine W_block ?_ | refine W_scp ?_ | ((first | refine W_regL ?_ | refine W_skip ?_ | refine W_exit ?_); simp (maxSteps := 400000) (disch := omega) only [push_cast, ↓reduceIte, reduceCtorEq, Nat.reduceAdd, Nat.reduceSub, Nat.reduceEqDiff, Nat.reduceLeDiff, Nat.reduceLT, Nat.reduceBEq, Nat.reduceDiv, Nat.reduceMod, Nat.reducePow, Nat.reduceMul, Int.reduceToNat, Int.reduceLT, Int.reduceLE]) | refine And.intro (by omega) ?_ | refine And.intro (by intro hq; (try simp only [Bool.and_eq_true, Bool.or_eq_true, Bool.and_eq_false_iff, Bool.or_eq_false_iff, decide_eq_true_eq, decide_eq_false_iff_not, Bool.not_eq_true', Bool.not_eq_false', beq_iff_eq, beq_eq_false_iff_ne, ne_eq] at hq); omega) ?_ | fail)
  refine W_loopU (fun i : Nat => [(10, iv (arT m (l.take i) t)), (30, iv i)]) (fun i => []) (fun i => i ≤ l.length ∧ ∀ j, j < i → cnB m l j = true) (fun i => l.length - i) 0 ⟨by omega, fun j hj => by omega⟩ (by rfl) (by rfl) (fun i hi => ?_)
  obtain ⟨hi, hall⟩ := hi
  simp (maxSteps := 400000) (disch := omega) only [push_cast, ↓reduceIte, reduceCtorEq, Nat.reduceAdd, Nat.reduceSub, Nat.reduceEqDiff, Nat.reduceLeDiff, Nat.reduceLT, Nat.reduceBEq, Nat.reduceDiv, Nat.reduceMod, Nat.reducePow, Nat.reduceMul, Int.reduceToNat, Int.reduceLT, Int.reduceLE]
  repeat' (first | refine WK_go ?_ | refine W_seqL ?_ | refine W_seq ?_ | refine W_block ?_ | refine W_scp ?_ | ((first | refine W_regL ?_ | refine W_skip ?_ | refine W_exit ?_); simp (maxSteps := 400000) (disch := omega) only [push_cast, ↓reduceIte, reduceCtorEq, Nat.reduceAdd, Nat.reduceSub, Nat.reduceEqDiff, Nat.reduceLeDiff, Nat.reduceLT, Nat.reduceBEq, Nat.reduceDiv, Nat.reduceMod, Nat.reducePow, Nat.reduceMul, Int.reduceToNat, Int.reduceLT, Int.reduceLE]) | refine And.intro (by omega) ?_ | refine And.intro (by intro hq; (try simp only [Bool.and_eq_true, Bool.or_eq_true, Bool.and_eq_false_iff, Bool.or_eq_false_iff, decide_eq_true_eq, decide_eq_false_iff_not, Bool.not_eq_true', Bool.not_eq_false', beq_iff_eq, beq_eq_false_iff_ne, ne_eq] at hq); omega) ?_ | fail)
  refine W_condD (by rfl) (fun h5 => ?_) (fun h5 => ?_)
  · have hlt : i < l.length := by omega
    have gI : ∀ (l : List Int) i, l.getD i 0 = gi l i := fun _ _ => rfl
    have gR : ∀ i, m.rs.getD i dR = gr m i := fun _ => rfl
    have b1 := hlr i hlt
    have b2 := hlr (i - 1) (by omega)
    have e3 : ((i : Int) - 1).toNat = i - 1 := by omega
    have ecn : cnB m l i = (decide (i = 0) || (gr m (gi l i).toNat).f == (gr m (gi l (i - 1)).toNat).t) := rfl
    have hat := arT_rng hok (l.take i) t (by omega) (fun x hx => by
      obtain ⟨j, hj, rfl⟩ := List.mem_iff_getElem.1 (List.mem_of_mem_take hx)
      have := hlr j hj
      simpa [gi, List.getD, hj] using this)
    have htl : (l.take i).length = i := by rw [List.length_take]; omega
    rw [htl] at hat
    have hsn : arT m (l.take (i + 1)) t = lvT (gr m (gi l i).toNat) (arT m (l.take i) t) := by rw [take_snoc hlt, arT_snoc]
    have c93 := fn93 m.n (gr m (gi l i).toNat) (arT m (l.take i) t) (roadB_ok (hok.r _ (by omega))) (by omega)
    generalize arT m (l.take i) t = T at *
    repeat' (first | refine WK_go ?_ | refine W_seqL ?_ | refine W_seq ?_ | refine W_block ?_ | refine W_scp ?_ | ((first | refine W_regL ?_ | refine W_skip ?_ | refine W_exit ?_); simp (maxSteps := 400000) (disch := omega) only [push_cast, ↓reduceIte, reduceCtorEq, Nat.reduceAdd, Nat.reduceSub, Nat.reduceEqDiff, Nat.reduceLeDiff, Nat.reduceLT, Nat.reduceBEq, Nat.reduceDiv, Nat.reduceMod, Nat.reducePow, Nat.reduceMul, Int.reduceToNat, Int.reduceLT, Int.reduceLE, gI, gR, e3]) | refine And.intro (by omega) ?_ | refine And.intro (by intro hq; (try simp only [Bool.and_eq_true, Bool.or_eq_true, Bool.and_eq_false_iff, Bool.or_eq_false_iff, decide_eq_true_eq, decide_eq_false_iff_not, Bool.not_eq_true', Bool.not_eq_false', beq_iff_eq, beq_eq_false_iff_ne, ne_eq] at hq); omega) ?_ | fail)
    refine W_cond (by rfl) (fun hb => ?_) (fun hb => ?_)
    · have hz : cnB m l i = false := by
        rw [ecn, Bool.or_eq_false_iff, decide_eq_false_iff_not, beq_eq_false_iff_ne]
        rw [Bool.and_eq_true, decide_eq_true_eq, bne_iff_ne] at hb
        exact ⟨by omega, hb.2⟩
      rw [cnA_no hlt hz] at e1
      have e2 : arV m l t = 0 := by unfold arV; rw [e1]; rfl
      rw [e1, e2]
      repeat' (first | refine WK_go ?_ | refine W_seqL ?_ | refine W_seq ?_ | refine W_block ?_ | refine W_scp ?_ | ((first | refine W_regL ?_ | refine W_skip ?_ | refine W_exit ?_); simp (maxSteps := 400000) (disch := omega) only [push_cast, ↓reduceIte, reduceCtorEq, Nat.reduceAdd, Nat.reduceSub, Nat.reduceEqDiff, Nat.reduceLeDiff, Nat.reduceLT, Nat.reduceBEq, Nat.reduceDiv, Nat.reduceMod, Nat.reducePow, Nat.reduceMul, Int.reduceToNat, Int.reduceLT, Int.reduceLE]) | refine And.intro (by omega) ?_ | refine And.intro (by intro hq; (try simp only [Bool.and_eq_true, Bool.or_eq_true, Bool.and_eq_false_iff, Bool.or_eq_false_iff, decide_eq_true_eq, decide_eq_false_iff_not, Bool.not_eq_true', Bool.not_eq_false', beq_iff_eq, beq_eq_false_iff_ne, ne_eq] at hq); omega) ?_ | fail)
      exact W_ret ⟨[_, _], ⟨rfl, rfl, rfl⟩, rfl⟩
    · have hz : cnB m l i = true := by
        rw [ecn, Bool.or_eq_true, decide_eq_true_eq, beq_iff_eq]
        rw [Bool.and_eq_false_iff, decide_eq_false_iff_not, bne_eq_false_iff_eq] at hb
        rcases hb with hb | hb
        · left; omega
        · exact .inr hb
      repeat' (first | refine WK_go ?_ | refine W_seqL ?_ | refine W_seq ?_ | refine W_block ?_ | refine W_scp ?_ | ((first | refine W_regL ?_ | refine W_skip ?_ | refine W_exit ?_ | refine CallC.now (c93) ?_); simp (maxSteps := 400000) (disch := omega) only [push_cast, ↓reduceIte, reduceCtorEq, Nat.reduceAdd, Nat.reduceSub, Nat.reduceEqDiff, Nat.reduceLeDiff, Nat.reduceLT, Nat.reduceBEq, Nat.reduceDiv, Nat.reduceMod, Nat.reducePow, Nat.reduceMul, Int.reduceToNat, Int.reduceLT, Int.reduceLE, gI, gR]) | refine And.intro (by omega) ?_ | refine And.intro (by intro hq; (try simp only [Bool.and_eq_true, Bool.or_eq_true, Bool.and_eq_false_iff, Bool.or_eq_false_iff, decide_eq_true_eq, decide_eq_false_iff_not, Bool.not_eq_true', Bool.not_eq_false', beq_iff_eq, beq_eq_false_iff_ne, ne_eq] at hq); omega) ?_ | fail)
      refine ⟨i + 1, ⟨by omega, up_all hall hz⟩, by omega, by rfl, ?_⟩
      rw [hsn]
      simp (maxSteps := 400000) (disch := omega) only [push_cast, ↓reduceIte, reduceCtorEq, Nat.reduceAdd, Nat.reduceSub, Nat.reduceEqDiff, Nat.reduceLeDiff, Nat.reduceLT, Nat.reduceBEq, Nat.reduceDiv, Nat.reduceMod, Nat.reducePow, Nat.reduceMul, Int.reduceToNat, Int.reduceLT, Int.reduceLE, S.mk.injEq, List.cons.injEq, Prod.mk.injEq, AV.v.injEq, Value.int.injEq, Value.bool.injEq, Blk.cells.injEq]
  · have hil : i = l.length := by omega
    subst hil
    rw [cnA_yes hall] at e1
    have e2 : arV m l t = arT m l t := by unfold arV; rw [e1]; rfl
    rw [e1, e2, List.take_length]
    repeat' (first | refine WK_go ?_ | refine W_seqL ?_ | refine W_seq ?_ | refine W_block ?_ | refine W_scp ?_ | ((first | refine W_regL ?_ | refine W_skip ?_ | refine W_exit ?_); simp (maxSteps := 400000) (disch := omega) only [push_cast, ↓reduceIte, reduceCtorEq, Nat.reduceAdd, Nat.reduceSub, Nat.reduceEqDiff, Nat.reduceLeDiff, Nat.reduceLT, Nat.reduceBEq, Nat.reduceDiv, Nat.reduceMod, Nat.reducePow, Nat.reduceMul, Int.reduceToNat, Int.reduceLT, Int.reduceLE]) | refine And.intro (by omega) ?_ | refine And.intro (by intro hq; (try simp only [Bool.and_eq_true, Bool.or_eq_true, Bool.and_eq_false_iff, Bool.or_eq_false_iff, decide_eq_true_eq, decide_eq_false_iff_not, Bool.not_eq_true', Bool.not_eq_false', beq_iff_eq, beq_eq_false_iff_ne, ne_eq] at hq); omega) ?_ | fail)
    exact W_ret ⟨[_, _], ⟨rfl, rfl, rfl⟩, rfl⟩
end Go.Proofs.Ytfbdlmenhoagmaa

namespace Go.Proofs.Ytfbdlmenhoagmaa
open Go Sy
set_option maxRecDepth 100000
set_option maxHeartbeats 4000000
set_option linter.unusedVariables false
set_option linter.unusedSimpArgs false
def exR (a b c : Int) (s : Bool) : Rd := if s = true then ⟨a, b, c, 60, 480, 600, 5000, 5000, 5000, 5000, 5000, 5000⟩ else ⟨a, b, c, 0, 0, 0, 0, 0, 0, 0, 0, 0⟩
def exL (i : Nat) : List Rd := [exR 0 1 10 (decide (0 < i)), exR 1 2 10 (decide (1 < i)), exR 0 2 15 (decide (2 < i))]
def exM : Mp := ⟨3, [⟨0, 1, 10, 60, 480, 600, 5000, 5000, 5000, 5000, 5000, 5000⟩, ⟨1, 2, 10, 60, 480, 600, 5000, 3000, 5000, 5000, 5000, 5000⟩, ⟨0, 2, 15, 60, 480, 600, 5000, 2000, 5000, 5000, 5000, 5000⟩], [⟨[1], 1, 4000, 4⟩, ⟨[2], 1, 4000, 12⟩]⟩
def exV (a b c : Int) (j : Nat) : Rd := ⟨a, b, c, if 1 ≤ j then 60 else 0, if 2 ≤ j then 480 else 0, if 3 ≤ j then 600 else 0, if 4 ≤ j then 5000 else 0, if 4 ≤ j then 5000 else 0, if 4 ≤ j then 5000 else 0, if 4 ≤ j then 5000 else 0, if 4 ≤ j then 5000 else 0, if 4 ≤ j then 5000 else 0⟩
def exW (i j : Nat) : Rd := match i with
  | 0 => exV 0 1 10 j
  | 1 => exV 1 2 10 j
  | _ => exV 0 2 15 j
def exK (i j : Nat) : List Rd := (exL i).set i (exW i j)
theorem exK_len (i j : Nat) : (exK i j).length = 3 := by simp [exK]; rfl
theorem exK_set (i j k : Nat) : (exK i j).set i (exW i k) = exK i k := by simp [exK]
theorem exK_0 (i : Nat) (h : i = 0 ∨ i = 1 ∨ i = 2) : exL i = exK i 0 := by rcases h with rfl | rfl | rfl <;> rfl
theorem exK_4 (i : Nat) (h : i = 0 ∨ i = 1 ∨ i = 2) : exK i 4 = exL (i + 1) := by rcases h with rfl | rfl | rfl <;> rfl
def slt (b : Bool) (x : AV) : AV := if b = true then x else .bad
theorem slt_t (x : AV) : slt true x = x := rfl
theorem le_stK {s s' : S} (ks : List Nat) (nx : Nat) (h : ∀ j, nx ≤ j → lm s.mem j = none) (he : (⟨keepL s.tm ks, s.mem, nx⟩ : S) = s') : le s s' := he ▸ le_keepL ks nx h
def exQ (b c : Bool) : List Rd := [⟨0, 1, 10, 60, 480, 600, 5000, 5000, 5000, 5000, 5000, 5000⟩, ⟨1, 2, 10, 60, 480, 600, 5000, if b = true then 3000 else 5000, 5000, 5000, 5000, 5000⟩, ⟨0, 2, 15, 60, 480, 600, 5000, if c = true then 2000 else 5000, 5000, 5000, 5000, 5000⟩]
theorem exQ_len (b c : Bool) : (exQ b c).length = 3 := rfl
def exS (D : Nat → Bool) : S := ⟨[(0, .own 0 0), (2, .own 9 0), (35, slt (D 0) (.own 9 1)), (36, slt (D 1) (.row 7 0)), (37, slt (D 2) (.own 9 1)), (38, slt (D 3) (.row 7 0)), (39, slt (D 4) (.roff 7 0 12 1 0)), (40, slt (D 5) (.roff 7 0 12 1 6)), (41, slt (D 6) (.roff 7 0 12 1 7)), (42, slt (D 8) (.roff 7 0 12 2 0)), (43, slt (D 9) (.roff 7 0 12 2 6)), (44, slt (D 10) (.roff 7 0 12 2 7))],
  [(0, .cells [iv 0, .v (.slice none 0 0), .v (.slice none 0 0)]), (2, .cells [iv 5000, iv 5000, iv 5000, iv 5000, iv 5000, iv 5000]), (7, .row 0 67 12 dR cR (exQ (D 7) (D 11))), (9, .cells [iv 3, .row 7 0, .v (.slice none 0 0)])], 30⟩
theorem fn51 : Sy.Fn Try.prog 51 [] (aM exM) := by
  refine Fn_of_W mixed Xt51 rfl ?_
  repeat' (first | refine WK_go ?_ | refine W_seqL ?_ | refine W_seq ?_ | refine W_block ?_ | refine W_scp ?_ | ((first | refine W_regL ?_ | refine W_skip ?_ | refine W_exit ?_); simp (maxSteps := 400000) (disch := omega) only [push_cast, ↓reduceIte, reduceCtorEq, Nat.reduceAdd, Nat.reduceSub, Nat.reduceEqDiff, Nat.reduceLeDiff, Nat.reduceLT, Nat.reduceBEq, Nat.reduceDiv, Nat.reduceMod, Nat.reducePow, Nat.reduceMul, Int.reduceToNat, Int.reduceLT, Int.reduceLE]) | refine And.intro (by omega) ?_ | refine And.intro (by intro hq; (try simp only [Bool.and_eq_true, Bool.or_eq_true, Bool.and_eq_false_iff, Bool.or_eq_false_iff, decide_eq_true_eq, decide_eq_false_iff_not, Bool.not_eq_true', Bool.not_eq_false', beq_iff_eq, beq_eq_false_iff_ne, ne_eq] at hq); omega) ?_ | fail)
  refine ⟨rfl, trivial, Rd, dR, cR, exL 0, rfl, by omega, fun x _ => ⟨rfl, rfl⟩, rfl, ?_⟩
  simp (maxSteps := 400000) (disch := omega) only [push_cast, ↓reduceIte, reduceCtorEq, Nat.reduceAdd, Nat.reduceSub, Nat.reduceEqDiff, Nat.reduceLeDiff, Nat.reduceLT, Nat.reduceBEq, Nat.reduceDiv, Nat.reduceMod, Nat.reducePow, Nat.reduceMul, Int.reduceToNat, Int.reduceLT, Int.reduceLE]
  repeat' (first | refine WK_go ?_ | refine W_seqL ?_ | refine W_seq ?_ | refine W_block ?_ | refine W_scp ?_ | ((first | refine W_regL ?_ | refine W_skip ?_ | refine W_exit ?_); simp (maxSteps := 400000) (disch := omega) only [push_cast, ↓reduceIte, reduceCtorEq, Nat.reduceAdd, Nat.reduceSub, Nat.reduceEqDiff, Nat.reduceLeDiff, Nat.reduceLT, Nat.reduceBEq, Nat.reduceDiv, Nat.reduceMod, Nat.reducePow, Nat.reduceMul, Int.reduceToNat, Int.reduceLT, Int.reduceLE]) | refine And.intro (by omega) ?_ | refine And.intro (by intro hq; (try simp only [Bool.and_eq_true, Bool.or_eq_true, Bool.and_eq_false_iff, Bool.or_eq_false_iff, decide_eq_true_eq, decide_eq_false_iff_not, Bool.not_eq_true', Bool.not_eq_false', beq_iff_eq, beq_eq_false_iff_ne, ne_eq] at hq); omega) ?_ | fail)
  refine W_loopU (fun i : Nat => [(3, iv i)]) (fun i => [(7, .row 0 67 12 dR cR (exL i))]) (fun i => i ≤ 3) (fun i => 3 - i) 0 (by omega) (by rfl) (by rfl) (fun i hi => ?_)
  have hl : (exL i).length = 3 := rfl
  simp (maxSteps := 400000) (disch := omega) only [push_cast, ↓reduceIte, reduceCtorEq, Nat.reduceAdd, Nat.reduceSub, Nat.reduceEqDiff, Nat.reduceLeDiff, Nat.reduceLT, Nat.reduceBEq, Nat.reduceDiv, Nat.reduceMod, Nat.reducePow, Nat.reduceMul, Int.reduceToNat, Int.reduceLT, Int.reduceLE]
  repeat' (first | refine WK_go ?_ | refine W_seqL ?_ | refine W_seq ?_ | refine W_block ?_ | refine W_scp ?_ | ((first | refine W_regL ?_ | refine W_skip ?_ | refine W_exit ?_); simp (maxSteps := 400000) (disch := omega) only [push_cast, ↓reduceIte, reduceCtorEq, Nat.reduceAdd, Nat.reduceSub, Nat.reduceEqDiff, Nat.reduceLeDiff, Nat.reduceLT, Nat.reduceBEq, Nat.reduceDiv, Nat.reduceMod, Nat.reducePow, Nat.reduceMul, Int.reduceToNat, Int.reduceLT, Int.reduceLE]) | refine And.intro (by omega) ?_ | refine And.intro (by intro hq; (try simp only [Bool.and_eq_true, Bool.or_eq_true, Bool.and_eq_false_iff, Bool.or_eq_false_iff, decide_eq_true_eq, decide_eq_false_iff_not, Bool.not_eq_true', Bool.not_eq_false', beq_iff_eq, beq_eq_false_iff_ne, ne_eq] at hq); omega) ?_ | fail)
  refine W_condD (by rfl) (fun h5 => ?_) (fun h5 => ?_)
  · have h3 : i = 0 ∨ i = 1 ∨ i = 2 := by omega
    rw [exK_0 i h3]
    repeat' (first | refine WK_go ?_ | refine W_seqL ?_ | refine W_seq ?_ | refine W_block ?_ | refine W_scp ?_ | ((first | refine W_regL ?_ | refine W_skip ?_ | refine W_exit ?_); simp (maxSteps := 400000) (disch := omega) only [push_cast, ↓reduceIte, reduceCtorEq, Nat.reduceAdd, Nat.reduceSub, Nat.reduceEqDiff, Nat.reduceLeDiff, Nat.reduceLT, Nat.reduceBEq, Nat.reduceDiv, Nat.reduceMod, Nat.reducePow, Nat.reduceMul, Int.reduceToNat, Int.reduceLT, Int.reduceLE, exK_len]) | refine And.intro (by omega) ?_ | refine And.intro (by intro hq; (try simp only [Bool.and_eq_true, Bool.or_eq_true, Bool.and_eq_false_iff, Bool.or_eq_false_iff, decide_eq_true_eq, decide_eq_false_iff_not, Bool.not_eq_true', Bool.not_eq_false', beq_iff_eq, beq_eq_false_iff_ne, ne_eq] at hq); omega) ?_ | fail)
    refine ⟨rfl, ⟨Nat.le_of_ble_eq_true rfl, rfl⟩, by omega, exW i 1, by rcases h3 with rfl | rfl | rfl <;> rfl, rfl, ?_⟩
    rw [exK_set]
    simp (maxSteps := 400000) (disch := omega) only [push_cast, ↓reduceIte, reduceCtorEq, Nat.reduceAdd, Nat.reduceSub, Nat.reduceEqDiff, Nat.reduceLeDiff, Nat.reduceLT, Nat.reduceBEq, Nat.reduceDiv, Nat.reduceMod, Nat.reducePow, Nat.reduceMul, Int.reduceToNat, Int.reduceLT, Int.reduceLE, exK_len]
    refine ⟨by omega, ?_⟩
    refine ⟨rfl, ⟨Nat.le_of_ble_eq_true rfl, rfl⟩, by omega, exW i 2, by rcases h3 with rfl | rfl | rfl <;> rfl, rfl, ?_⟩
    rw [exK_set]
    simp (maxSteps := 400000) (disch := omega) only [push_cast, ↓reduceIte, reduceCtorEq, Nat.reduceAdd, Nat.reduceSub, Nat.reduceEqDiff, Nat.reduceLeDiff, Nat.reduceLT, Nat.reduceBEq, Nat.reduceDiv, Nat.reduceMod, Nat.reducePow, Nat.reduceMul, Int.reduceToNat, Int.reduceLT, Int.reduceLE, exK_len]
    refine ⟨by omega, ?_⟩
    refine ⟨rfl, ⟨Nat.le_of_ble_eq_true rfl, rfl⟩, by omega, exW i 3, by rcases h3 with rfl | rfl | rfl <;> rfl, rfl, ?_⟩
    rw [exK_set]
    simp (maxSteps := 400000) (disch := omega) only [push_cast, ↓reduceIte, reduceCtorEq, Nat.reduceAdd, Nat.reduceSub, Nat.reduceEqDiff, Nat.reduceLeDiff, Nat.reduceLT, Nat.reduceBEq, Nat.reduceDiv, Nat.reduceMod, Nat.reducePow, Nat.reduceMul, Int.reduceToNat, Int.reduceLT, Int.reduceLE, exK_len]
    refine ⟨by omega, ?_⟩
    refine ⟨rfl, ⟨Nat.le_of_ble_eq_true rfl, rfl⟩, by omega, exW i 4, by rcases h3 with rfl | rfl | rfl <;> rfl, rfl, ?_⟩
    rw [exK_set, exK_4 i h3]
    simp (maxSteps := 400000) (disch := omega) only [push_cast, ↓reduceIte, reduceCtorEq, Nat.reduceAdd, Nat.reduceSub, Nat.reduceEqDiff, Nat.reduceLeDiff, Nat.reduceLT, Nat.reduceBEq, Nat.reduceDiv, Nat.reduceMod, Nat.reducePow, Nat.reduceMul, Int.reduceToNat, Int.reduceLT, Int.reduceLE, exK_len]
    repeat' (first | refine WK_go ?_ | refine W_seqL ?_ | refine W_seq ?_ | refine W_block ?_ | refine W_scp ?_ | ((first | refine W_regL ?_ | refine W_skip ?_ | refine W_exit ?_); simp (maxSteps := 400000) (disch := omega) only [push_cast, ↓reduceIte, reduceCtorEq, Nat.reduceAdd, Nat.reduceSub, Nat.reduceEqDiff, Nat.reduceLeDiff, Nat.reduceLT, Nat.reduceBEq, Nat.reduceDiv, Nat.reduceMod, Nat.reducePow, Nat.reduceMul, Int.reduceToNat, Int.reduceLT, Int.reduceLE]) | refine And.intro (by omega) ?_ | refine And.intro (by intro hq; (try simp only [Bool.and_eq_true, Bool.or_eq_true, Bool.and_eq_false_iff, Bool.or_eq_false_iff, decide_eq_true_eq, decide_eq_false_iff_not, Bool.not_eq_true', Bool.not_eq_false', beq_iff_eq, beq_eq_false_iff_ne, ne_eq] at hq); omega) ?_ | fail)
    refine ⟨i + 1, by omega, by omega, by rfl, ?_⟩
    simp (maxSteps := 400000) (disch := omega) only [push_cast, ↓reduceIte, reduceCtorEq, Nat.reduceAdd, Nat.reduceSub, Nat.reduceEqDiff, Nat.reduceLeDiff, Nat.reduceLT, Nat.reduceBEq, Nat.reduceDiv, Nat.reduceMod, Nat.reducePow, Nat.reduceMul, Int.reduceToNat, Int.reduceLT, Int.reduceLE, S.mk.injEq, List.cons.injEq, Prod.mk.injEq, AV.v.injEq, Value.int.injEq, Value.bool.injEq, Blk.cells.injEq]
  · obtain rfl : i = 3 := by omega
    have hl : (exL 3).length = 3 := rfl
    refine W_exit ?_
    simp (maxSteps := 400000) (disch := omega) only [push_cast, ↓reduceIte, reduceCtorEq, Nat.reduceAdd, Nat.reduceSub, Nat.reduceEqDiff, Nat.reduceLeDiff, Nat.reduceLT, Nat.reduceBEq, Nat.reduceDiv, Nat.reduceMod, Nat.reducePow, Nat.reduceMul, Int.reduceToNat, Int.reduceLT, Int.reduceLE]
    repeat (first | refine WK_go ?_ | refine W_seqL ?_ | refine W_seq ?_)
    refine W_regI exS (le_stK [0, 2, 35, 36, 37, 38, 39, 40, 41, 42, 43, 44] 30 (fun j hj => by simp only [lm]; repeat rw [if_neg (by omega)]) (by rfl)) (fun D i ro m hro hms hD ha => ?_) (fun D hD => ?_)
    · have nn : ∀ (b c : Bool) (j : Nat), 30 ≤ j → lm [(0, .cells [iv 0, .v (.slice none 0 0), .v (.slice none 0 0)]), (2, .cells [iv 5000, iv 5000, iv 5000, iv 5000, iv 5000, iv 5000]), (7, .row 0 67 12 dR cR (exQ b c)), (9, .cells [iv 3, .row 7 0, .v (.slice none 0 0)])] j = none := fun b c j hj => by
        simp only [lm]; repeat rw [if_neg (by omega)]
      rcases i with _ | _ | _ | _ | _ | _ | _ | _ | _ | _ | _ | _ | i
      all_goals simp only [List.getElem?_cons_zero, List.getElem?_cons_succ, List.getElem?_nil, Option.some.injEq, reduceCtorEq] at hro hms
      all_goals subst hro
      all_goals subst hms
      · unfold exS
        simp (maxSteps := 400000) (disch := omega) only [push_cast, ↓reduceIte, reduceCtorEq, Nat.reduceAdd, Nat.reduceSub, Nat.reduceEqDiff, Nat.reduceLeDiff, Nat.reduceLT, Nat.reduceBEq, Nat.reduceDiv, Nat.reduceMod, Nat.reducePow, Nat.reduceMul, Int.reduceToNat, Int.reduceLT, Int.reduceLE, slt_t, exQ_len]
        first | exact le_stK [0, 2, 35, 36, 37, 38, 39, 40, 41, 42, 43, 44] 30 (fun j hj => nn (D 7) (D 11) j hj) (by rfl) | exact le_stK [0, 2, 35, 36, 37, 38, 39, 40, 41, 42, 43, 44] 30 (fun j hj => nn true (D 11) j hj) (by rfl) | exact le_stK [0, 2, 35, 36, 37, 38, 39, 40, 41, 42, 43, 44] 30 (fun j hj => nn (D 7) true j hj) (by rfl) | exact ⟨by decide, le_stK [0, 2, 35, 36, 37, 38, 39, 40, 41, 42, 43, 44] 30 (fun j hj => nn (D 7) (D 11) j hj) (by rfl)⟩ | trace_state
      · unfold exS
        have a0 := ha 0 (by unfold tb; decide)
        simp (maxSteps := 400000) (disch := omega) only [push_cast, ↓reduceIte, reduceCtorEq, Nat.reduceAdd, Nat.reduceSub, Nat.reduceEqDiff, Nat.reduceLeDiff, Nat.reduceLT, Nat.reduceBEq, Nat.reduceDiv, Nat.reduceMod, Nat.reducePow, Nat.reduceMul, Int.reduceToNat, Int.reduceLT, Int.reduceLE, slt_t, exQ_len, a0]
        first | exact le_stK [0, 2, 35, 36, 37, 38, 39, 40, 41, 42, 43, 44] 30 (fun j hj => nn (D 7) (D 11) j hj) (by rfl) | exact le_stK [0, 2, 35, 36, 37, 38, 39, 40, 41, 42, 43, 44] 30 (fun j hj => nn true (D 11) j hj) (by rfl) | exact le_stK [0, 2, 35, 36, 37, 38, 39, 40, 41, 42, 43, 44] 30 (fun j hj => nn (D 7) true j hj) (by rfl) | exact ⟨by decide, le_stK [0, 2, 35, 36, 37, 38, 39, 40, 41, 42, 43, 44] 30 (fun j hj => nn (D 7) (D 11) j hj) (by rfl)⟩ | trace_state
      · unfold exS
        simp (maxSteps := 400000) (disch := omega) only [push_cast, ↓reduceIte, reduceCtorEq, Nat.reduceAdd, Nat.reduceSub, Nat.reduceEqDiff, Nat.reduceLeDiff, Nat.reduceLT, Nat.reduceBEq, Nat.reduceDiv, Nat.reduceMod, Nat.reducePow, Nat.reduceMul, Int.reduceToNat, Int.reduceLT, Int.reduceLE, slt_t, exQ_len]
        first | exact le_stK [0, 2, 35, 36, 37, 38, 39, 40, 41, 42, 43, 44] 30 (fun j hj => nn (D 7) (D 11) j hj) (by rfl) | exact le_stK [0, 2, 35, 36, 37, 38, 39, 40, 41, 42, 43, 44] 30 (fun j hj => nn true (D 11) j hj) (by rfl) | exact le_stK [0, 2, 35, 36, 37, 38, 39, 40, 41, 42, 43, 44] 30 (fun j hj => nn (D 7) true j hj) (by rfl) | exact ⟨by decide, le_stK [0, 2, 35, 36, 37, 38, 39, 40, 41, 42, 43, 44] 30 (fun j hj => nn (D 7) (D 11) j hj) (by rfl)⟩ | trace_state
      · unfold exS
        have a0 := ha 2 (by unfold tb; decide)
        simp (maxSteps := 400000) (disch := omega) only [push_cast, ↓reduceIte, reduceCtorEq, Nat.reduceAdd, Nat.reduceSub, Nat.reduceEqDiff, Nat.reduceLeDiff, Nat.reduceLT, Nat.reduceBEq, Nat.reduceDiv, Nat.reduceMod, Nat.reducePow, Nat.reduceMul, Int.reduceToNat, Int.reduceLT, Int.reduceLE, slt_t, exQ_len, a0]
        first | exact le_stK [0, 2, 35, 36, 37, 38, 39, 40, 41, 42, 43, 44] 30 (fun j hj => nn (D 7) (D 11) j hj) (by rfl) | exact le_stK [0, 2, 35, 36, 37, 38, 39, 40, 41, 42, 43, 44] 30 (fun j hj => nn true (D 11) j hj) (by rfl) | exact le_stK [0, 2, 35, 36, 37, 38, 39, 40, 41, 42, 43, 44] 30 (fun j hj => nn (D 7) true j hj) (by rfl) | exact ⟨by decide, le_stK [0, 2, 35, 36, 37, 38, 39, 40, 41, 42, 43, 44] 30 (fun j hj => nn (D 7) (D 11) j hj) (by rfl)⟩ | trace_state
      · unfold exS
        have a0 := ha 1 (by unfold tb; decide)
        simp (maxSteps := 400000) (disch := omega) only [push_cast, ↓reduceIte, reduceCtorEq, Nat.reduceAdd, Nat.reduceSub, Nat.reduceEqDiff, Nat.reduceLeDiff, Nat.reduceLT, Nat.reduceBEq, Nat.reduceDiv, Nat.reduceMod, Nat.reducePow, Nat.reduceMul, Int.reduceToNat, Int.reduceLT, Int.reduceLE, slt_t, exQ_len, a0]
        first | exact le_stK [0, 2, 35, 36, 37, 38, 39, 40, 41, 42, 43, 44] 30 (fun j hj => nn (D 7) (D 11) j hj) (by rfl) | exact le_stK [0, 2, 35, 36, 37, 38, 39, 40, 41, 42, 43, 44] 30 (fun j hj => nn true (D 11) j hj) (by rfl) | exact le_stK [0, 2, 35, 36, 37, 38, 39, 40, 41, 42, 43, 44] 30 (fun j hj => nn (D 7) true j hj) (by rfl) | exact ⟨by decide, le_stK [0, 2, 35, 36, 37, 38, 39, 40, 41, 42, 43, 44] 30 (fun j hj => nn (D 7) (D 11) j hj) (by rfl)⟩ | trace_state
      · unfold exS
        have a0 := ha 4 (by unfold tb; decide)
        simp (maxSteps := 400000) (disch := omega) only [push_cast, ↓reduceIte, reduceCtorEq, Nat.reduceAdd, Nat.reduceSub, Nat.reduceEqDiff, Nat.reduceLeDiff, Nat.reduceLT, Nat.reduceBEq, Nat.reduceDiv, Nat.reduceMod, Nat.reducePow, Nat.reduceMul, Int.reduceToNat, Int.reduceLT, Int.reduceLE, slt_t, exQ_len, a0]
        first | exact le_stK [0, 2, 35, 36, 37, 38, 39, 40, 41, 42, 43, 44] 30 (fun j hj => nn (D 7) (D 11) j hj) (by rfl) | exact le_stK [0, 2, 35, 36, 37, 38, 39, 40, 41, 42, 43, 44] 30 (fun j hj => nn true (D 11) j hj) (by rfl) | exact le_stK [0, 2, 35, 36, 37, 38, 39, 40, 41, 42, 43, 44] 30 (fun j hj => nn (D 7) true j hj) (by rfl) | exact ⟨by decide, le_stK [0, 2, 35, 36, 37, 38, 39, 40, 41, 42, 43, 44] 30 (fun j hj => nn (D 7) (D 11) j hj) (by rfl)⟩ | trace_state
      · unfold exS
        have a0 := ha 5 (by unfold tb; decide)
        simp (maxSteps := 400000) (disch := omega) only [push_cast, ↓reduceIte, reduceCtorEq, Nat.reduceAdd, Nat.reduceSub, Nat.reduceEqDiff, Nat.reduceLeDiff, Nat.reduceLT, Nat.reduceBEq, Nat.reduceDiv, Nat.reduceMod, Nat.reducePow, Nat.reduceMul, Int.reduceToNat, Int.reduceLT, Int.reduceLE, slt_t, exQ_len, a0]
        first | exact le_stK [0, 2, 35, 36, 37, 38, 39, 40, 41, 42, 43, 44] 30 (fun j hj => nn (D 7) (D 11) j hj) (by rfl) | exact le_stK [0, 2, 35, 36, 37, 38, 39, 40, 41, 42, 43, 44] 30 (fun j hj => nn true (D 11) j hj) (by rfl) | exact le_stK [0, 2, 35, 36, 37, 38, 39, 40, 41, 42, 43, 44] 30 (fun j hj => nn (D 7) true j hj) (by rfl) | exact ⟨by decide, le_stK [0, 2, 35, 36, 37, 38, 39, 40, 41, 42, 43, 44] 30 (fun j hj => nn (D 7) (D 11) j hj) (by rfl)⟩ | trace_state
      · unfold exS
        have a0 := ha 6 (by unfold tb; decide)
        simp (maxSteps := 400000) (disch := omega) only [push_cast, ↓reduceIte, reduceCtorEq, Nat.reduceAdd, Nat.reduceSub, Nat.reduceEqDiff, Nat.reduceLeDiff, Nat.reduceLT, Nat.reduceBEq, Nat.reduceDiv, Nat.reduceMod, Nat.reducePow, Nat.reduceMul, Int.reduceToNat, Int.reduceLT, Int.reduceLE, slt_t, exQ_len, a0, hD]
        refine ⟨rfl, ⟨Nat.le_of_ble_eq_true rfl, rfl⟩, by decide, ⟨1, 2, 10, 60, 480, 600, 5000, 3000, 5000, 5000, 5000, 5000⟩, rfl, rfl, ?_⟩
        have e : (exQ false (D 11)).set 1 ⟨1, 2, 10, 60, 480, 600, 5000, 3000, 5000, 5000, 5000, 5000⟩ = exQ true (D 11) := rfl
        rw [e]
        simp (maxSteps := 400000) (disch := omega) only [push_cast, ↓reduceIte, reduceCtorEq, Nat.reduceAdd, Nat.reduceSub, Nat.reduceEqDiff, Nat.reduceLeDiff, Nat.reduceLT, Nat.reduceBEq, Nat.reduceDiv, Nat.reduceMod, Nat.reducePow, Nat.reduceMul, Int.reduceToNat, Int.reduceLT, Int.reduceLE, slt_t, exQ_len, a0]
        first | exact le_stK [0, 2, 35, 36, 37, 38, 39, 40, 41, 42, 43, 44] 30 (fun j hj => nn (D 7) (D 11) j hj) (by rfl) | exact le_stK [0, 2, 35, 36, 37, 38, 39, 40, 41, 42, 43, 44] 30 (fun j hj => nn true (D 11) j hj) (by rfl) | exact le_stK [0, 2, 35, 36, 37, 38, 39, 40, 41, 42, 43, 44] 30 (fun j hj => nn (D 7) true j hj) (by rfl) | exact ⟨by decide, le_stK [0, 2, 35, 36, 37, 38, 39, 40, 41, 42, 43, 44] 30 (fun j hj => nn (D 7) (D 11) j hj) (by rfl)⟩ | trace_state
      · unfold exS
        have a0 := ha 3 (by unfold tb; decide)
        simp (maxSteps := 400000) (disch := omega) only [push_cast, ↓reduceIte, reduceCtorEq, Nat.reduceAdd, Nat.reduceSub, Nat.reduceEqDiff, Nat.reduceLeDiff, Nat.reduceLT, Nat.reduceBEq, Nat.reduceDiv, Nat.reduceMod, Nat.reducePow, Nat.reduceMul, Int.reduceToNat, Int.reduceLT, Int.reduceLE, slt_t, exQ_len, a0]
        first | exact le_stK [0, 2, 35, 36, 37, 38, 39, 40, 41, 42, 43, 44] 30 (fun j hj => nn (D 7) (D 11) j hj) (by rfl) | exact le_stK [0, 2, 35, 36, 37, 38, 39, 40, 41, 42, 43, 44] 30 (fun j hj => nn true (D 11) j hj) (by rfl) | exact le_stK [0, 2, 35, 36, 37, 38, 39, 40, 41, 42, 43, 44] 30 (fun j hj => nn (D 7) true j hj) (by rfl) | exact ⟨by decide, le_stK [0, 2, 35, 36, 37, 38, 39, 40, 41, 42, 43, 44] 30 (fun j hj => nn (D 7) (D 11) j hj) (by rfl)⟩ | trace_state
      · unfold exS
        have a0 := ha 8 (by unfold tb; decide)
        simp (maxSteps := 400000) (disch := omega) only [push_cast, ↓reduceIte, reduceCtorEq, Nat.reduceAdd, Nat.reduceSub, Nat.reduceEqDiff, Nat.reduceLeDiff, Nat.reduceLT, Nat.reduceBEq, Nat.reduceDiv, Nat.reduceMod, Nat.reducePow, Nat.reduceMul, Int.reduceToNat, Int.reduceLT, Int.reduceLE, slt_t, exQ_len, a0]
        first | exact le_stK [0, 2, 35, 36, 37, 38, 39, 40, 41, 42, 43, 44] 30 (fun j hj => nn (D 7) (D 11) j hj) (by rfl) | exact le_stK [0, 2, 35, 36, 37, 38, 39, 40, 41, 42, 43, 44] 30 (fun j hj => nn true (D 11) j hj) (by rfl) | exact le_stK [0, 2, 35, 36, 37, 38, 39, 40, 41, 42, 43, 44] 30 (fun j hj => nn (D 7) true j hj) (by rfl) | exact ⟨by decide, le_stK [0, 2, 35, 36, 37, 38, 39, 40, 41, 42, 43, 44] 30 (fun j hj => nn (D 7) (D 11) j hj) (by rfl)⟩ | trace_state
      · unfold exS
        have a0 := ha 9 (by unfold tb; decide)
        simp (maxSteps := 400000) (disch := omega) only [push_cast, ↓reduceIte, reduceCtorEq, Nat.reduceAdd, Nat.reduceSub, Nat.reduceEqDiff, Nat.reduceLeDiff, Nat.reduceLT, Nat.reduceBEq, Nat.reduceDiv, Nat.reduceMod, Nat.reducePow, Nat.reduceMul, Int.reduceToNat, Int.reduceLT, Int.reduceLE, slt_t, exQ_len, a0]
        first | exact le_stK [0, 2, 35, 36, 37, 38, 39, 40, 41, 42, 43, 44] 30 (fun j hj => nn (D 7) (D 11) j hj) (by rfl) | exact le_stK [0, 2, 35, 36, 37, 38, 39, 40, 41, 42, 43, 44] 30 (fun j hj => nn true (D 11) j hj) (by rfl) | exact le_stK [0, 2, 35, 36, 37, 38, 39, 40, 41, 42, 43, 44] 30 (fun j hj => nn (D 7) true j hj) (by rfl) | exact ⟨by decide, le_stK [0, 2, 35, 36, 37, 38, 39, 40, 41, 42, 43, 44] 30 (fun j hj => nn (D 7) (D 11) j hj) (by rfl)⟩ | trace_state
      · unfold exS
        have a0 := ha 10 (by unfold tb; decide)
        simp (maxSteps := 400000) (disch := omega) only [push_cast, ↓reduceIte, reduceCtorEq, Nat.reduceAdd, Nat.reduceSub, Nat.reduceEqDiff, Nat.reduceLeDiff, Nat.reduceLT, Nat.reduceBEq, Nat.reduceDiv, Nat.reduceMod, Nat.reducePow, Nat.reduceMul, Int.reduceToNat, Int.reduceLT, Int.reduceLE, slt_t, exQ_len, a0, hD]
        refine ⟨rfl, ⟨Nat.le_of_ble_eq_true rfl, rfl⟩, by decide, ⟨0, 2, 15, 60, 480, 600, 5000, 2000, 5000, 5000, 5000, 5000⟩, rfl, rfl, ?_⟩
        have e : (exQ (D 7) false).set 2 ⟨0, 2, 15, 60, 480, 600, 5000, 2000, 5000, 5000, 5000, 5000⟩ = exQ (D 7) true := rfl
        rw [e]
        simp (maxSteps := 400000) (disch := omega) only [push_cast, ↓reduceIte, reduceCtorEq, Nat.reduceAdd, Nat.reduceSub, Nat.reduceEqDiff, Nat.reduceLeDiff, Nat.reduceLT, Nat.reduceBEq, Nat.reduceDiv, Nat.reduceMod, Nat.reducePow, Nat.reduceMul, Int.reduceToNat, Int.reduceLT, Int.reduceLE, slt_t, exQ_len, a0]
        first | exact le_stK [0, 2, 35, 36, 37, 38, 39, 40, 41, 42, 43, 44] 30 (fun j hj => nn (D 7) (D 11) j hj) (by rfl) | exact le_stK [0, 2, 35, 36, 37, 38, 39, 40, 41, 42, 43, 44] 30 (fun j hj => nn true (D 11) j hj) (by rfl) | exact le_stK [0, 2, 35, 36, 37, 38, 39, 40, 41, 42, 43, 44] 30 (fun j hj => nn (D 7) true j hj) (by rfl) | exact ⟨by decide, le_stK [0, 2, 35, 36, 37, 38, 39, 40, 41, 42, 43, 44] 30 (fun j hj => nn (D 7) (D 11) j hj) (by rfl)⟩ | trace_state
    · refine ⟨_, le.refl _, ?_⟩
      unfold exS
      have d7 := hD 7 (by decide)
      have d11 := hD 11 (by decide)
      rw [d7, d11]
      simp (maxSteps := 400000) (disch := omega) only [push_cast, ↓reduceIte, reduceCtorEq, Nat.reduceAdd, Nat.reduceSub, Nat.reduceEqDiff, Nat.reduceLeDiff, Nat.reduceLT, Nat.reduceBEq, Nat.reduceDiv, Nat.reduceMod, Nat.reducePow, Nat.reduceMul, Int.reduceToNat, Int.reduceLT, Int.reduceLE]
      repeat (first | refine WK_go ?_ | refine W_seqL ?_ | refine W_seq ?_)
      refine W_regP [1, 2] (by decide) ?_
      simp (maxSteps := 400000) (disch := omega) only [push_cast, ↓reduceIte, reduceCtorEq, Nat.reduceAdd, Nat.reduceSub, Nat.reduceEqDiff, Nat.reduceLeDiff, Nat.reduceLT, Nat.reduceBEq, Nat.reduceDiv, Nat.reduceMod, Nat.reducePow, Nat.reduceMul, Int.reduceToNat, Int.reduceLT, Int.reduceLE, chainP, List.take_succ_cons, List.take_zero, List.drop_succ_cons, List.drop_zero]
      refine ⟨rfl, trivial, Int, 0, cI, [1], rfl, by omega, fun x _ => ⟨rfl, rfl⟩, rfl, ?_⟩
      simp (maxSteps := 400000) (disch := omega) only [push_cast, ↓reduceIte, reduceCtorEq, Nat.reduceAdd, Nat.reduceSub, Nat.reduceEqDiff, Nat.reduceLeDiff, Nat.reduceLT, Nat.reduceBEq, Nat.reduceDiv, Nat.reduceMod, Nat.reducePow, Nat.reduceMul, Int.reduceToNat, Int.reduceLT, Int.reduceLE]
      refine ⟨_, le_frzR 45 [0, 2] [0, 7, 9] 40 30 0 3 1 0 cI [1] rfl rfl rfl rfl, ?_⟩
      simp (maxSteps := 400000) (disch := omega) only [push_cast, ↓reduceIte, reduceCtorEq, Nat.reduceAdd, Nat.reduceSub, Nat.reduceEqDiff, Nat.reduceLeDiff, Nat.reduceLT, Nat.reduceBEq, Nat.reduceDiv, Nat.reduceMod, Nat.reducePow, Nat.reduceMul, Int.reduceToNat, Int.reduceLT, Int.reduceLE, chainP, List.take_succ_cons, List.take_zero, List.drop_succ_cons, List.drop_zero]
      refine ⟨rfl, trivial, Int, 0, cI, [2], rfl, by omega, fun x _ => ⟨rfl, rfl⟩, rfl, ?_⟩
      simp (maxSteps := 400000) (disch := omega) only [push_cast, ↓reduceIte, reduceCtorEq, Nat.reduceAdd, Nat.reduceSub, Nat.reduceEqDiff, Nat.reduceLeDiff, Nat.reduceLT, Nat.reduceBEq, Nat.reduceDiv, Nat.reduceMod, Nat.reducePow, Nat.reduceMul, Int.reduceToNat, Int.reduceLT, Int.reduceLE]
      refine ⟨_, le_frzR 47 [0, 2, 46] [0, 7, 9] 60 41 0 3 1 0 cI [2] rfl rfl rfl rfl, ?_⟩
      simp (maxSteps := 400000) (disch := omega) only [push_cast, ↓reduceIte, reduceCtorEq, Nat.reduceAdd, Nat.reduceSub, Nat.reduceEqDiff, Nat.reduceLeDiff, Nat.reduceLT, Nat.reduceBEq, Nat.reduceDiv, Nat.reduceMod, Nat.reducePow, Nat.reduceMul, Int.reduceToNat, Int.reduceLT, Int.reduceLE, chainP, List.take_succ_cons, List.take_zero, List.drop_succ_cons, List.drop_zero]
      refine ⟨rfl, trivial, Wrk, dW, cW, exM.ws, rfl, by omega, fun x _ => ⟨rfl, rfl⟩, rfl, ?_⟩
      simp (maxSteps := 400000) (disch := omega) only [push_cast, ↓reduceIte, reduceCtorEq, Nat.reduceAdd, Nat.reduceSub, Nat.reduceEqDiff, Nat.reduceLeDiff, Nat.reduceLT, Nat.reduceBEq, Nat.reduceDiv, Nat.reduceMod, Nat.reducePow, Nat.reduceMul, Int.reduceToNat, Int.reduceLT, Int.reduceLE]
      repeat' (first | refine WK_go ?_ | refine W_seqL ?_ | refine W_seq ?_ | refine W_block ?_ | refine W_scp ?_ | ((first | refine W_regL ?_ | refine W_skip ?_ | refine W_exit ?_); simp (maxSteps := 400000) (disch := omega) only [push_cast, ↓reduceIte, reduceCtorEq, Nat.reduceAdd, Nat.reduceSub, Nat.reduceEqDiff, Nat.reduceLeDiff, Nat.reduceLT, Nat.reduceBEq, Nat.reduceDiv, Nat.reduceMod, Nat.reducePow, Nat.reduceMul, Int.reduceToNat, Int.reduceLT, Int.reduceLE]) | refine And.intro (by omega) ?_ | refine And.intro (by intro hq; (try simp only [Bool.and_eq_true, Bool.or_eq_true, Bool.and_eq_false_iff, Bool.or_eq_false_iff, decide_eq_true_eq, decide_eq_false_iff_not, Bool.not_eq_true', Bool.not_eq_false', beq_iff_eq, beq_eq_false_iff_ne, ne_eq] at hq); omega) ?_ | fail)
      refine W_ret ⟨[_], ⟨⟨by simp, rfl⟩, rfl⟩, ?_⟩
      simp (maxSteps := 400000) (disch := omega) only [push_cast, ↓reduceIte, reduceCtorEq, Nat.reduceAdd, Nat.reduceSub, Nat.reduceEqDiff, Nat.reduceLeDiff, Nat.reduceLT, Nat.reduceBEq, Nat.reduceDiv, Nat.reduceMod, Nat.reducePow, Nat.reduceMul, Int.reduceToNat, Int.reduceLT, Int.reduceLE, pack]
      rfl
theorem exG : Gm exM := ⟨by decide, by decide, fun w hw => by
  have h : w = ⟨[1], 1, 4000, 4⟩ ∨ w = ⟨[2], 1, 4000, 12⟩ := by simpa [exM] using hw
  rcases h with rfl | rfl <;> decide⟩
def exF (k : Nat) : Int := if k = 1 then 4000 else 0
theorem ex_chV : chV exM exF 0 2 = some ([0], 24) := by kernel_rfl
theorem ex_chE : chE exM exF 0 2 = 0 := by kernel_rfl
theorem ex_way : wayS exM exF 0 2 [0] = [0, 1] := by kernel_rfl
theorem ex_min : minL exM [0, 1] = 120 := by kernel_rfl
theorem ex_arV : arV exM [0, 1] 500 = 1980 := by kernel_rfl
theorem ex_arE : arE exM [0, 1] 500 = 0 := by kernel_rfl
theorem fn14 : Sy.Fn Try.prog 14 [] (bv true) := by
  refine Fn_of_W mixed Xt14 rfl ?_
  have c15 := fn15 exM exF 0 2 exG
  have c34 := fn34 exM [0, 1] 500 exG (by decide)
  rw [ex_chV, ex_chE] at c15
  have e : rtC exM exF 0 2 (some ([0], 24)) = cRt [0, 1] [0] 24 120 := by
    show cRt (wayS exM exF 0 2 [0]) [0] 24 (minL exM (wayS exM exF 0 2 [0])) = _
    rw [ex_way, ex_min]
  rw [e] at c15
  unfold cRt at c15
  rw [ex_arV, ex_arE] at c34
  repeat' (first | refine WK_go ?_ | refine W_seqL ?_ | refine W_seq ?_ | refine W_block ?_ | refine W_scp ?_ | ((first | refine W_regL ?_ | refine W_skip ?_ | refine W_exit ?_ | refine CallC.now (fn51) ?_ | refine CallC.now (c15) ?_); simp (maxSteps := 400000) (disch := omega) only [push_cast, ↓reduceIte, reduceCtorEq, Nat.reduceAdd, Nat.reduceSub, Nat.reduceEqDiff, Nat.reduceLeDiff, Nat.reduceLT, Nat.reduceBEq, Nat.reduceDiv, Nat.reduceMod, Nat.reducePow, Nat.reduceMul, Int.reduceToNat, Int.reduceLT, Int.reduceLE]) | refine And.intro (by omega) ?_ | refine And.intro (by intro hq; (try simp only [Bool.and_eq_true, Bool.or_eq_true, Bool.and_eq_false_iff, Bool.or_eq_false_iff, decide_eq_true_eq, decide_eq_false_iff_not, Bool.not_eq_true', Bool.not_eq_false', beq_iff_eq, beq_eq_false_iff_ne, ne_eq] at hq); omega) ?_ | fail)
  repeat' (first | refine WK_go ?_ | refine W_seqL ?_ | refine W_seq ?_ | refine W_block ?_ | refine W_scp ?_ | ((first | refine W_regL ?_ | refine W_skip ?_ | refine W_exit ?_ | refine CallC.now (fn51) ?_); simp (maxSteps := 400000) (disch := omega) only [push_cast, ↓reduceIte, reduceCtorEq, Nat.reduceAdd, Nat.reduceSub, Nat.reduceEqDiff, Nat.reduceLeDiff, Nat.reduceLT, Nat.reduceBEq, Nat.reduceDiv, Nat.reduceMod, Nat.reducePow, Nat.reduceMul, Int.reduceToNat, Int.reduceLT, Int.reduceLE]) | refine And.intro (by omega) ?_ | refine And.intro (by intro hq; (try simp only [Bool.and_eq_true, Bool.or_eq_true, Bool.and_eq_false_iff, Bool.or_eq_false_iff, decide_eq_true_eq, decide_eq_false_iff_not, Bool.not_eq_true', Bool.not_eq_false', beq_iff_eq, beq_eq_false_iff_ne, ne_eq] at hq); omega) ?_ | fail)
  refine ⟨rfl, trivial, Int, 0, cI, [0, 1], rfl, by omega, fun x _ => ⟨rfl, rfl⟩, rfl, ?_⟩
  simp (maxSteps := 400000) (disch := omega) only [push_cast, ↓reduceIte, reduceCtorEq, Nat.reduceAdd, Nat.reduceSub, Nat.reduceEqDiff, Nat.reduceLeDiff, Nat.reduceLT, Nat.reduceBEq, Nat.reduceDiv, Nat.reduceMod, Nat.reducePow, Nat.reduceMul, Int.reduceToNat, Int.reduceLT, Int.reduceLE]
  repeat' (first | refine WK_go ?_ | refine W_seqL ?_ | refine W_seq ?_ | refine W_block ?_ | refine W_scp ?_ | ((first | refine W_regL ?_ | refine W_skip ?_ | refine W_exit ?_ | refine CallC.go _ (fun _ => ⟨trivial, c34⟩) rfl ?_); simp (maxSteps := 400000) (disch := omega) only [push_cast, ↓reduceIte, reduceCtorEq, Nat.reduceAdd, Nat.reduceSub, Nat.reduceEqDiff, Nat.reduceLeDiff, Nat.reduceLT, Nat.reduceBEq, Nat.reduceDiv, Nat.reduceMod, Nat.reducePow, Nat.reduceMul, Int.reduceToNat, Int.reduceLT, Int.reduceLE]) | refine And.intro (by omega) ?_ | refine And.intro (by intro hq; (try simp only [Bool.and_eq_true, Bool.or_eq_true, Bool.and_eq_false_iff, Bool.or_eq_false_iff, decide_eq_true_eq, decide_eq_false_iff_not, Bool.not_eq_true', Bool.not_eq_false', beq_iff_eq, beq_eq_false_iff_ne, ne_eq] at hq); omega) ?_ | fail)
  exact W_ret ⟨[_], ⟨rfl, rfl⟩, rfl⟩
end Go.Proofs.Ytfbdlmenhoagmaa

namespace Go.Proofs.Ytfbdlmenhoagmaa
open Go Sy
set_option linter.unusedVariables false
theorem Srt.more {n n' : Int} (hn : n ≤ n') : ∀ {l : List Int} {lo : Int}, Srt n lo l → Srt n' lo l
  | [], _, _ => trivial
  | x :: l, lo, h => ⟨h.1, by have := h.2.1; omega, Srt.more hn h.2.2⟩
end Go.Proofs.Ytfbdlmenhoagmaa

namespace Go.Proofs.Ytfbdlmenhoagmaa
open Go Sy
set_option maxRecDepth 100000
set_option maxHeartbeats 4000000
set_option linter.unusedVariables false
set_option linter.unusedSimpArgs false
structure Big (m : Mp) : Prop where
  r : m.rs.length ≤ 140737488355328
  w : m.ws.length ≤ 140737488355328
  s : ∀ w ∈ m.ws, w.rs.length ≤ 140737488355328
structure Val (m : Mp) (f : Nat → Int) (fr to : Int) : Prop where
  g : greatB m = false
  c : chkM m = 0
  z : szE f = 0
  f : 0 ≤ fr ∧ fr < m.n
  t : 0 ≤ to ∧ to < m.n
theorem Val.ok {m : Mp} {f : Nat → Int} {fr to : Int} (h : Val m f fr to) : OkM m := chkM_ok h.c
theorem Val.op {m : Mp} {f : Nat → Int} {fr to : Int} (h : Val m f fr to) : opE m f = 0 := by unfold opE; rw [if_pos h.c]; exact h.z
theorem plB_of {n x : Int} (h : 0 ≤ x ∧ x < n) : plB n x = true := by unfold plB; rw [decide_eq_true h.1, decide_eq_true h.2]; rfl
theorem Val.cv {m : Mp} {f : Nat → Int} {fr to : Int} (h : Val m f fr to) : chV m f fr to = bestS m f fr to := by unfold chV; rw [if_pos h.op, if_pos ⟨plB_of h.f, plB_of h.t⟩]
end Go.Proofs.Ytfbdlmenhoagmaa

namespace Go.Proofs.Ytfbdlmenhoagmaa
open Go Sy
set_option maxRecDepth 100000
set_option linter.unusedVariables false
theorem i64_wf {n : Int} (h : (Lit.int .i64 n).wf = true) : -9223372036854775808 ≤ n ∧ n ≤ 9223372036854775807 := by
  simp [Lit.wf, IntKind.min, IntKind.max, IntKind.bits, IntKind.signed] at h
  omega
abbrev I64 (n : Int) : Prop := -9223372036854775808 ≤ n ∧ n ≤ 9223372036854775807
theorem y2 : Try.prog.cellsOf 2 = 1 := by kernel_rfl
theorem y3 : Try.prog.cellsOf 3 = 1 := by kernel_rfl
theorem y22 : Try.prog.cellsOf 22 = 1 := by kernel_rfl
theorem y23 : Try.prog.cellsOf 23 = 1 := by kernel_rfl
theorem y26 : Try.prog.cellsOf 26 = 6 := by kernel_rfl
theorem y27 : Try.prog.cellsOf 27 = 1 := by kernel_rfl
theorem y29 : Try.prog.cellsOf 29 = 4 := by kernel_rfl
theorem y67 : Try.prog.cellsOf 67 = 12 := by kernel_rfl
theorem b2 : Try.prog.bytesOf 2 = 8 := by kernel_rfl
theorem b3 : Try.prog.bytesOf 3 = 8 := by kernel_rfl
theorem b29 : Try.prog.bytesOf 29 = 48 := by kernel_rfl
theorem b67 : Try.prog.bytesOf 67 = 96 := by kernel_rfl
theorem k2 : Codec Try.prog 2 (fun n : Int => [iv n]) I64 := (Codec.int Try.underlying2).map id (fun _ => rfl) (fun _ h => i64_wf h)
theorem k3 : Codec Try.prog 3 (fun n : Int => [iv n]) I64 := (Codec.int Try.underlying3).map id (fun _ => rfl) (fun _ h => i64_wf h)
theorem k27 : Codec Try.prog 27 (fun l : List Int => [aI l]) (fun l => l.length * 8 ≤ 140737488351232) :=
  (Codec.slice Try.underlying27 (by rw [y3]; decide) y3 b3 0 k3).map id (fun _ => rfl) (fun _ h => h.1)
def szOf (x : Int × Int × Int × Int × Int × Int × Unit) : Nat → Int
  | 0 => x.1
  | 1 => x.2.1
  | 2 => x.2.2.1
  | 3 => x.2.2.2.1
  | 4 => x.2.2.2.2.1
  | _ => x.2.2.2.2.2.1
theorem k26 : Codec Try.prog 26 c6 (fun f => ∀ k, k < 6 → I64 (f k)) :=
  (Codec.array Try.underlying26 y2 (by kernel_rfl) (by kernel_rfl) (Parts.cons k2 y2 (Parts.cons k2 y2 (Parts.cons k2 y2 (Parts.cons k2 y2 (Parts.cons k2 y2 (Parts.cons k2 y2 Parts.nil))))))).map szOf (fun _ => rfl) (fun x h k hk => by
    obtain ⟨h0, h1, h2, h3, h4, h5, _⟩ := h
    have : k = 0 ∨ k = 1 ∨ k = 2 ∨ k = 3 ∨ k = 4 ∨ k = 5 := by omega
    rcases this with rfl | rfl | rfl | rfl | rfl | rfl <;> assumption)
theorem k67 : Codec Try.prog 67 cR (fun _ => True) :=
  (Codec.struct Try.underlying67 (by kernel_rfl) (by kernel_rfl) (Parts.cons k3 y3 (Parts.cons k3 y3 (Parts.cons k2 y2 (Parts.cons k2 y2 (Parts.cons k2 y2 (Parts.cons k2 y2 (Parts.cons k26 y26 Parts.nil)))))))).map
    (fun x => ⟨x.1, x.2.1, x.2.2.1, x.2.2.2.1, x.2.2.2.2.1, x.2.2.2.2.2.1, x.2.2.2.2.2.2.1 0, x.2.2.2.2.2.2.1 1, x.2.2.2.2.2.2.1 2, x.2.2.2.2.2.2.1 3, x.2.2.2.2.2.2.1 4, x.2.2.2.2.2.2.1 5⟩) (fun _ => rfl) (fun _ _ => trivial)
theorem k22 : Codec Try.prog 22 (fun l : List Rd => [aR l]) (fun l => l.length * 96 ≤ 140737488351232) :=
  (Codec.slice Try.underlying22 (by rw [y67]; decide) y67 b67 dR k67).map id (fun _ => rfl) (fun _ h => h.1)
abbrev OW (w : Wrk) : Prop := w.rs.length * 8 ≤ 140737488351232
theorem k29 : Codec Try.prog 29 cW OW :=
  (Codec.struct Try.underlying29 (by kernel_rfl) (by kernel_rfl) (Parts.cons k27 y27 (Parts.cons k3 y3 (Parts.cons k2 y2 (Parts.cons k2 y2 Parts.nil))))).map
    (fun x => ⟨x.1, x.2.1, x.2.2.1, x.2.2.2.1⟩) (fun _ => rfl) (fun _ h => h.1)
theorem k23 : Codec Try.prog 23 (fun l : List Wrk => [aW l]) (fun l => l.length * 48 ≤ 140737488351232 ∧ ∀ w ∈ l, OW w) :=
  (Codec.slice Try.underlying23 (by rw [y29]; decide) y29 b29 dW k29).map id (fun _ => rfl) (fun _ h => ⟨h.1, h.2.2⟩)
structure OM (m : Mp) : Prop where
  r : m.rs.length * 96 ≤ 140737488351232
  w : m.ws.length * 48 ≤ 140737488351232
  s : ∀ w ∈ m.ws, OW w
theorem k25 : Codec Try.prog 25 cM OM :=
  (Codec.struct Try.underlying25 (by kernel_rfl) (by kernel_rfl) (Parts.cons k3 y3 (Parts.cons k22 y22 (Parts.cons k23 y23 Parts.nil)))).map
    (fun x => ⟨x.1, x.2.1, x.2.2.1⟩) (fun _ => rfl) (fun _ h => ⟨h.2.1, h.2.2.1.1, h.2.2.1.2⟩)
theorem OM.big {m : Mp} (h : OM m) : Big m := ⟨by have := h.r; omega, by have := h.w; omega, fun w hw => by have := h.s w hw; omega⟩
end Go.Proofs.Ytfbdlmenhoagmaa

namespace Go.Proofs.Ytfbdlmenhoagmaa
open Go Sy
set_option linter.unusedVariables false
def evL (n : Nat) : List Int := (List.range n).map fun i : Nat => (i : Int)
theorem ev_mem {n : Nat} {x : Int} : x ∈ evL n ↔ 0 ≤ x ∧ x < n := by
  unfold evL
  rw [List.mem_map]
  constructor
  · rintro ⟨i, hi, rfl⟩
    have := List.mem_range.1 hi
    omega
  · rintro ⟨h1, h2⟩
    exact ⟨x.toNat, List.mem_range.2 (by omega), by omega⟩
theorem rng_srt {n : Nat} : ∀ (k lo : Nat), lo + k ≤ n → Srt n lo ((List.range' lo k).map fun i : Nat => (i : Int))
  | 0, lo, h => trivial
  | k + 1, lo, h => by
    rw [List.range'_succ, List.map_cons]
    refine ⟨Int.le_refl _, by omega, ?_⟩
    have := rng_srt (n := n) k (lo + 1) (by omega)
    exact this
theorem ev_srt (n : Nat) : Srt n 0 (evL n) := by
  have := rng_srt (n := n) n 0 (by omega)
  unfold evL
  rw [List.range_eq_range']
  exact this
theorem ev_succ (n : Nat) : evL (n + 1) = evL n ++ [(n : Int)] := by
  unfold evL
  rw [List.range_succ, List.map_append]; rfl
theorem ev_len (n : Nat) : (evL n).length = n := by simp [evL]
theorem msk_ev (n : Nat) : msk (evL n) = 2 ^ n - 1 := by
  apply Nat.eq_of_testBit_eq
  intro i
  rw [(msk_bits fun x hx => (ev_mem.1 hx).1).b, Nat.testBit_two_pow_sub_one]
  congr 1
  rw [ev_mem, eq_iff_iff]
  omega
theorem limL_iff {m : Mp} {road k : Nat} {b : Int} : ∀ {l : List Int} {a : Int}, l.foldl (fun n x => limS m road k n x.toNat) a ≤ b ↔ a ≤ b ∧ ∀ x ∈ l, ((gw m x.toNat).k = k ∧ (road : Int) ∈ (gw m x.toNat).rs) → (gw m x.toNat).l ≤ b
  | [], a => by simp
  | x :: l, a => by
    rw [List.foldl_cons, limL_iff]
    unfold limS
    constructor
    · rintro ⟨h1, h2⟩
      by_cases q : (gw m x.toNat).k = k ∧ (road : Int) ∈ (gw m x.toNat).rs
      · rw [if_pos q] at h1
        refine ⟨by omega, fun y hy hq => ?_⟩
        rcases List.mem_cons.1 hy with rfl | hy
        · omega
        · exact h2 y hy hq
      · rw [if_neg q] at h1
        refine ⟨h1, fun y hy hq => ?_⟩
        rcases List.mem_cons.1 hy with rfl | hy
        · exact absurd hq q
        · exact h2 y hy hq
    · rintro ⟨h1, h2⟩
      refine ⟨?_, fun y hy hq => h2 y (List.mem_cons_of_mem _ hy) hq⟩
      split
      · rename_i q
        have := h2 x List.mem_cons_self q
        omega
      · exact h1
theorem Wk.pre {es : List Edg} {e : Edg} (he : e ∈ es) (hc : 0 ≤ e.c) {y : Nat} {d : Int} (h : Wk es e.y y d) : Wk es e.x y (e.c + d) := by
  induction h with
  | nil => rw [show e.c + 0 = 0 + e.c by omega]; exact .snoc .nil he hc
  | snoc _ h2 h3 ih => rw [← Int.add_assoc]; exact .snoc ih h2 h3
end Go.Proofs.Ytfbdlmenhoagmaa

namespace Go.Proofs.Ytfbdlmenhoagmaa
open Go Sy
set_option maxRecDepth 100000
set_option maxHeartbeats 4000000
set_option linter.unusedVariables false
set_option linter.unusedSimpArgs false
theorem fn77 (m : Mp) (f : Nat → Int) (h : m.ws.length ≤ 10) : Sy.Fn Try.prog 77 [aAt m f] (uv (msk (evL m.ws.length))) := by
  refine Fn_of_W mixed Xt77 rfl ?_
  rw [msk_ev]
  obtain ⟨n, hn⟩ : ∃ n, n = m.ws.length := ⟨_, rfl⟩
  rw [← hn] at h ⊢
  have e : IntKind.u64.wrap (IntKind.u64.wrap (1 * 2 ^ min n IntKind.u64.bits) - 1) = ((2 ^ n - 1 : Nat) : Int) := by
    have : n = 0 ∨ n = 1 ∨ n = 2 ∨ n = 3 ∨ n = 4 ∨ n = 5 ∨ n = 6 ∨ n = 7 ∨ n = 8 ∨ n = 9 ∨ n = 10 := by omega
    rcases this with rfl | rfl | rfl | rfl | rfl | rfl | rfl | rfl | rfl | rfl | rfl <;> decide
  repeat' (first | refine WK_go ?_ | refine W_seqL ?_ | refine W_seq ?_ | refine W_block ?_ | refine W_scp ?_ | ((first | refine W_regL ?_ | refine W_skip ?_ | refine W_exit ?_); simp (maxSteps := 400000) (disch := omega) only [push_cast, ↓reduceIte, reduceCtorEq, Nat.reduceAdd, Nat.reduceSub, Nat.reduceEqDiff, Nat.reduceLeDiff, Nat.reduceLT, Nat.reduceBEq, Nat.reduceDiv, Nat.reduceMod, Nat.reducePow, Nat.reduceMul, Int.reduceToNat, Int.reduceLT, Int.reduceLE, ← hn, e]) | refine And.intro (by omega) ?_ | refine And.intro (by intro hq; (try simp only [Bool.and_eq_true, Bool.or_eq_true, Bool.and_eq_false_iff, Bool.or_eq_false_iff, decide_eq_true_eq, decide_eq_false_iff_not, Bool.not_eq_true', Bool.not_eq_false', beq_iff_eq, beq_eq_false_iff_ne, ne_eq] at hq); omega) ?_ | fail)
  exact W_ret ⟨[_], ⟨rfl, rfl⟩, rfl⟩
end Go.Proofs.Ytfbdlmenhoagmaa

namespace Go.Proofs.Ytfbdlmenhoagmaa
open Go Sy
set_option maxRecDepth 100000
set_option maxHeartbeats 4000000
set_option linter.unusedVariables false
set_option linter.unusedSimpArgs false
def cB (x : Bool) : List AV := [bv x]
theorem nB (x : Bool) : nth (cB x) 0 = bv x := rfl
theorem lB (x : Bool) : (cB x).length = 1 := rfl
theorem frB (x : Bool) : frzAll (cB x) = true := rfl
theorem tB (x : Bool) : List.take 1 (List.drop 0 (cB x)) = cB x := rfl
attribute [push_cast] nB lB frB tB
end Go.Proofs.Ytfbdlmenhoagmaa

namespace Go.Proofs.Ytfbdlmenhoagmaa
open Go Sy
set_option maxRecDepth 100000
set_option maxHeartbeats 4000000
set_option linter.unusedVariables false
set_option linter.unusedSimpArgs false
structure Cs where
  r : Int
  k : Int
  l : Int
  n : Int
def dC : Cs := ⟨0, 0, 0, 0⟩
def cC (c : Cs) : List AV := [iv c.r, iv c.k, iv c.l, iv c.n]
theorem lC (c : Cs) : (cC c).length = 4 := rfl
theorem frC (c : Cs) : frzAll (cC c) = true := rfl
theorem tC (c : Cs) : List.take 4 (List.drop 0 (cC c)) = cC c := rfl
theorem tC2 (c : Cs) : List.take 4 (cC c) = cC c := rfl
theorem iC {m : Nat → Option Blk} {n : Nat} (c : Cs) : List.flatMap (ids m n) (cC c) = [] := flat_frz n _ (frC c)
theorem vC {m : Nat → Option Blk} {n : Nat} (c : Cs) : List.map (view m n) (cC c) = cC c := viewL_frz n _ (frC c)
attribute [push_cast] lC frC tC tC2 iC vC
abbrev aC (l : List Cs) : AV := .sl 4 dC cC l
def cz1 (m : Mp) (f : Nat → Int) (s : List Int) (road k : Nat) : List Cs := if limL m s road k < f k then [⟨road, k, limL m s road k, f k⟩] else []
def czK (m : Mp) (f : Nat → Int) (s : List Int) (road n : Nat) : List Cs := (List.range n).flatMap (cz1 m f s road)
def czR (m : Mp) (f : Nat → Int) (s : List Int) (rs : List Int) : List Cs := rs.flatMap fun r => czK m f s r.toNat 6
theorem czK_succ (m : Mp) (f : Nat → Int) (s : List Int) (road n : Nat) : czK m f s road (n + 1) = czK m f s road n ++ cz1 m f s road n := by
  unfold czK
  rw [List.range_succ, List.flatMap_append]
  simp
theorem czR_snoc (m : Mp) (f : Nat → Int) (s : List Int) (rs : List Int) (r : Int) : czR m f s (rs ++ [r]) = czR m f s rs ++ czK m f s r.toNat 6 := by
  unfold czR
  rw [List.flatMap_append]
  simp
theorem czK_len (m : Mp) (f : Nat → Int) (s : List Int) (road : Nat) : ∀ n, (czK m f s road n).length ≤ n
  | 0 => by simp [czK]
  | n + 1 => by
    rw [czK_succ, List.length_append]
    have := czK_len m f s road n
    have : (cz1 m f s road n).length ≤ 1 := by unfold cz1; split <;> simp
    omega
theorem czR_len (m : Mp) (f : Nat → Int) (s : List Int) : ∀ rs : List Int, (czR m f s rs).length ≤ 6 * rs.length
  | [] => by simp [czR]
  | r :: rs => by
    have h1 := czR_len m f s rs
    have h2 := czK_len m f s r.toNat 6
    have e : czR m f s (r :: rs) = czK m f s r.toNat 6 ++ czR m f s rs := rfl
    rw [e, List.length_append, List.length_cons]
    omega
end Go.Proofs.Ytfbdlmenhoagmaa

namespace Go.Proofs.Ytfbdlmenhoagmaa
open Go Sy
set_option maxRecDepth 100000
set_option maxHeartbeats 4000000
set_option linter.unusedVariables false
set_option linter.unusedSimpArgs false
def allU (m : Mp) (f : Nat → Int) (rs : List Int) (s : List Int) : Bool := !(rs.any fun x => !usB m f s x.toNat)
def cL (l : List Int) : List AV := [aI l]
theorem nL (l : List Int) : nth (cL l) 0 = aI l := rfl
theorem lL (l : List Int) : (cL l).length = 1 := rfl
theorem frL (l : List Int) : frzAll (cL l) = true := rfl
theorem tL (l : List Int) : List.take 1 (List.drop 0 (cL l)) = cL l := rfl
attribute [push_cast] nL lL frL tL
end Go.Proofs.Ytfbdlmenhoagmaa

namespace Go.Proofs.Ytfbdlmenhoagmaa
open Go Sy
set_option maxRecDepth 100000
set_option maxHeartbeats 4000000
set_option linter.unusedVariables false
set_option linter.unusedSimpArgs false
theorem czK_nil {m : Mp} {f : Nat → Int} {s : List Int} {road : Nat} : czK m f s road 6 = [] ↔ usB m f s road = true := by
  unfold czK
  rw [List.flatMap_eq_nil_iff, usN_iff]
  constructor
  · intro h k hk
    have := h k (List.mem_range.2 hk)
    unfold cz1 at this
    by_cases q : limL m s road k < f k
    · rw [if_pos q] at this; cases this
    · omega
  · intro h k hk
    have := h k (List.mem_range.1 hk)
    unfold cz1
    rw [if_neg (by omega)]
theorem czR_nil {m : Mp} {f : Nat → Int} {s rs : List Int} : (czR m f s rs).length = 0 ↔ allU m f rs s = true := by
  rw [List.length_eq_zero_iff]
  unfold czR allU
  rw [List.flatMap_eq_nil_iff, Bool.not_eq_true', ← Bool.not_eq_true, List.any_eq_true]
  constructor
  · rintro h ⟨x, hx, hq⟩
    have := czK_nil.1 (h x hx)
    rw [this] at hq; cases hq
  · intro h x hx
    rw [czK_nil]
    apply Classical.byContradiction
    intro q
    exact h ⟨x, hx, by simpa using q⟩
def sumR (m : Mp) (l : List Int) : Int := l.foldl (fun n x => n + (gr m x.toNat).c) 0
end Go.Proofs.Ytfbdlmenhoagmaa

namespace Go.Proofs.Ytfbdlmenhoagmaa
open Go Sy
set_option maxRecDepth 100000
set_option maxHeartbeats 4000000
set_option linter.unusedVariables false
set_option linter.unusedSimpArgs false
end Go.Proofs.Ytfbdlmenhoagmaa

namespace Go.Proofs.Ytfbdlmenhoagmaa
open Go Sy
set_option maxRecDepth 100000
set_option maxHeartbeats 4000000
set_option linter.unusedVariables false
set_option linter.unusedSimpArgs false
def atP (m : Mp) (fr : Int) (l : List Int) (i : Nat) : Int := if i = 0 then fr else (gr m (gi l (i - 1)).toNat).t
end Go.Proofs.Ytfbdlmenhoagmaa

namespace Go.Proofs.Ytfbdlmenhoagmaa
open Go Sy
set_option maxRecDepth 100000
set_option maxHeartbeats 4000000
set_option linter.unusedVariables false
set_option linter.unusedSimpArgs false
theorem set_gi {n : Int} {s : List Int} (hs : Srt n 0 s) {i : Nat} (h : i < s.length) : ∃ x : Nat, gi s i = x ∧ (x : Int) < n := by
  have h1 := hs.mem (gi s i) (by unfold gi; exact getD_mem' 0 s i h)
  exact ⟨(gi s i).toNat, by omega, by omega⟩
theorem fn123 (m : Mp) (s : List Int) (road k : Nat) (h : OkM m) (hs : Srt m.ws.length 0 s) (hr : road < m.rs.length) (hk : k < 6) : Sy.Fn Try.prog 123 [aM m, aI s, iv road, iv k] (iv (limL m s road k)) := by
  refine Fn_of_W mixed Xt123 rfl ?_
  have hw := h.nw
  have hlim : nth (cR (gr m road)) (6 + k) = iv ((gr m road).lim k) := by
    rcases k with _ | _ | _ | _ | _ | _ | k <;> first | rfl | omega
  have hgr : m.rs.getD road dR = gr m road := rfl
  have hsl := hs.len (by omega)
  repeat' (first | refine WK_go ?_ | refine W_seqL ?_ | refine W_seq ?_ | refine W_block ?_ | refine W_scp ?_ | ((first | refine W_regL ?_ | refine W_skip ?_ | refine W_exit ?_); simp (maxSteps := 400000) (disch := omega) only [push_cast, ↓reduceIte, reduceCtorEq, Nat.reduceAdd, Nat.reduceSub, Nat.reduceEqDiff, Nat.reduceLeDiff, Nat.reduceLT, Nat.reduceBEq, Nat.reduceDiv, Nat.reduceMod, Nat.reducePow, Nat.reduceMul, Int.reduceToNat, Int.reduceLT, Int.reduceLE, hgr, hlim, Nat.mul_one, Nat.add_assoc]) | refine And.intro (by omega) ?_ | refine And.intro (by intro hq; (try simp only [Bool.and_eq_true, Bool.or_eq_true, Bool.and_eq_false_iff, Bool.or_eq_false_iff, decide_eq_true_eq, decide_eq_false_iff_not, Bool.not_eq_true', Bool.not_eq_false', beq_iff_eq, beq_eq_false_iff_ne, ne_eq] at hq); omega) ?_ | fail)
  refine W_loopU (fun i : Nat => [(9, iv (limL m (s.take i) road k)), (10, iv i)]) (fun i => []) (fun i => i ≤ s.length) (fun i => s.length - i) 0 (by omega) (by rfl) (by rfl) (fun i hi => ?_)
  simp (maxSteps := 400000) (disch := omega) only [push_cast, ↓reduceIte, reduceCtorEq, Nat.reduceAdd, Nat.reduceSub, Nat.reduceEqDiff, Nat.reduceLeDiff, Nat.reduceLT, Nat.reduceBEq, Nat.reduceDiv, Nat.reduceMod, Nat.reducePow, Nat.reduceMul, Int.reduceToNat, Int.reduceLT, Int.reduceLE]
  repeat' (first | refine WK_go ?_ | refine W_seqL ?_ | refine W_seq ?_ | refine W_block ?_ | refine W_scp ?_ | ((first | refine W_regL ?_ | refine W_skip ?_ | refine W_exit ?_); simp (maxSteps := 400000) (disch := omega) only [push_cast, ↓reduceIte, reduceCtorEq, Nat.reduceAdd, Nat.reduceSub, Nat.reduceEqDiff, Nat.reduceLeDiff, Nat.reduceLT, Nat.reduceBEq, Nat.reduceDiv, Nat.reduceMod, Nat.reducePow, Nat.reduceMul, Int.reduceToNat, Int.reduceLT, Int.reduceLE]) | refine And.intro (by omega) ?_ | refine And.intro (by intro hq; (try simp only [Bool.and_eq_true, Bool.or_eq_true, Bool.and_eq_false_iff, Bool.or_eq_false_iff, decide_eq_true_eq, decide_eq_false_iff_not, Bool.not_eq_true', Bool.not_eq_false', beq_iff_eq, beq_eq_false_iff_ne, ne_eq] at hq); omega) ?_ | fail)
  refine W_condD (by rfl) (fun h5 => ?_) (fun h5 => ?_)
  · have hlt : i < s.length := by omega
    obtain ⟨x, hx, hxn⟩ := set_gi hs hlt
    have hx2 : s.getD i 0 = (x : Int) := hx
    have ec : limL m (s.take (i + 1)) road k = limS m road k (limL m (s.take i) road k) x := by rw [take_snoc hlt, hx, limL_snoc]
    have es : ∀ n : Int, limS m road k n x = if (gw m x).k = k ∧ (road : Int) ∈ (gw m x).rs then max n (gw m x).l else n := fun _ => rfl
    have hgw : m.ws.getD x dW = gw m x := rfl
    have hwl := h.s x (by omega)
    have c107 := fn107 (gw m x).rs (road : Int) (by omega)
    rw [es] at ec
    generalize limL m (s.take i) road k = C at *
    generalize gw m x = w at *
    repeat' (first | refine WK_go ?_ | refine W_seqL ?_ | refine W_seq ?_ | refine W_block ?_ | refine W_scp ?_ | ((first | refine W_regL ?_ | refine W_skip ?_ | refine W_exit ?_ | refine CallC.go _ (fun _ => ⟨trivial, c107⟩) rfl ?_); simp (maxSteps := 400000) (disch := omega) only [push_cast, ↓reduceIte, reduceCtorEq, Nat.reduceAdd, Nat.reduceSub, Nat.reduceEqDiff, Nat.reduceLeDiff, Nat.reduceLT, Nat.reduceBEq, Nat.reduceDiv, Nat.reduceMod, Nat.reducePow, Nat.reduceMul, Int.reduceToNat, Int.reduceLT, Int.reduceLE, hx2, hgw]) | refine And.intro (by omega) ?_ | refine And.intro (by intro hq; (try simp only [Bool.and_eq_true, Bool.or_eq_true, Bool.and_eq_false_iff, Bool.or_eq_false_iff, decide_eq_true_eq, decide_eq_false_iff_not, Bool.not_eq_true', Bool.not_eq_false', beq_iff_eq, beq_eq_false_iff_ne, ne_eq] at hq); omega) ?_ | fail)
    refine W_cond (by rfl) (fun hz => ?_) (fun hz => ?_)
    · rw [Bool.and_eq_true, beq_iff_eq, decide_eq_true_eq] at hz
      rw [if_pos hz] at ec
      repeat' (first | refine WK_go ?_ | refine W_seqL ?_ | refine W_seq ?_ | refine W_block ?_ | refine W_scp ?_ | ((first | refine W_regL ?_ | refine W_skip ?_ | refine W_exit ?_); simp (maxSteps := 400000) (disch := omega) only [push_cast, ↓reduceIte, reduceCtorEq, Nat.reduceAdd, Nat.reduceSub, Nat.reduceEqDiff, Nat.reduceLeDiff, Nat.reduceLT, Nat.reduceBEq, Nat.reduceDiv, Nat.reduceMod, Nat.reducePow, Nat.reduceMul, Int.reduceToNat, Int.reduceLT, Int.reduceLE]) | refine And.intro (by omega) ?_ | refine And.intro (by intro hq; (try simp only [Bool.and_eq_true, Bool.or_eq_true, Bool.and_eq_false_iff, Bool.or_eq_false_iff, decide_eq_true_eq, decide_eq_false_iff_not, Bool.not_eq_true', Bool.not_eq_false', beq_iff_eq, beq_eq_false_iff_ne, ne_eq] at hq); omega) ?_ | fail)
      refine ⟨i + 1, by omega, by omega, by rfl, ?_⟩
      rw [ec]
      simp (maxSteps := 400000) (disch := omega) only [push_cast, ↓reduceIte, reduceCtorEq, Nat.reduceAdd, Nat.reduceSub, Nat.reduceEqDiff, Nat.reduceLeDiff, Nat.reduceLT, Nat.reduceBEq, Nat.reduceDiv, Nat.reduceMod, Nat.reducePow, Nat.reduceMul, Int.reduceToNat, Int.reduceLT, Int.reduceLE, S.mk.injEq, List.cons.injEq, Prod.mk.injEq, AV.v.injEq, Value.int.injEq, Value.bool.injEq, Blk.cells.injEq]
    · have hz : ¬ (w.k = k ∧ (road : Int) ∈ w.rs) := by
        rintro ⟨z1, z2⟩
        rw [z1, decide_eq_true z2] at hz
        simp at hz
      rw [if_neg hz] at ec
      repeat' (first | refine WK_go ?_ | refine W_seqL ?_ | refine W_seq ?_ | refine W_block ?_ | refine W_scp ?_ | ((first | refine W_regL ?_ | refine W_skip ?_ | refine W_exit ?_); simp (maxSteps := 400000) (disch := omega) only [push_cast, ↓reduceIte, reduceCtorEq, Nat.reduceAdd, Nat.reduceSub, Nat.reduceEqDiff, Nat.reduceLeDiff, Nat.reduceLT, Nat.reduceBEq, Nat.reduceDiv, Nat.reduceMod, Nat.reducePow, Nat.reduceMul, Int.reduceToNat, Int.reduceLT, Int.reduceLE]) | refine And.intro (by omega) ?_ | refine And.intro (by intro hq; (try simp only [Bool.and_eq_true, Bool.or_eq_true, Bool.and_eq_false_iff, Bool.or_eq_false_iff, decide_eq_true_eq, decide_eq_false_iff_not, Bool.not_eq_true', Bool.not_eq_false', beq_iff_eq, beq_eq_false_iff_ne, ne_eq] at hq); omega) ?_ | fail)
      refine ⟨i + 1, by omega, by omega, by rfl, ?_⟩
      rw [ec]
      simp (maxSteps := 400000) (disch := omega) only [push_cast, ↓reduceIte, reduceCtorEq, Nat.reduceAdd, Nat.reduceSub, Nat.reduceEqDiff, Nat.reduceLeDiff, Nat.reduceLT, Nat.reduceBEq, Nat.reduceDiv, Nat.reduceMod, Nat.reducePow, Nat.reduceMul, Int.reduceToNat, Int.reduceLT, Int.reduceLE, S.mk.injEq, List.cons.injEq, Prod.mk.injEq, AV.v.injEq, Value.int.injEq, Value.bool.injEq, Blk.cells.injEq]
  · have hil : i = s.length := by omega
    rw [hil, List.take_length]
    repeat' (first | refine WK_go ?_ | refine W_seqL ?_ | refine W_seq ?_ | refine W_block ?_ | refine W_scp ?_ | ((first | refine W_regL ?_ | refine W_skip ?_ | refine W_exit ?_); simp (maxSteps := 400000) (disch := omega) only [push_cast, ↓reduceIte, reduceCtorEq, Nat.reduceAdd, Nat.reduceSub, Nat.reduceEqDiff, Nat.reduceLeDiff, Nat.reduceLT, Nat.reduceBEq, Nat.reduceDiv, Nat.reduceMod, Nat.reducePow, Nat.reduceMul, Int.reduceToNat, Int.reduceLT, Int.reduceLE]) | refine And.intro (by omega) ?_ | refine And.intro (by intro hq; (try simp only [Bool.and_eq_true, Bool.or_eq_true, Bool.and_eq_false_iff, Bool.or_eq_false_iff, decide_eq_true_eq, decide_eq_false_iff_not, Bool.not_eq_true', Bool.not_eq_false', beq_iff_eq, beq_eq_false_iff_ne, ne_eq] at hq); omega) ?_ | fail)
    exact W_ret ⟨[_], ⟨rfl, rfl⟩, rfl⟩
end Go.Proofs.Ytfbdlmenhoagmaa

namespace Go.Proofs.Ytfbdlmenhoagmaa
open Go Sy
set_option maxRecDepth 100000
set_option maxHeartbeats 4000000
set_option linter.unusedVariables false
set_option linter.unusedSimpArgs false
theorem fn80 (m : Mp) (f : Nat → Int) (s rs : List Int) (h : OkM m) (hs : Srt m.ws.length 0 s) (hr : rdE m rs = 0) : Sy.Fn Try.prog 80 [aM m, .agg (c6 f), aI s, aI rs] (aC (czR m f s rs)) := by
  refine Fn_of_W mixed Xt80 rfl ?_
  obtain ⟨hl3, hlr⟩ := rdE_ok hr
  repeat' (first | refine WK_go ?_ | refine W_seqL ?_ | refine W_seq ?_ | refine W_block ?_ | refine W_scp ?_ | ((first | refine W_regL ?_ | refine W_skip ?_ | refine W_exit ?_); simp (maxSteps := 400000) (disch := omega) only [push_cast, ↓reduceIte, reduceCtorEq, Nat.reduceAdd, Nat.reduceSub, Nat.reduceEqDiff, Nat.reduceLeDiff, Nat.reduceLT, Nat.reduceBEq, Nat.reduceDiv, Nat.reduceMod, Nat.reducePow, Nat.reduceMul, Int.reduceToNat, Int.reduceLT, Int.reduceLE]) | refine And.intro (by omega) ?_ | refine And.intro (by intro hq; (try simp only [Bool.and_eq_true, Bool.or_eq_true, Bool.and_eq_false_iff, Bool.or_eq_false_iff, decide_eq_true_eq, decide_eq_false_iff_not, Bool.not_eq_true', Bool.not_eq_false', beq_iff_eq, beq_eq_false_iff_ne, ne_eq] at hq); omega) ?_ | fail)
  refine W_le (le_adopt 9 57 4 dC cC (by omega) rfl) ?_
  simp (maxSteps := 400000) (disch := omega) only [push_cast, ↓reduceIte, reduceCtorEq, Nat.reduceAdd, Nat.reduceSub, Nat.reduceEqDiff, Nat.reduceLeDiff, Nat.reduceLT, Nat.reduceBEq, Nat.reduceDiv, Nat.reduceMod, Nat.reducePow, Nat.reduceMul, Int.reduceToNat, Int.reduceLT, Int.reduceLE]
  refine W_loopU (fun i : Nat => [(9, .row 5 (czR m f s (rs.take i)).length), (10, iv i)]) (fun i => [(5, .row (czR m f s (rs.take i)).length 57 4 dC cC (czR m f s (rs.take i)))]) (fun i => i ≤ rs.length) (fun i => rs.length - i) 0 (by omega) (by rfl) (by rfl) (fun i hi => ?_)
  have hcl := czR_len m f s (rs.take i)
  have htl : (rs.take i).length = i := by rw [List.length_take]; omega
  rw [htl] at hcl
  simp (maxSteps := 400000) (disch := omega) only [push_cast, ↓reduceIte, reduceCtorEq, Nat.reduceAdd, Nat.reduceSub, Nat.reduceEqDiff, Nat.reduceLeDiff, Nat.reduceLT, Nat.reduceBEq, Nat.reduceDiv, Nat.reduceMod, Nat.reducePow, Nat.reduceMul, Int.reduceToNat, Int.reduceLT, Int.reduceLE]
  repeat' (first | refine WK_go ?_ | refine W_seqL ?_ | refine W_seq ?_ | refine W_block ?_ | refine W_scp ?_ | ((first | refine W_regL ?_ | refine W_skip ?_ | refine W_exit ?_); simp (maxSteps := 400000) (disch := omega) only [push_cast, ↓reduceIte, reduceCtorEq, Nat.reduceAdd, Nat.reduceSub, Nat.reduceEqDiff, Nat.reduceLeDiff, Nat.reduceLT, Nat.reduceBEq, Nat.reduceDiv, Nat.reduceMod, Nat.reducePow, Nat.reduceMul, Int.reduceToNat, Int.reduceLT, Int.reduceLE]) | refine And.intro (by omega) ?_ | refine And.intro (by intro hq; (try simp only [Bool.and_eq_true, Bool.or_eq_true, Bool.and_eq_false_iff, Bool.or_eq_false_iff, decide_eq_true_eq, decide_eq_false_iff_not, Bool.not_eq_true', Bool.not_eq_false', beq_iff_eq, beq_eq_false_iff_ne, ne_eq] at hq); omega) ?_ | fail)
  refine W_condD (by rfl) (fun h5 => ?_) (fun h5 => ?_)
  rotate_left
  · have hil : i = rs.length := by omega
    rw [hil, List.take_length]
    repeat' (first | refine WK_go ?_ | refine W_seqL ?_ | refine W_seq ?_ | refine W_block ?_ | refine W_scp ?_ | ((first | refine W_regL ?_ | refine W_skip ?_ | refine W_exit ?_); simp (maxSteps := 400000) (disch := omega) only [push_cast, ↓reduceIte, reduceCtorEq, Nat.reduceAdd, Nat.reduceSub, Nat.reduceEqDiff, Nat.reduceLeDiff, Nat.reduceLT, Nat.reduceBEq, Nat.reduceDiv, Nat.reduceMod, Nat.reducePow, Nat.reduceMul, Int.reduceToNat, Int.reduceLT, Int.reduceLE]) | refine And.intro (by omega) ?_ | refine And.intro (by intro hq; (try simp only [Bool.and_eq_true, Bool.or_eq_true, Bool.and_eq_false_iff, Bool.or_eq_false_iff, decide_eq_true_eq, decide_eq_false_iff_not, Bool.not_eq_true', Bool.not_eq_false', beq_iff_eq, beq_eq_false_iff_ne, ne_eq] at hq); omega) ?_ | fail)
    refine W_ret ⟨[_], ⟨rfl, rfl⟩, ?_⟩
    simp (maxSteps := 400000) (disch := omega) only [push_cast, ↓reduceIte, reduceCtorEq, Nat.reduceAdd, Nat.reduceSub, Nat.reduceEqDiff, Nat.reduceLeDiff, Nat.reduceLT, Nat.reduceBEq, Nat.reduceDiv, Nat.reduceMod, Nat.reducePow, Nat.reduceMul, Int.reduceToNat, Int.reduceLT, Int.reduceLE, pack]
  have hlt : i < rs.length := by omega
  have hsn : czR m f s (rs.take (i + 1)) = czR m f s (rs.take i) ++ czK m f s (gi rs i).toNat 6 := by rw [take_snoc hlt, czR_snoc]
  obtain ⟨road, hrd⟩ : ∃ road : Nat, gi rs i = road := ⟨(gi rs i).toNat, by have := hlr i hlt; omega⟩
  have hrl : road < m.rs.length := by have := hlr i hlt; omega
  rw [hrd, Int.toNat_natCast] at hsn
  have hrd2 : rs.getD i 0 = (road : Int) := hrd
  generalize czR m f s (rs.take i) = X at *
  repeat' (first | refine WK_go ?_ | refine W_seqL ?_ | refine W_seq ?_ | refine W_block ?_ | refine W_scp ?_ | ((first | refine W_regL ?_ | refine W_skip ?_ | refine W_exit ?_); simp (maxSteps := 400000) (disch := omega) only [push_cast, ↓reduceIte, reduceCtorEq, Nat.reduceAdd, Nat.reduceSub, Nat.reduceEqDiff, Nat.reduceLeDiff, Nat.reduceLT, Nat.reduceBEq, Nat.reduceDiv, Nat.reduceMod, Nat.reducePow, Nat.reduceMul, Int.reduceToNat, Int.reduceLT, Int.reduceLE, hrd2]) | refine And.intro (by omega) ?_ | refine And.intro (by intro hq; (try simp only [Bool.and_eq_true, Bool.or_eq_true, Bool.and_eq_false_iff, Bool.or_eq_false_iff, decide_eq_true_eq, decide_eq_false_iff_not, Bool.not_eq_true', Bool.not_eq_false', beq_iff_eq, beq_eq_false_iff_ne, ne_eq] at hq); omega) ?_ | fail)
  refine W_loopU (fun k : Nat => [(9, .row 5 (X ++ czK m f s road k).length), (11, iv k)]) (fun k => [(5, .row (X ++ czK m f s road k).length 57 4 dC cC (X ++ czK m f s road k))]) (fun k => k ≤ 6) (fun k => 6 - k) 0 (by omega) (by rfl) (by simp only [czK, List.range_zero, List.flatMap_nil, List.append_nil]; rfl) (fun k hk => ?_)
  have hkl := czK_len m f s road k
  have hks := czK_succ m f s road k
  have hal : (X ++ czK m f s road k).length ≤ 1000000 := by rw [List.length_append]; omega
  simp (maxSteps := 400000) (disch := omega) only [push_cast, ↓reduceIte, reduceCtorEq, Nat.reduceAdd, Nat.reduceSub, Nat.reduceEqDiff, Nat.reduceLeDiff, Nat.reduceLT, Nat.reduceBEq, Nat.reduceDiv, Nat.reduceMod, Nat.reducePow, Nat.reduceMul, Int.reduceToNat, Int.reduceLT, Int.reduceLE]
  repeat' (first | refine WK_go ?_ | refine W_seqL ?_ | refine W_seq ?_ | refine W_block ?_ | refine W_scp ?_ | ((first | refine W_regL ?_ | refine W_skip ?_ | refine W_exit ?_); simp (maxSteps := 400000) (disch := omega) only [push_cast, ↓reduceIte, reduceCtorEq, Nat.reduceAdd, Nat.reduceSub, Nat.reduceEqDiff, Nat.reduceLeDiff, Nat.reduceLT, Nat.reduceBEq, Nat.reduceDiv, Nat.reduceMod, Nat.reducePow, Nat.reduceMul, Int.reduceToNat, Int.reduceLT, Int.reduceLE]) | refine And.intro (by omega) ?_ | refine And.intro (by intro hq; (try simp only [Bool.and_eq_true, Bool.or_eq_true, Bool.and_eq_false_iff, Bool.or_eq_false_iff, decide_eq_true_eq, decide_eq_false_iff_not, Bool.not_eq_true', Bool.not_eq_false', beq_iff_eq, beq_eq_false_iff_ne, ne_eq] at hq); omega) ?_ | fail)
  refine W_condD (by rfl) (fun h6 => ?_) (fun h6 => ?_)
  · have hk6 : k < 6 := by omega
    have c123 := fn123 m s road k h hs hrl hk6
    have ez : cz1 m f s road k = if limL m s road k < f k then [⟨road, k, limL m s road k, f k⟩] else [] := rfl
    obtain ⟨n, hnl⟩ : ∃ n, n = limL m s road k := ⟨_, rfl⟩
    rw [← hnl] at c123 ez
    have hys : X ++ czK m f s road (k + 1) = (X ++ czK m f s road k) ++ cz1 m f s road k := by rw [hks, List.append_assoc]
    generalize X ++ czK m f s road k = Y at *
    repeat' (first | refine WK_go ?_ | refine W_seqL ?_ | refine W_seq ?_ | refine W_block ?_ | refine W_scp ?_ | ((first | refine W_regL ?_ | refine W_skip ?_ | refine W_exit ?_ | refine CallC.now (c123) ?_); simp (maxSteps := 400000) (disch := omega) only [push_cast, ↓reduceIte, reduceCtorEq, Nat.reduceAdd, Nat.reduceSub, Nat.reduceEqDiff, Nat.reduceLeDiff, Nat.reduceLT, Nat.reduceBEq, Nat.reduceDiv, Nat.reduceMod, Nat.reducePow, Nat.reduceMul, Int.reduceToNat, Int.reduceLT, Int.reduceLE, hrd2, Nat.mul_one, Nat.zero_add]) | refine And.intro (by omega) ?_ | refine And.intro (by intro hq; (try simp only [Bool.and_eq_true, Bool.or_eq_true, Bool.and_eq_false_iff, Bool.or_eq_false_iff, decide_eq_true_eq, decide_eq_false_iff_not, Bool.not_eq_true', Bool.not_eq_false', beq_iff_eq, beq_eq_false_iff_ne, ne_eq] at hq); omega) ?_ | fail)
    refine W_condD (by rfl) (fun q => ?_) (fun q => ?_)
    · rw [if_pos q] at ez
      repeat' (first | refine WK_go ?_ | refine W_seqL ?_ | refine W_seq ?_ | refine W_block ?_ | refine W_scp ?_ | ((first | refine W_regL ?_ | refine W_skip ?_ | refine W_exit ?_); simp (maxSteps := 400000) (disch := omega) only [push_cast, ↓reduceIte, reduceCtorEq, Nat.reduceAdd, Nat.reduceSub, Nat.reduceEqDiff, Nat.reduceLeDiff, Nat.reduceLT, Nat.reduceBEq, Nat.reduceDiv, Nat.reduceMod, Nat.reducePow, Nat.reduceMul, Int.reduceToNat, Int.reduceLT, Int.reduceLE, hrd2, Nat.mul_one, Nat.zero_add]) | refine And.intro (by omega) ?_ | refine And.intro (by intro hq; (try simp only [Bool.and_eq_true, Bool.or_eq_true, Bool.and_eq_false_iff, Bool.or_eq_false_iff, decide_eq_true_eq, decide_eq_false_iff_not, Bool.not_eq_true', Bool.not_eq_false', beq_iff_eq, beq_eq_false_iff_ne, ne_eq] at hq); omega) ?_ | fail)
      refine ⟨rfl, trivial, Cs, dC, cC, [⟨road, k, n, f k⟩], rfl, by omega, fun x _ => ⟨rfl, rfl⟩, rfl, ?_⟩
      simp (maxSteps := 400000) (disch := omega) only [push_cast, ↓reduceIte, reduceCtorEq, Nat.reduceAdd, Nat.reduceSub, Nat.reduceEqDiff, Nat.reduceLeDiff, Nat.reduceLT, Nat.reduceBEq, Nat.reduceDiv, Nat.reduceMod, Nat.reducePow, Nat.reduceMul, Int.reduceToNat, Int.reduceLT, Int.reduceLE]
      refine ⟨rfl, ⟨Nat.le_of_ble_eq_true rfl, rfl⟩, trivial, [(⟨road, k, n, f k⟩ : Cs)], rfl, by first | omega | (simp; omega), by first | omega | (simp; omega), ?_⟩
      simp (maxSteps := 400000) (disch := omega) only [push_cast, ↓reduceIte, reduceCtorEq, Nat.reduceAdd, Nat.reduceSub, Nat.reduceEqDiff, Nat.reduceLeDiff, Nat.reduceLT, Nat.reduceBEq, Nat.reduceDiv, Nat.reduceMod, Nat.reducePow, Nat.reduceMul, Int.reduceToNat, Int.reduceLT, Int.reduceLE]
      repeat' (first | refine WK_go ?_ | refine W_seqL ?_ | refine W_seq ?_ | refine W_block ?_ | refine W_scp ?_ | ((first | refine W_regL ?_ | refine W_skip ?_ | refine W_exit ?_); simp (maxSteps := 400000) (disch := omega) only [push_cast, ↓reduceIte, reduceCtorEq, Nat.reduceAdd, Nat.reduceSub, Nat.reduceEqDiff, Nat.reduceLeDiff, Nat.reduceLT, Nat.reduceBEq, Nat.reduceDiv, Nat.reduceMod, Nat.reducePow, Nat.reduceMul, Int.reduceToNat, Int.reduceLT, Int.reduceLE]) | refine And.intro (by omega) ?_ | refine And.intro (by intro hq; (try simp only [Bool.and_eq_true, Bool.or_eq_true, Bool.and_eq_false_iff, Bool.or_eq_false_iff, decide_eq_true_eq, decide_eq_false_iff_not, Bool.not_eq_true', Bool.not_eq_false', beq_iff_eq, beq_eq_false_iff_ne, ne_eq] at hq); omega) ?_ | fail)
      refine ⟨k + 1, by omega, by omega, by rfl, ?_⟩
      rw [hys, ez, List.length_append]
      simp (maxSteps := 400000) (disch := omega) only [push_cast, ↓reduceIte, reduceCtorEq, Nat.reduceAdd, Nat.reduceSub, Nat.reduceEqDiff, Nat.reduceLeDiff, Nat.reduceLT, Nat.reduceBEq, Nat.reduceDiv, Nat.reduceMod, Nat.reducePow, Nat.reduceMul, Int.reduceToNat, Int.reduceLT, Int.reduceLE, S.mk.injEq, List.cons.injEq, Prod.mk.injEq, AV.v.injEq, Value.int.injEq, Value.bool.injEq, Blk.cells.injEq]
    · rw [if_neg q] at ez
      repeat' (first | refine WK_go ?_ | refine W_seqL ?_ | refine W_seq ?_ | refine W_block ?_ | refine W_scp ?_ | ((first | refine W_regL ?_ | refine W_skip ?_ | refine W_exit ?_); simp (maxSteps := 400000) (disch := omega) only [push_cast, ↓reduceIte, reduceCtorEq, Nat.reduceAdd, Nat.reduceSub, Nat.reduceEqDiff, Nat.reduceLeDiff, Nat.reduceLT, Nat.reduceBEq, Nat.reduceDiv, Nat.reduceMod, Nat.reducePow, Nat.reduceMul, Int.reduceToNat, Int.reduceLT, Int.reduceLE]) | refine And.intro (by omega) ?_ | refine And.intro (by intro hq; (try simp only [Bool.and_eq_true, Bool.or_eq_true, Bool.and_eq_false_iff, Bool.or_eq_false_iff, decide_eq_true_eq, decide_eq_false_iff_not, Bool.not_eq_true', Bool.not_eq_false', beq_iff_eq, beq_eq_false_iff_ne, ne_eq] at hq); omega) ?_ | fail)
      refine ⟨k + 1, by omega, by omega, by rfl, ?_⟩
      rw [hys, ez, List.append_nil]
      simp (maxSteps := 400000) (disch := omega) only [push_cast, ↓reduceIte, reduceCtorEq, Nat.reduceAdd, Nat.reduceSub, Nat.reduceEqDiff, Nat.reduceLeDiff, Nat.reduceLT, Nat.reduceBEq, Nat.reduceDiv, Nat.reduceMod, Nat.reducePow, Nat.reduceMul, Int.reduceToNat, Int.reduceLT, Int.reduceLE, S.mk.injEq, List.cons.injEq, Prod.mk.injEq, AV.v.injEq, Value.int.injEq, Value.bool.injEq, Blk.cells.injEq]
  · have hk6 : k = 6 := by omega
    subst hk6
    rw [← hsn]
    rw [← hsn] at hal
    repeat' (first | refine WK_go ?_ | refine W_seqL ?_ | refine W_seq ?_ | refine W_block ?_ | refine W_scp ?_ | ((first | refine W_regL ?_ | refine W_skip ?_ | refine W_exit ?_); simp (maxSteps := 400000) (disch := omega) only [push_cast, ↓reduceIte, reduceCtorEq, Nat.reduceAdd, Nat.reduceSub, Nat.reduceEqDiff, Nat.reduceLeDiff, Nat.reduceLT, Nat.reduceBEq, Nat.reduceDiv, Nat.reduceMod, Nat.reducePow, Nat.reduceMul, Int.reduceToNat, Int.reduceLT, Int.reduceLE]) | refine And.intro (by omega) ?_ | refine And.intro (by intro hq; (try simp only [Bool.and_eq_true, Bool.or_eq_true, Bool.and_eq_false_iff, Bool.or_eq_false_iff, decide_eq_true_eq, decide_eq_false_iff_not, Bool.not_eq_true', Bool.not_eq_false', beq_iff_eq, beq_eq_false_iff_ne, ne_eq] at hq); omega) ?_ | fail)
    refine ⟨i + 1, by omega, by omega, by rfl, ?_⟩
    simp (maxSteps := 400000) (disch := omega) only [push_cast, ↓reduceIte, reduceCtorEq, Nat.reduceAdd, Nat.reduceSub, Nat.reduceEqDiff, Nat.reduceLeDiff, Nat.reduceLT, Nat.reduceBEq, Nat.reduceDiv, Nat.reduceMod, Nat.reducePow, Nat.reduceMul, Int.reduceToNat, Int.reduceLT, Int.reduceLE, S.mk.injEq, List.cons.injEq, Prod.mk.injEq, AV.v.injEq, Value.int.injEq, Value.bool.injEq, Blk.cells.injEq]
end Go.Proofs.Ytfbdlmenhoagmaa

namespace Go.Proofs.Ytfbdlmenhoagmaa
open Go Sy
set_option maxRecDepth 100000
set_option maxHeartbeats 4000000
set_option linter.unusedVariables false
set_option linter.unusedSimpArgs false
end Go.Proofs.Ytfbdlmenhoagmaa

namespace Go.Proofs.Ytfbdlmenhoagmaa
open Go Sy
set_option maxRecDepth 100000
set_option maxHeartbeats 4000000
set_option linter.unusedVariables false
set_option linter.unusedSimpArgs false
def BI (g : List Int → Int) (ok : List Int → Bool) (L : List (List Int)) (i : Nat) (b : Int) : Prop :=
  (b = -1 ∧ leastL g ok (L.take i) = none) ∨ (0 ≤ b ∧ b < i ∧ leastL g ok (L.take i) = some (L.getD b.toNat [], g (L.getD b.toNat [])))
theorem take_snocL {L : List (List Int)} {i : Nat} (h : i < L.length) : L.take (i + 1) = L.take i ++ [L.getD i []] := by
  rw [List.take_add_one]
  simp [List.getD, h]
theorem BI.yes {g : List Int → Int} {ok : List Int → Bool} {L : List (List Int)} {i : Nat} {b : Int} (h : BI g ok L i b) (hi : i < L.length) (ho : ok (L.getD i []) = true) (hl : b < 0 ∨ g (L.getD i []) < g (L.getD b.toNat [])) : BI g ok L (i + 1) i := by
  right
  refine ⟨by omega, by omega, ?_⟩
  rw [take_snocL hi, leastL_snoc, Int.toNat_natCast]
  unfold lstep
  rw [if_pos ho]
  rcases h with ⟨h1, h2⟩ | ⟨h1, h2, h3⟩
  · rw [h2]
  · rw [h3]
    show (if _ then _ else _) = _
    rw [if_pos (by omega)]
theorem BI.no {g : List Int → Int} {ok : List Int → Bool} {L : List (List Int)} {i : Nat} {b : Int} (h : BI g ok L i b) (hi : i < L.length) (ho : ok (L.getD i []) = false ∨ (0 ≤ b ∧ g (L.getD b.toNat []) ≤ g (L.getD i []))) : BI g ok L (i + 1) b := by
  have e : ∀ x, leastL g ok (L.take i) = x → (x = none → b < 0) → (∀ p, x = some p → p.2 = g (L.getD b.toNat [])) → leastL g ok (L.take (i + 1)) = x := fun x hx h1 h2 => by
    rw [take_snocL hi, leastL_snoc, hx]
    unfold lstep
    rcases ho with ho | ⟨ho1, ho2⟩
    · rw [if_neg (by rw [ho]; simp)]
    · rcases x with _ | ⟨y, n⟩
      · have := h1 rfl; omega
      · have := h2 _ rfl
        dsimp only at this
        split
        · show (if _ then _ else _) = _
          rw [if_neg (by omega)]
        · rfl
  rcases h with ⟨h1, h2⟩ | ⟨h1, h2, h3⟩
  · exact .inl ⟨h1, e _ h2 (fun _ => by omega) (fun p hp => by cases hp)⟩
  · exact .inr ⟨h1, by omega, e _ h3 (fun q => by cases q) (fun p hp => by cases hp; rfl)⟩
end Go.Proofs.Ytfbdlmenhoagmaa

namespace Go.Proofs.Ytfbdlmenhoagmaa
open Go Sy
set_option maxRecDepth 100000
set_option maxHeartbeats 4000000
set_option linter.unusedVariables false
set_option linter.unusedSimpArgs false
end Go.Proofs.Ytfbdlmenhoagmaa

namespace Go.Proofs.Ytfbdlmenhoagmaa
open Go Sy
set_option linter.unusedVariables false
inductive Pt (m : Mp) (fr : Int) : List Int → Int → Prop
  | nil : Pt m fr [] fr
  | snoc {l : List Int} {a : Int} {i : Nat} : Pt m fr l a → i < m.rs.length → (gr m i).f = a → Pt m fr (l ++ [(i : Int)]) (gr m i).t
theorem count_set : ∀ (l : List Bool) (i : Nat), i < l.length → l.getD i false = false → (l.set i true).count false + 1 = l.count false
  | [], i, h, _ => by simp at h
  | b :: l, 0, h, hb => by
    have : b = false := by simpa using hb
    subst this
    simp
  | b :: l, i + 1, h, hb => by
    have h1 := count_set l i (by simpa using h) (by simpa using hb)
    rw [List.set_cons_succ, List.count_cons, List.count_cons]
    omega
end Go.Proofs.Ytfbdlmenhoagmaa

namespace Go.Proofs.Ytfbdlmenhoagmaa
open Go Sy
set_option maxRecDepth 100000
set_option maxHeartbeats 4000000
set_option linter.unusedVariables false
set_option linter.unusedSimpArgs false
end Go.Proofs.Ytfbdlmenhoagmaa

namespace Go.Proofs.Ytfbdlmenhoagmaa
open Go Sy
set_option linter.unusedVariables false
theorem Pt.cons {m : Mp} {a b : Int} {l : List Int} {i : Nat} (hi : i < m.rs.length) (h : Pt m (gr m i).t l b) (hf : (gr m i).f = a) : Pt m a ((i : Int) :: l) b := by
  induction h with
  | nil =>
    have := Pt.snoc (Pt.nil (m := m) (fr := a)) hi hf
    exact this
  | snoc _ h2 h3 ih => exact .snoc ih h2 h3
structure Way (m : Mp) (f : Nat → Int) (s left : List Int) (to a : Int) (l : List Int) : Prop where
  u : ∀ x ∈ l, usB m f s x.toNat = true
  c : sumR m l = gi left a.toNat
  p : Pt m a l to
  f : ∀ i, i < l.length → (gr m (gi l i).toNat).f = atP m a l i
  d : ∀ i, i < l.length → gi left (gr m (gi l i).toNat).t.toNat < gi left (atP m a l i).toNat
  e : atP m a l l.length = to
end Go.Proofs.Ytfbdlmenhoagmaa

namespace Go.Proofs.Ytfbdlmenhoagmaa
open Go Sy
set_option maxRecDepth 100000
set_option maxHeartbeats 4000000
set_option linter.unusedVariables false
set_option linter.unusedSimpArgs false
end Go.Proofs.Ytfbdlmenhoagmaa

namespace Go.Proofs.Ytfbdlmenhoagmaa
open Go Sy
set_option maxRecDepth 100000
set_option maxHeartbeats 4000000
set_option linter.unusedVariables false
set_option linter.unusedSimpArgs false
theorem fn105 (m : Mp) (h : m.ws.length ≤ 1000000) : Sy.Fn Try.prog 105 [aM m] (aI (evL m.ws.length)) := by
  refine Fn_of_W mixed Xt105 rfl ?_
  repeat' (first | refine WK_go ?_ | refine W_seqL ?_ | refine W_seq ?_ | refine W_block ?_ | refine W_scp ?_ | ((first | refine W_regL ?_ | refine W_skip ?_ | refine W_exit ?_); simp (maxSteps := 400000) (disch := omega) only [push_cast, ↓reduceIte, reduceCtorEq, Nat.reduceAdd, Nat.reduceSub, Nat.reduceEqDiff, Nat.reduceLeDiff, Nat.reduceLT, Nat.reduceBEq, Nat.reduceDiv, Nat.reduceMod, Nat.reducePow, Nat.reduceMul, Int.reduceToNat, Int.reduceLT, Int.reduceLE]) | refine And.intro (by omega) ?_ | refine And.intro (by intro hq; (try simp only [Bool.and_eq_true, Bool.or_eq_true, Bool.and_eq_false_iff, Bool.or_eq_false_iff, decide_eq_true_eq, decide_eq_false_iff_not, Bool.not_eq_true', Bool.not_eq_false', beq_iff_eq, beq_eq_false_iff_ne, ne_eq] at hq); omega) ?_ | fail)
  refine W_le (le_adopt 3 3 1 0 cI (by omega) rfl) ?_
  simp (maxSteps := 400000) (disch := omega) only [push_cast, ↓reduceIte, reduceCtorEq, Nat.reduceAdd, Nat.reduceSub, Nat.reduceEqDiff, Nat.reduceLeDiff, Nat.reduceLT, Nat.reduceBEq, Nat.reduceDiv, Nat.reduceMod, Nat.reducePow, Nat.reduceMul, Int.reduceToNat, Int.reduceLT, Int.reduceLE]
  refine W_loopU (fun i : Nat => [(3, .row 4 i), (4, iv i)]) (fun i => [(4, .row i 3 1 0 cI (evL i))]) (fun i => i ≤ m.ws.length) (fun i => m.ws.length - i) 0 (by omega) (by rfl) (by rfl) (fun i hi => ?_)
  have hel := ev_len i
  simp (maxSteps := 400000) (disch := omega) only [push_cast, ↓reduceIte, reduceCtorEq, Nat.reduceAdd, Nat.reduceSub, Nat.reduceEqDiff, Nat.reduceLeDiff, Nat.reduceLT, Nat.reduceBEq, Nat.reduceDiv, Nat.reduceMod, Nat.reducePow, Nat.reduceMul, Int.reduceToNat, Int.reduceLT, Int.reduceLE]
  repeat' (first | refine WK_go ?_ | refine W_seqL ?_ | refine W_seq ?_ | refine W_block ?_ | refine W_scp ?_ | ((first | refine W_regL ?_ | refine W_skip ?_ | refine W_exit ?_); simp (maxSteps := 400000) (disch := omega) only [push_cast, ↓reduceIte, reduceCtorEq, Nat.reduceAdd, Nat.reduceSub, Nat.reduceEqDiff, Nat.reduceLeDiff, Nat.reduceLT, Nat.reduceBEq, Nat.reduceDiv, Nat.reduceMod, Nat.reducePow, Nat.reduceMul, Int.reduceToNat, Int.reduceLT, Int.reduceLE]) | refine And.intro (by omega) ?_ | refine And.intro (by intro hq; (try simp only [Bool.and_eq_true, Bool.or_eq_true, Bool.and_eq_false_iff, Bool.or_eq_false_iff, decide_eq_true_eq, decide_eq_false_iff_not, Bool.not_eq_true', Bool.not_eq_false', beq_iff_eq, beq_eq_false_iff_ne, ne_eq] at hq); omega) ?_ | fail)
  refine W_condD (by rfl) (fun h5 => ?_) (fun h5 => ?_)
  · repeat' (first | refine WK_go ?_ | refine W_seqL ?_ | refine W_seq ?_ | refine W_block ?_ | refine W_scp ?_ | ((first | refine W_regL ?_ | refine W_skip ?_ | refine W_exit ?_); simp (maxSteps := 400000) (disch := omega) only [push_cast, ↓reduceIte, reduceCtorEq, Nat.reduceAdd, Nat.reduceSub, Nat.reduceEqDiff, Nat.reduceLeDiff, Nat.reduceLT, Nat.reduceBEq, Nat.reduceDiv, Nat.reduceMod, Nat.reducePow, Nat.reduceMul, Int.reduceToNat, Int.reduceLT, Int.reduceLE]) | refine And.intro (by omega) ?_ | refine And.intro (by intro hq; (try simp only [Bool.and_eq_true, Bool.or_eq_true, Bool.and_eq_false_iff, Bool.or_eq_false_iff, decide_eq_true_eq, decide_eq_false_iff_not, Bool.not_eq_true', Bool.not_eq_false', beq_iff_eq, beq_eq_false_iff_ne, ne_eq] at hq); omega) ?_ | fail)
    refine ⟨rfl, trivial, Int, 0, cI, [(i : Int)], rfl, by omega, fun x _ => ⟨rfl, rfl⟩, rfl, ?_⟩
    simp (maxSteps := 400000) (disch := omega) only [push_cast, ↓reduceIte, reduceCtorEq, Nat.reduceAdd, Nat.reduceSub, Nat.reduceEqDiff, Nat.reduceLeDiff, Nat.reduceLT, Nat.reduceBEq, Nat.reduceDiv, Nat.reduceMod, Nat.reducePow, Nat.reduceMul, Int.reduceToNat, Int.reduceLT, Int.reduceLE]
    refine ⟨rfl, ⟨Nat.le_of_ble_eq_true rfl, rfl⟩, trivial, [(i : Int)], rfl, by first | omega | (simp; omega), by first | omega | (simp; omega), ?_⟩
    simp (maxSteps := 400000) (disch := omega) only [push_cast, ↓reduceIte, reduceCtorEq, Nat.reduceAdd, Nat.reduceSub, Nat.reduceEqDiff, Nat.reduceLeDiff, Nat.reduceLT, Nat.reduceBEq, Nat.reduceDiv, Nat.reduceMod, Nat.reducePow, Nat.reduceMul, Int.reduceToNat, Int.reduceLT, Int.reduceLE]
    repeat' (first | refine WK_go ?_ | refine W_seqL ?_ | refine W_seq ?_ | refine W_block ?_ | refine W_scp ?_ | ((first | refine W_regL ?_ | refine W_skip ?_ | refine W_exit ?_); simp (maxSteps := 400000) (disch := omega) only [push_cast, ↓reduceIte, reduceCtorEq, Nat.reduceAdd, Nat.reduceSub, Nat.reduceEqDiff, Nat.reduceLeDiff, Nat.reduceLT, Nat.reduceBEq, Nat.reduceDiv, Nat.reduceMod, Nat.reducePow, Nat.reduceMul, Int.reduceToNat, Int.reduceLT, Int.reduceLE]) | refine And.intro (by omega) ?_ | refine And.intro (by intro hq; (try simp only [Bool.and_eq_true, Bool.or_eq_true, Bool.and_eq_false_iff, Bool.or_eq_false_iff, decide_eq_true_eq, decide_eq_false_iff_not, Bool.not_eq_true', Bool.not_eq_false', beq_iff_eq, beq_eq_false_iff_ne, ne_eq] at hq); omega) ?_ | fail)
    refine ⟨i + 1, by omega, by omega, by rfl, ?_⟩
    rw [ev_succ]
    simp (maxSteps := 400000) (disch := omega) only [push_cast, ↓reduceIte, reduceCtorEq, Nat.reduceAdd, Nat.reduceSub, Nat.reduceEqDiff, Nat.reduceLeDiff, Nat.reduceLT, Nat.reduceBEq, Nat.reduceDiv, Nat.reduceMod, Nat.reducePow, Nat.reduceMul, Int.reduceToNat, Int.reduceLT, Int.reduceLE, S.mk.injEq, List.cons.injEq, Prod.mk.injEq, AV.v.injEq, Value.int.injEq, Value.bool.injEq, Blk.cells.injEq]
  · rw [show i = m.ws.length by omega]
    repeat' (first | refine WK_go ?_ | refine W_seqL ?_ | refine W_seq ?_ | refine W_block ?_ | refine W_scp ?_ | ((first | refine W_regL ?_ | refine W_skip ?_ | refine W_exit ?_); simp (maxSteps := 400000) (disch := omega) only [push_cast, ↓reduceIte, reduceCtorEq, Nat.reduceAdd, Nat.reduceSub, Nat.reduceEqDiff, Nat.reduceLeDiff, Nat.reduceLT, Nat.reduceBEq, Nat.reduceDiv, Nat.reduceMod, Nat.reducePow, Nat.reduceMul, Int.reduceToNat, Int.reduceLT, Int.reduceLE]) | refine And.intro (by omega) ?_ | refine And.intro (by intro hq; (try simp only [Bool.and_eq_true, Bool.or_eq_true, Bool.and_eq_false_iff, Bool.or_eq_false_iff, decide_eq_true_eq, decide_eq_false_iff_not, Bool.not_eq_true', Bool.not_eq_false', beq_iff_eq, beq_eq_false_iff_ne, ne_eq] at hq); omega) ?_ | fail)
    refine W_ret ⟨[_], ⟨rfl, rfl⟩, ?_⟩
    simp (maxSteps := 400000) (disch := omega) only [push_cast, ↓reduceIte, reduceCtorEq, Nat.reduceAdd, Nat.reduceSub, Nat.reduceEqDiff, Nat.reduceLeDiff, Nat.reduceLT, Nat.reduceBEq, Nat.reduceDiv, Nat.reduceMod, Nat.reducePow, Nat.reduceMul, Int.reduceToNat, Int.reduceLT, Int.reduceLE, pack]
theorem us_one {m : Mp} {f : Nat → Int} {s : List Int} {road : Nat} : ((czR m f s [(road : Int)]).length : Int) = 0 ↔ usB m f s road = true := by
  have h := czR_nil (m := m) (f := f) (s := s) (rs := [(road : Int)])
  have e : allU m f [(road : Int)] s = usB m f s road := by simp [allU]
  rw [e] at h
  rw [← h]
  omega
theorem rdE_one {m : Mp} {road : Nat} (h : road < m.rs.length) : rdE m [(road : Int)] = 0 := by
  unfold rdE
  rw [if_neg (by simp), if_neg]
  rw [List.any_eq_true]
  rintro ⟨y, hy, hq⟩
  rw [List.mem_singleton] at hy
  subst hy
  rw [plB_of (by omega)] at hq; cases hq
theorem fn103 (m : Mp) (f : Nat → Int) (s : List Int) (road : Nat) (h : OkM m) (hs : Srt m.ws.length 0 s) (hr : road < m.rs.length) : Sy.Fn Try.prog 103 [aM m, .agg (c6 f), aI s, iv road] (bv (usB m f s road)) := by
  refine Fn_of_W mixed Xt103 rfl ?_
  have c80 := fn80 m f s [(road : Int)] h hs (rdE_one hr)
  have hz := us_one (m := m) (f := f) (s := s) (road := road)
  have hcl := czR_len m f s [(road : Int)]
  have e : (((czR m f s [(road : Int)]).length : Int) == 0) = usB m f s road := by
    rw [Bool.eq_iff_iff, beq_iff_eq, hz]
  generalize czR m f s [(road : Int)] = Z at *
  repeat (first | refine WK_go ?_ | refine W_seqL ?_ | refine W_seq ?_ | refine W_block ?_)
  refine W_regL ?_
  simp (maxSteps := 400000) (disch := omega) only [push_cast, ↓reduceIte, reduceCtorEq, Nat.reduceAdd, Nat.reduceSub, Nat.reduceEqDiff, Nat.reduceLeDiff, Nat.reduceLT, Nat.reduceBEq, Nat.reduceDiv, Nat.reduceMod, Nat.reducePow, Nat.reduceMul, Int.reduceToNat, Int.reduceLT, Int.reduceLE]
  repeat (first | refine WK_go ?_ | refine W_seqL ?_ | refine W_seq ?_ | refine W_block ?_)
  refine W_regP [5] (by decide) ?_
  simp (maxSteps := 400000) (disch := omega) only [push_cast, ↓reduceIte, reduceCtorEq, Nat.reduceAdd, Nat.reduceSub, Nat.reduceEqDiff, Nat.reduceLeDiff, Nat.reduceLT, Nat.reduceBEq, Nat.reduceDiv, Nat.reduceMod, Nat.reducePow, Nat.reduceMul, Int.reduceToNat, Int.reduceLT, Int.reduceLE, chainP, List.take_succ_cons, List.take_zero, List.drop_succ_cons, List.drop_zero]
  refine ⟨rfl, trivial, Int, 0, cI, [(road : Int)], rfl, by omega, fun x _ => ⟨rfl, rfl⟩, rfl, ?_⟩
  simp (maxSteps := 400000) (disch := omega) only [push_cast, ↓reduceIte, reduceCtorEq, Nat.reduceAdd, Nat.reduceSub, Nat.reduceEqDiff, Nat.reduceLeDiff, Nat.reduceLT, Nat.reduceBEq, Nat.reduceDiv, Nat.reduceMod, Nat.reducePow, Nat.reduceMul, Int.reduceToNat, Int.reduceLT, Int.reduceLE]
  refine ⟨_, le_frzR 13 [9, 10, 11] [] 8 7 0 3 1 0 cI [(road : Int)] rfl rfl rfl rfl, ?_⟩
  simp (maxSteps := 400000) (disch := omega) only [push_cast, ↓reduceIte, reduceCtorEq, Nat.reduceAdd, Nat.reduceSub, Nat.reduceEqDiff, Nat.reduceLeDiff, Nat.reduceLT, Nat.reduceBEq, Nat.reduceDiv, Nat.reduceMod, Nat.reducePow, Nat.reduceMul, Int.reduceToNat, Int.reduceLT, Int.reduceLE, chainP, List.take_succ_cons, List.take_zero, List.drop_succ_cons, List.drop_zero]
  refine CallC.now c80 ?_
  simp (maxSteps := 400000) (disch := omega) only [push_cast, ↓reduceIte, reduceCtorEq, Nat.reduceAdd, Nat.reduceSub, Nat.reduceEqDiff, Nat.reduceLeDiff, Nat.reduceLT, Nat.reduceBEq, Nat.reduceDiv, Nat.reduceMod, Nat.reducePow, Nat.reduceMul, Int.reduceToNat, Int.reduceLT, Int.reduceLE, e]
  repeat' (first | refine WK_go ?_ | refine W_seqL ?_ | refine W_seq ?_ | refine W_block ?_ | refine W_scp ?_ | ((first | refine W_regL ?_ | refine W_skip ?_ | refine W_exit ?_); simp (maxSteps := 400000) (disch := omega) only [push_cast, ↓reduceIte, reduceCtorEq, Nat.reduceAdd, Nat.reduceSub, Nat.reduceEqDiff, Nat.reduceLeDiff, Nat.reduceLT, Nat.reduceBEq, Nat.reduceDiv, Nat.reduceMod, Nat.reducePow, Nat.reduceMul, Int.reduceToNat, Int.reduceLT, Int.reduceLE]) | refine And.intro (by omega) ?_ | refine And.intro (by intro hq; (try simp only [Bool.and_eq_true, Bool.or_eq_true, Bool.and_eq_false_iff, Bool.or_eq_false_iff, decide_eq_true_eq, decide_eq_false_iff_not, Bool.not_eq_true', Bool.not_eq_false', beq_iff_eq, beq_eq_false_iff_ne, ne_eq] at hq); omega) ?_ | fail)
  exact W_ret ⟨[_], ⟨rfl, rfl⟩, rfl⟩
def ldsB (m : Mp) (f : Nat → Int) (road k : Nat) : Bool := usB m f (evL m.ws.length) road && decide ((gr m road).lim k < f k)
theorem fn133 (m : Mp) (f : Nat → Int) (road k : Nat) (h : OkM m) (hr : road < m.rs.length) (hk : k < 6) : Sy.Fn Try.prog 133 [aM m, .agg (c6 f), iv road, iv k] (bv (ldsB m f road k)) := by
  refine Fn_of_W mixed Xt133 rfl ?_
  have hw := h.nw
  have c105 := fn105 m (by omega)
  have c103 := fn103 m f (evL m.ws.length) road h (ev_srt _) hr
  have hlim : nth (cR (gr m road)) (6 + k) = iv ((gr m road).lim k) := by
    rcases k with _ | _ | _ | _ | _ | _ | k <;> first | rfl | omega
  have hgr : m.rs.getD road dR = gr m road := rfl
  unfold ldsB
  generalize usB m f (evL m.ws.length) road = U at *
  generalize evL m.ws.length = E at *
  repeat' (first | refine WK_go ?_ | refine W_seqL ?_ | refine W_seq ?_ | refine W_block ?_ | refine W_scp ?_ | ((first | refine W_regL ?_ | refine W_skip ?_ | refine W_exit ?_ | refine CallC.now (c105) ?_ | refine CallC.now (c103) ?_); simp (maxSteps := 400000) (disch := omega) only [push_cast, ↓reduceIte, reduceCtorEq, Nat.reduceAdd, Nat.reduceSub, Nat.reduceEqDiff, Nat.reduceLeDiff, Nat.reduceLT, Nat.reduceBEq, Nat.reduceDiv, Nat.reduceMod, Nat.reducePow, Nat.reduceMul, Int.reduceToNat, Int.reduceLT, Int.reduceLE, hgr, hlim, Nat.mul_one, Nat.zero_add, Nat.add_assoc]) | refine And.intro (by omega) ?_ | refine And.intro (by intro hq; (try simp only [Bool.and_eq_true, Bool.or_eq_true, Bool.and_eq_false_iff, Bool.or_eq_false_iff, decide_eq_true_eq, decide_eq_false_iff_not, Bool.not_eq_true', Bool.not_eq_false', beq_iff_eq, beq_eq_false_iff_ne, ne_eq] at hq); omega) ?_ | fail)
  exact W_ret ⟨[_], ⟨rfl, rfl⟩, rfl⟩
def hpsB (m : Mp) (f : Nat → Int) (w road k : Nat) : Bool := ((gw m w).k == (k : Int) && decide ((road : Int) ∈ (gw m w).rs)) && decide (f k ≤ (gw m w).l)
theorem fn134 (m : Mp) (f : Nat → Int) (w road k : Nat) (h : OkM m) (hw : w < m.ws.length) (hk : k < 6) : Sy.Fn Try.prog 134 [aM m, .agg (c6 f), iv w, iv road, iv k] (bv (hpsB m f w road k)) := by
  refine Fn_of_W mixed Xt134 rfl ?_
  have hgw : m.ws.getD w dW = gw m w := rfl
  have hwl := h.s w hw
  have c107 := fn107 (gw m w).rs (road : Int) (by omega)
  unfold hpsB
  generalize gw m w = W at *
  repeat' (first | refine WK_go ?_ | refine W_seqL ?_ | refine W_seq ?_ | refine W_block ?_ | refine W_scp ?_ | ((first | refine W_regL ?_ | refine W_skip ?_ | refine W_exit ?_ | refine CallC.go _ (fun _ => ⟨trivial, c107⟩) rfl ?_); simp (maxSteps := 400000) (disch := omega) only [push_cast, ↓reduceIte, reduceCtorEq, Nat.reduceAdd, Nat.reduceSub, Nat.reduceEqDiff, Nat.reduceLeDiff, Nat.reduceLT, Nat.reduceBEq, Nat.reduceDiv, Nat.reduceMod, Nat.reducePow, Nat.reduceMul, Int.reduceToNat, Int.reduceLT, Int.reduceLE, hgw, Nat.mul_one, Nat.zero_add]) | refine And.intro (by omega) ?_ | refine And.intro (by intro hq; (try simp only [Bool.and_eq_true, Bool.or_eq_true, Bool.and_eq_false_iff, Bool.or_eq_false_iff, decide_eq_true_eq, decide_eq_false_iff_not, Bool.not_eq_true', Bool.not_eq_false', beq_iff_eq, beq_eq_false_iff_ne, ne_eq] at hq); omega) ?_ | fail)
  exact W_ret ⟨[_], ⟨rfl, rfl⟩, rfl⟩
structure Prt where
  w : Int
  r : Int
  k : Int
  v : Int
def dP : Prt := ⟨0, 0, 0, 0⟩
def cP (c : Prt) : List AV := [iv c.w, iv c.r, iv c.k, iv c.v]
theorem lP (c : Prt) : (cP c).length = 4 := rfl
theorem frP (c : Prt) : frzAll (cP c) = true := rfl
theorem tP (c : Prt) : List.take 4 (List.drop 0 (cP c)) = cP c := rfl
theorem tP2 (c : Prt) : List.take 4 (cP c) = cP c := rfl
theorem nP0 (c : Prt) : nth (cP c) 0 = iv c.w := rfl
theorem nP1 (c : Prt) : nth (cP c) 1 = iv c.r := rfl
theorem nP2 (c : Prt) : nth (cP c) 2 = iv c.k := rfl
theorem nP3 (c : Prt) : nth (cP c) 3 = iv c.v := rfl
attribute [push_cast] lP frP tP tP2 nP0 nP1 nP2 nP3
abbrev aP (l : List Prt) : AV := .sl 4 dP cP l
def prB (w r k : Int) (p : Prt) : Bool := p.w == w && p.r == r && p.k == k
def partV (w r k : Int) : List Prt → Int
  | [] => 0
  | p :: ps => if prB w r k p = true then p.v else partV w r k ps
theorem partV_drop (w r k : Int) {ps : List Prt} {i : Nat} (h : i < ps.length) : partV w r k (ps.drop i) = if prB w r k (ps.getD i dP) = true then (ps.getD i dP).v else partV w r k (ps.drop (i + 1)) := by
  rw [List.drop_eq_getElem_cons h]
  have : ps.getD i dP = ps[i] := by simp [List.getD, h]
  rw [this]
  rfl
theorem fn135 (ps : List Prt) (w r k : Int) (hl : ps.length ≤ 1000000) : Sy.Fn Try.prog 135 [aP ps, iv w, iv r, iv k] (iv (partV w r k ps)) := by
  refine Fn_of_W mixed Xt135 rfl ?_
  repeat' (first | refine WK_go ?_ | refine W_seqL ?_ | refine W_seq ?_ | refine W_block ?_ | refine W_scp ?_ | ((first | refine W_regL ?_ | refine W_skip ?_ | refine W_exit ?_); simp (maxSteps := 400000) (disch := omega) only [push_cast, ↓reduceIte, reduceCtorEq, Nat.reduceAdd, Nat.reduceSub, Nat.reduceEqDiff, Nat.reduceLeDiff, Nat.reduceLT, Nat.reduceBEq, Nat.reduceDiv, Nat.reduceMod, Nat.reducePow, Nat.reduceMul, Int.reduceToNat, Int.reduceLT, Int.reduceLE]) | refine And.intro (by omega) ?_ | refine And.intro (by intro hq; (try simp only [Bool.and_eq_true, Bool.or_eq_true, Bool.and_eq_false_iff, Bool.or_eq_false_iff, decide_eq_true_eq, decide_eq_false_iff_not, Bool.not_eq_true', Bool.not_eq_false', beq_iff_eq, beq_eq_false_iff_ne, ne_eq] at hq); omega) ?_ | fail)
  refine W_loopU (fun i : Nat => [(9, iv i)]) (fun i => []) (fun i => i ≤ ps.length ∧ partV w r k ps = partV w r k (ps.drop i)) (fun i => ps.length - i) 0 ⟨by omega, rfl⟩ (by rfl) (by rfl) (fun i hi => ?_)
  obtain ⟨hi, hp⟩ := hi
  simp (maxSteps := 400000) (disch := omega) only [push_cast, ↓reduceIte, reduceCtorEq, Nat.reduceAdd, Nat.reduceSub, Nat.reduceEqDiff, Nat.reduceLeDiff, Nat.reduceLT, Nat.reduceBEq, Nat.reduceDiv, Nat.reduceMod, Nat.reducePow, Nat.reduceMul, Int.reduceToNat, Int.reduceLT, Int.reduceLE]
  repeat' (first | refine WK_go ?_ | refine W_seqL ?_ | refine W_seq ?_ | refine W_block ?_ | refine W_scp ?_ | ((first | refine W_regL ?_ | refine W_skip ?_ | refine W_exit ?_); simp (maxSteps := 400000) (disch := omega) only [push_cast, ↓reduceIte, reduceCtorEq, Nat.reduceAdd, Nat.reduceSub, Nat.reduceEqDiff, Nat.reduceLeDiff, Nat.reduceLT, Nat.reduceBEq, Nat.reduceDiv, Nat.reduceMod, Nat.reducePow, Nat.reduceMul, Int.reduceToNat, Int.reduceLT, Int.reduceLE]) | refine And.intro (by omega) ?_ | refine And.intro (by intro hq; (try simp only [Bool.and_eq_true, Bool.or_eq_true, Bool.and_eq_false_iff, Bool.or_eq_false_iff, decide_eq_true_eq, decide_eq_false_iff_not, Bool.not_eq_true', Bool.not_eq_false', beq_iff_eq, beq_eq_false_iff_ne, ne_eq] at hq); omega) ?_ | fail)
  refine W_condD (by rfl) (fun h5 => ?_) (fun h5 => ?_)
  · have hlt : i < ps.length := by omega
    rw [partV_drop w r k hlt] at hp
    obtain ⟨p, hpp⟩ : ∃ p, ps.getD i dP = p := ⟨_, rfl⟩
    rw [hpp] at hp
    repeat' (first | refine WK_go ?_ | refine W_seqL ?_ | refine W_seq ?_ | refine W_block ?_ | refine W_scp ?_ | ((first | refine W_regL ?_ | refine W_skip ?_ | refine W_exit ?_); simp (maxSteps := 400000) (disch := omega) only [push_cast, ↓reduceIte, reduceCtorEq, Nat.reduceAdd, Nat.reduceSub, Nat.reduceEqDiff, Nat.reduceLeDiff, Nat.reduceLT, Nat.reduceBEq, Nat.reduceDiv, Nat.reduceMod, Nat.reducePow, Nat.reduceMul, Int.reduceToNat, Int.reduceLT, Int.reduceLE, hpp, Nat.zero_add, Nat.mul_one]) | refine And.intro (by omega) ?_ | refine And.intro (by intro hq; (try simp only [Bool.and_eq_true, Bool.or_eq_true, Bool.and_eq_false_iff, Bool.or_eq_false_iff, decide_eq_true_eq, decide_eq_false_iff_not, Bool.not_eq_true', Bool.not_eq_false', beq_iff_eq, beq_eq_false_iff_ne, ne_eq] at hq); omega) ?_ | fail)
    refine W_cond (by rfl) (fun hz => ?_) (fun hz => ?_)
    · have hz : prB w r k p = true := hz
      rw [if_pos hz] at hp
      rw [hp]
      repeat' (first | refine WK_go ?_ | refine W_seqL ?_ | refine W_seq ?_ | refine W_block ?_ | refine W_scp ?_ | ((first | refine W_regL ?_ | refine W_skip ?_ | refine W_exit ?_); simp (maxSteps := 400000) (disch := omega) only [push_cast, ↓reduceIte, reduceCtorEq, Nat.reduceAdd, Nat.reduceSub, Nat.reduceEqDiff, Nat.reduceLeDiff, Nat.reduceLT, Nat.reduceBEq, Nat.reduceDiv, Nat.reduceMod, Nat.reducePow, Nat.reduceMul, Int.reduceToNat, Int.reduceLT, Int.reduceLE, hpp, Nat.zero_add, Nat.mul_one]) | refine And.intro (by omega) ?_ | refine And.intro (by intro hq; (try simp only [Bool.and_eq_true, Bool.or_eq_true, Bool.and_eq_false_iff, Bool.or_eq_false_iff, decide_eq_true_eq, decide_eq_false_iff_not, Bool.not_eq_true', Bool.not_eq_false', beq_iff_eq, beq_eq_false_iff_ne, ne_eq] at hq); omega) ?_ | fail)
      exact W_ret ⟨[_], ⟨rfl, rfl⟩, rfl⟩
    · have hz : prB w r k p = false := hz
      rw [if_neg (by rw [hz]; simp)] at hp
      repeat' (first | refine WK_go ?_ | refine W_seqL ?_ | refine W_seq ?_ | refine W_block ?_ | refine W_scp ?_ | ((first | refine W_regL ?_ | refine W_skip ?_ | refine W_exit ?_); simp (maxSteps := 400000) (disch := omega) only [push_cast, ↓reduceIte, reduceCtorEq, Nat.reduceAdd, Nat.reduceSub, Nat.reduceEqDiff, Nat.reduceLeDiff, Nat.reduceLT, Nat.reduceBEq, Nat.reduceDiv, Nat.reduceMod, Nat.reducePow, Nat.reduceMul, Int.reduceToNat, Int.reduceLT, Int.reduceLE]) | refine And.intro (by omega) ?_ | refine And.intro (by intro hq; (try simp only [Bool.and_eq_true, Bool.or_eq_true, Bool.and_eq_false_iff, Bool.or_eq_false_iff, decide_eq_true_eq, decide_eq_false_iff_not, Bool.not_eq_true', Bool.not_eq_false', beq_iff_eq, beq_eq_false_iff_ne, ne_eq] at hq); omega) ?_ | fail)
      refine ⟨i + 1, ⟨by omega, hp⟩, by omega, by rfl, ?_⟩
      simp (maxSteps := 400000) (disch := omega) only [push_cast, ↓reduceIte, reduceCtorEq, Nat.reduceAdd, Nat.reduceSub, Nat.reduceEqDiff, Nat.reduceLeDiff, Nat.reduceLT, Nat.reduceBEq, Nat.reduceDiv, Nat.reduceMod, Nat.reducePow, Nat.reduceMul, Int.reduceToNat, Int.reduceLT, Int.reduceLE, S.mk.injEq, List.cons.injEq, Prod.mk.injEq, AV.v.injEq, Value.int.injEq, Value.bool.injEq, Blk.cells.injEq]
  · have hil : i = ps.length := by omega
    rw [hil, List.drop_length] at hp
    rw [hp]
    repeat' (first | refine WK_go ?_ | refine W_seqL ?_ | refine W_seq ?_ | refine W_block ?_ | refine W_scp ?_ | ((first | refine W_regL ?_ | refine W_skip ?_ | refine W_exit ?_); simp (maxSteps := 400000) (disch := omega) only [push_cast, ↓reduceIte, reduceCtorEq, Nat.reduceAdd, Nat.reduceSub, Nat.reduceEqDiff, Nat.reduceLeDiff, Nat.reduceLT, Nat.reduceBEq, Nat.reduceDiv, Nat.reduceMod, Nat.reducePow, Nat.reduceMul, Int.reduceToNat, Int.reduceLT, Int.reduceLE]) | refine And.intro (by omega) ?_ | refine And.intro (by intro hq; (try simp only [Bool.and_eq_true, Bool.or_eq_true, Bool.and_eq_false_iff, Bool.or_eq_false_iff, decide_eq_true_eq, decide_eq_false_iff_not, Bool.not_eq_true', Bool.not_eq_false', beq_iff_eq, beq_eq_false_iff_ne, ne_eq] at hq); omega) ?_ | fail)
    exact W_ret ⟨[_], ⟨rfl, rfl⟩, rfl⟩
theorem partV_rng {w r k : Int} : ∀ {ps : List Prt}, (∀ p ∈ ps, 0 ≤ p.v) → 0 ≤ partV w r k ps
  | [], _ => Int.le_refl _
  | p :: ps, h => by
    simp only [partV]
    split
    · exact h p List.mem_cons_self
    · exact partV_rng fun q hq => h q (List.mem_cons_of_mem _ hq)
def minS (m : Mp) (f : Nat → Int) (ps : List Prt) (road k : Nat) (a : Int) (w : Nat) : Int := if hpsB m f w road k = true then min a (partV w road k ps) else a
def minP (m : Mp) (f : Nat → Int) (ps : List Prt) (road k n : Nat) : Int := (List.range n).foldl (minS m f ps road k) 1125899906842624
theorem minP_succ (m : Mp) (f : Nat → Int) (ps : List Prt) (road k n : Nat) : minP m f ps road k (n + 1) = minS m f ps road k (minP m f ps road k n) n := by
  unfold minP; rw [List.range_succ, List.foldl_append]; rfl
theorem minP_rng {m : Mp} {f : Nat → Int} {ps : List Prt} {road k : Nat} (h : ∀ p ∈ ps, 0 ≤ p.v) : ∀ n, 0 ≤ minP m f ps road k n ∧ minP m f ps road k n ≤ 1125899906842624
  | 0 => by unfold minP; simp
  | n + 1 => by
    have h1 := minP_rng (m := m) (f := f) (road := road) (k := k) h n
    have h2 := partV_rng (w := n) (r := road) (k := k) h
    rw [minP_succ]
    unfold minS
    split <;> omega
def redK (m : Mp) (f : Nat → Int) (ps : List Prt) (road : Nat) (a : Int) (k : Nat) : Int := if ldsB m f road k = true then a + minP m f ps road k m.ws.length else a
def redS (m : Mp) (f : Nat → Int) (ps : List Prt) (road n : Nat) : Int := (List.range n).foldl (redK m f ps road) (gr m road).c
theorem redS_succ (m : Mp) (f : Nat → Int) (ps : List Prt) (road n : Nat) : redS m f ps road (n + 1) = redK m f ps road (redS m f ps road n) n := by
  unfold redS; rw [List.range_succ, List.foldl_append]; rfl
theorem redS_rng {m : Mp} {f : Nat → Int} {ps : List Prt} {road : Nat} (hok : OkM m) (hr : road < m.rs.length) (h : ∀ p ∈ ps, 0 ≤ p.v) : ∀ n : Nat, 1 ≤ redS m f ps road n ∧ redS m f ps road n ≤ 1073741824 + n * 1125899906842624
  | 0 => by
    have := (roadB_ok (hok.r road hr)).c
    show 1 ≤ (gr m road).c ∧ (gr m road).c ≤ _
    omega
  | n + 1 => by
    have h1 := redS_rng (f := f) hok hr h n
    have h2 := minP_rng (m := m) (f := f) (road := road) (k := n) h m.ws.length
    rw [redS_succ]
    unfold redK
    split <;> omega
theorem fn106 (m : Mp) (f : Nat → Int) (ps : List Prt) (road : Nat) (h : OkM m) (hr : road < m.rs.length) (hl : ps.length ≤ 1000000) (hv : ∀ p ∈ ps, 0 ≤ p.v) : Sy.Fn Try.prog 106 [aM m, .agg (c6 f), aP ps, iv road] (iv (redS m f ps road 6)) := by
  refine Fn_of_W mixed Xt106 rfl ?_
  have hw := h.nw
  have hgr : m.rs.getD road dR = gr m road := rfl
  repeat' (first | refine WK_go ?_ | refine W_seqL ?_ | refine W_seq ?_ | refine W_block ?_ | refine W_scp ?_ | ((first | refine W_regL ?_ | refine W_skip ?_ | refine W_exit ?_); simp (maxSteps := 400000) (disch := omega) only [push_cast, ↓reduceIte, reduceCtorEq, Nat.reduceAdd, Nat.reduceSub, Nat.reduceEqDiff, Nat.reduceLeDiff, Nat.reduceLT, Nat.reduceBEq, Nat.reduceDiv, Nat.reduceMod, Nat.reducePow, Nat.reduceMul, Int.reduceToNat, Int.reduceLT, Int.reduceLE, hgr, Nat.mul_one, Nat.zero_add]) | refine And.intro (by omega) ?_ | refine And.intro (by intro hq; (try simp only [Bool.and_eq_true, Bool.or_eq_true, Bool.and_eq_false_iff, Bool.or_eq_false_iff, decide_eq_true_eq, decide_eq_false_iff_not, Bool.not_eq_true', Bool.not_eq_false', beq_iff_eq, beq_eq_false_iff_ne, ne_eq] at hq); omega) ?_ | fail)
  refine W_loopU (fun k : Nat => [(9, iv (redS m f ps road k)), (10, iv k)]) (fun k => []) (fun k => k ≤ 6) (fun k => 6 - k) 0 (by omega) (by rfl) (by rfl) (fun k hk => ?_)
  simp (maxSteps := 400000) (disch := omega) only [push_cast, ↓reduceIte, reduceCtorEq, Nat.reduceAdd, Nat.reduceSub, Nat.reduceEqDiff, Nat.reduceLeDiff, Nat.reduceLT, Nat.reduceBEq, Nat.reduceDiv, Nat.reduceMod, Nat.reducePow, Nat.reduceMul, Int.reduceToNat, Int.reduceLT, Int.reduceLE]
  repeat' (first | refine WK_go ?_ | refine W_seqL ?_ | refine W_seq ?_ | refine W_block ?_ | refine W_scp ?_ | ((first | refine W_regL ?_ | refine W_skip ?_ | refine W_exit ?_); simp (maxSteps := 400000) (disch := omega) only [push_cast, ↓reduceIte, reduceCtorEq, Nat.reduceAdd, Nat.reduceSub, Nat.reduceEqDiff, Nat.reduceLeDiff, Nat.reduceLT, Nat.reduceBEq, Nat.reduceDiv, Nat.reduceMod, Nat.reducePow, Nat.reduceMul, Int.reduceToNat, Int.reduceLT, Int.reduceLE]) | refine And.intro (by omega) ?_ | refine And.intro (by intro hq; (try simp only [Bool.and_eq_true, Bool.or_eq_true, Bool.and_eq_false_iff, Bool.or_eq_false_iff, decide_eq_true_eq, decide_eq_false_iff_not, Bool.not_eq_true', Bool.not_eq_false', beq_iff_eq, beq_eq_false_iff_ne, ne_eq] at hq); omega) ?_ | fail)
  refine W_condD (by rfl) (fun h5 => ?_) (fun h5 => ?_)
  rotate_left
  · rw [show k = 6 by omega]
    repeat' (first | refine WK_go ?_ | refine W_seqL ?_ | refine W_seq ?_ | refine W_block ?_ | refine W_scp ?_ | ((first | refine W_regL ?_ | refine W_skip ?_ | refine W_exit ?_); simp (maxSteps := 400000) (disch := omega) only [push_cast, ↓reduceIte, reduceCtorEq, Nat.reduceAdd, Nat.reduceSub, Nat.reduceEqDiff, Nat.reduceLeDiff, Nat.reduceLT, Nat.reduceBEq, Nat.reduceDiv, Nat.reduceMod, Nat.reducePow, Nat.reduceMul, Int.reduceToNat, Int.reduceLT, Int.reduceLE]) | refine And.intro (by omega) ?_ | refine And.intro (by intro hq; (try simp only [Bool.and_eq_true, Bool.or_eq_true, Bool.and_eq_false_iff, Bool.or_eq_false_iff, decide_eq_true_eq, decide_eq_false_iff_not, Bool.not_eq_true', Bool.not_eq_false', beq_iff_eq, beq_eq_false_iff_ne, ne_eq] at hq); omega) ?_ | fail)
    exact W_ret ⟨[_], ⟨rfl, rfl⟩, rfl⟩
  have hk6 : k < 6 := by omega
  have c133 := fn133 m f road k h hr hk6
  have hs := redS_succ m f ps road k
  have b1 := redS_rng (f := f) h hr hv k
  have ek : ∀ a, redK m f ps road a k = if ldsB m f road k = true then a + minP m f ps road k m.ws.length else a := fun _ => rfl
  rw [ek] at hs
  generalize redS m f ps road k = A at *
  repeat' (first | refine WK_go ?_ | refine W_seqL ?_ | refine W_seq ?_ | refine W_block ?_ | refine W_scp ?_ | ((first | refine W_regL ?_ | refine W_skip ?_ | refine W_exit ?_ | refine CallC.now (c133) ?_); simp (maxSteps := 400000) (disch := omega) only [push_cast, ↓reduceIte, reduceCtorEq, Nat.reduceAdd, Nat.reduceSub, Nat.reduceEqDiff, Nat.reduceLeDiff, Nat.reduceLT, Nat.reduceBEq, Nat.reduceDiv, Nat.reduceMod, Nat.reducePow, Nat.reduceMul, Int.reduceToNat, Int.reduceLT, Int.reduceLE]) | refine And.intro (by omega) ?_ | refine And.intro (by intro hq; (try simp only [Bool.and_eq_true, Bool.or_eq_true, Bool.and_eq_false_iff, Bool.or_eq_false_iff, decide_eq_true_eq, decide_eq_false_iff_not, Bool.not_eq_true', Bool.not_eq_false', beq_iff_eq, beq_eq_false_iff_ne, ne_eq] at hq); omega) ?_ | fail)
  refine W_cond (by rfl) (fun hz => ?_) (fun hz => ?_)
  · rw [if_neg (by simpa using hz)] at hs
    repeat' (first | refine WK_go ?_ | refine W_seqL ?_ | refine W_seq ?_ | refine W_block ?_ | refine W_scp ?_ | ((first | refine W_regL ?_ | refine W_skip ?_ | refine W_exit ?_); simp (maxSteps := 400000) (disch := omega) only [push_cast, ↓reduceIte, reduceCtorEq, Nat.reduceAdd, Nat.reduceSub, Nat.reduceEqDiff, Nat.reduceLeDiff, Nat.reduceLT, Nat.reduceBEq, Nat.reduceDiv, Nat.reduceMod, Nat.reducePow, Nat.reduceMul, Int.reduceToNat, Int.reduceLT, Int.reduceLE]) | refine And.intro (by omega) ?_ | refine And.intro (by intro hq; (try simp only [Bool.and_eq_true, Bool.or_eq_true, Bool.and_eq_false_iff, Bool.or_eq_false_iff, decide_eq_true_eq, decide_eq_false_iff_not, Bool.not_eq_true', Bool.not_eq_false', beq_iff_eq, beq_eq_false_iff_ne, ne_eq] at hq); omega) ?_ | fail)
    refine ⟨k + 1, by omega, by omega, by rfl, ?_⟩
    rw [hs]
    simp (maxSteps := 400000) (disch := omega) only [push_cast, ↓reduceIte, reduceCtorEq, Nat.reduceAdd, Nat.reduceSub, Nat.reduceEqDiff, Nat.reduceLeDiff, Nat.reduceLT, Nat.reduceBEq, Nat.reduceDiv, Nat.reduceMod, Nat.reducePow, Nat.reduceMul, Int.reduceToNat, Int.reduceLT, Int.reduceLE, S.mk.injEq, List.cons.injEq, Prod.mk.injEq, AV.v.injEq, Value.int.injEq, Value.bool.injEq, Blk.cells.injEq]
  rw [if_pos (by simpa using hz)] at hs
  repeat' (first | refine WK_go ?_ | refine W_seqL ?_ | refine W_seq ?_ | refine W_block ?_ | refine W_scp ?_ | ((first | refine W_regL ?_ | refine W_skip ?_ | refine W_exit ?_); simp (maxSteps := 400000) (disch := omega) only [push_cast, ↓reduceIte, reduceCtorEq, Nat.reduceAdd, Nat.reduceSub, Nat.reduceEqDiff, Nat.reduceLeDiff, Nat.reduceLT, Nat.reduceBEq, Nat.reduceDiv, Nat.reduceMod, Nat.reducePow, Nat.reduceMul, Int.reduceToNat, Int.reduceLT, Int.reduceLE]) | refine And.intro (by omega) ?_ | refine And.intro (by intro hq; (try simp only [Bool.and_eq_true, Bool.or_eq_true, Bool.and_eq_false_iff, Bool.or_eq_false_iff, decide_eq_true_eq, decide_eq_false_iff_not, Bool.not_eq_true', Bool.not_eq_false', beq_iff_eq, beq_eq_false_iff_ne, ne_eq] at hq); omega) ?_ | fail)
  refine W_loopU (fun i : Nat => [(11, iv (minP m f ps road k i)), (12, iv i)]) (fun i => []) (fun i => i ≤ m.ws.length) (fun i => m.ws.length - i) 0 (by omega) (by rfl) (by rfl) (fun i hi => ?_)
  simp (maxSteps := 400000) (disch := omega) only [push_cast, ↓reduceIte, reduceCtorEq, Nat.reduceAdd, Nat.reduceSub, Nat.reduceEqDiff, Nat.reduceLeDiff, Nat.reduceLT, Nat.reduceBEq, Nat.reduceDiv, Nat.reduceMod, Nat.reducePow, Nat.reduceMul, Int.reduceToNat, Int.reduceLT, Int.reduceLE]
  repeat' (first | refine WK_go ?_ | refine W_seqL ?_ | refine W_seq ?_ | refine W_block ?_ | refine W_scp ?_ | ((first | refine W_regL ?_ | refine W_skip ?_ | refine W_exit ?_); simp (maxSteps := 400000) (disch := omega) only [push_cast, ↓reduceIte, reduceCtorEq, Nat.reduceAdd, Nat.reduceSub, Nat.reduceEqDiff, Nat.reduceLeDiff, Nat.reduceLT, Nat.reduceBEq, Nat.reduceDiv, Nat.reduceMod, Nat.reducePow, Nat.reduceMul, Int.reduceToNat, Int.reduceLT, Int.reduceLE]) | refine And.intro (by omega) ?_ | refine And.intro (by intro hq; (try simp only [Bool.and_eq_true, Bool.or_eq_true, Bool.and_eq_false_iff, Bool.or_eq_false_iff, decide_eq_true_eq, decide_eq_false_iff_not, Bool.not_eq_true', Bool.not_eq_false', beq_iff_eq, beq_eq_false_iff_ne, ne_eq] at hq); omega) ?_ | fail)
  have b2 := minP_rng (m := m) (f := f) (road := road) (k := k) hv i
  refine W_condD (by rfl) (fun h6 => ?_) (fun h6 => ?_)
  · have hlt : i < m.ws.length := by omega
    have c134 := fn134 m f i road k h hlt hk6
    have c135 := fn135 ps i road k hl
    have es := minP_succ m f ps road k i
    unfold minS at es
    generalize minP m f ps road k i = B at *
    repeat' (first | refine WK_go ?_ | refine W_seqL ?_ | refine W_seq ?_ | refine W_block ?_ | refine W_scp ?_ | ((first | refine W_regL ?_ | refine W_skip ?_ | refine W_exit ?_ | refine CallC.now (c134) ?_); simp (maxSteps := 400000) (disch := omega) only [push_cast, ↓reduceIte, reduceCtorEq, Nat.reduceAdd, Nat.reduceSub, Nat.reduceEqDiff, Nat.reduceLeDiff, Nat.reduceLT, Nat.reduceBEq, Nat.reduceDiv, Nat.reduceMod, Nat.reducePow, Nat.reduceMul, Int.reduceToNat, Int.reduceLT, Int.reduceLE]) | refine And.intro (by omega) ?_ | refine And.intro (by intro hq; (try simp only [Bool.and_eq_true, Bool.or_eq_true, Bool.and_eq_false_iff, Bool.or_eq_false_iff, decide_eq_true_eq, decide_eq_false_iff_not, Bool.not_eq_true', Bool.not_eq_false', beq_iff_eq, beq_eq_false_iff_ne, ne_eq] at hq); omega) ?_ | fail)
    refine W_cond (by rfl) (fun hz => ?_) (fun hz => ?_)
    · rw [if_pos hz] at es
      repeat' (first | refine WK_go ?_ | refine W_seqL ?_ | refine W_seq ?_ | refine W_block ?_ | refine W_scp ?_ | ((first | refine W_regL ?_ | refine W_skip ?_ | refine W_exit ?_ | refine CallC.now (c135) ?_); simp (maxSteps := 400000) (disch := omega) only [push_cast, ↓reduceIte, reduceCtorEq, Nat.reduceAdd, Nat.reduceSub, Nat.reduceEqDiff, Nat.reduceLeDiff, Nat.reduceLT, Nat.reduceBEq, Nat.reduceDiv, Nat.reduceMod, Nat.reducePow, Nat.reduceMul, Int.reduceToNat, Int.reduceLT, Int.reduceLE]) | refine And.intro (by omega) ?_ | refine And.intro (by intro hq; (try simp only [Bool.and_eq_true, Bool.or_eq_true, Bool.and_eq_false_iff, Bool.or_eq_false_iff, decide_eq_true_eq, decide_eq_false_iff_not, Bool.not_eq_true', Bool.not_eq_false', beq_iff_eq, beq_eq_false_iff_ne, ne_eq] at hq); omega) ?_ | fail)
      refine ⟨i + 1, by omega, by omega, by rfl, ?_⟩
      rw [es]
      simp (maxSteps := 400000) (disch := omega) only [push_cast, ↓reduceIte, reduceCtorEq, Nat.reduceAdd, Nat.reduceSub, Nat.reduceEqDiff, Nat.reduceLeDiff, Nat.reduceLT, Nat.reduceBEq, Nat.reduceDiv, Nat.reduceMod, Nat.reducePow, Nat.reduceMul, Int.reduceToNat, Int.reduceLT, Int.reduceLE, S.mk.injEq, List.cons.injEq, Prod.mk.injEq, AV.v.injEq, Value.int.injEq, Value.bool.injEq, Blk.cells.injEq]
    · rw [if_neg (by rw [hz]; simp)] at es
      repeat' (first | refine WK_go ?_ | refine W_seqL ?_ | refine W_seq ?_ | refine W_block ?_ | refine W_scp ?_ | ((first | refine W_regL ?_ | refine W_skip ?_ | refine W_exit ?_); simp (maxSteps := 400000) (disch := omega) only [push_cast, ↓reduceIte, reduceCtorEq, Nat.reduceAdd, Nat.reduceSub, Nat.reduceEqDiff, Nat.reduceLeDiff, Nat.reduceLT, Nat.reduceBEq, Nat.reduceDiv, Nat.reduceMod, Nat.reducePow, Nat.reduceMul, Int.reduceToNat, Int.reduceLT, Int.reduceLE]) | refine And.intro (by omega) ?_ | refine And.intro (by intro hq; (try simp only [Bool.and_eq_true, Bool.or_eq_true, Bool.and_eq_false_iff, Bool.or_eq_false_iff, decide_eq_true_eq, decide_eq_false_iff_not, Bool.not_eq_true', Bool.not_eq_false', beq_iff_eq, beq_eq_false_iff_ne, ne_eq] at hq); omega) ?_ | fail)
      refine ⟨i + 1, by omega, by omega, by rfl, ?_⟩
      rw [es]
      simp (maxSteps := 400000) (disch := omega) only [push_cast, ↓reduceIte, reduceCtorEq, Nat.reduceAdd, Nat.reduceSub, Nat.reduceEqDiff, Nat.reduceLeDiff, Nat.reduceLT, Nat.reduceBEq, Nat.reduceDiv, Nat.reduceMod, Nat.reducePow, Nat.reduceMul, Int.reduceToNat, Int.reduceLT, Int.reduceLE, S.mk.injEq, List.cons.injEq, Prod.mk.injEq, AV.v.injEq, Value.int.injEq, Value.bool.injEq, Blk.cells.injEq]
  · have hil : i = m.ws.length := by omega
    subst hil
    generalize minP m f ps road k m.ws.length = B at *
    repeat' (first | refine WK_go ?_ | refine W_seqL ?_ | refine W_seq ?_ | refine W_block ?_ | refine W_scp ?_ | ((first | refine W_regL ?_ | refine W_skip ?_ | refine W_exit ?_); simp (maxSteps := 400000) (disch := omega) only [push_cast, ↓reduceIte, reduceCtorEq, Nat.reduceAdd, Nat.reduceSub, Nat.reduceEqDiff, Nat.reduceLeDiff, Nat.reduceLT, Nat.reduceBEq, Nat.reduceDiv, Nat.reduceMod, Nat.reducePow, Nat.reduceMul, Int.reduceToNat, Int.reduceLT, Int.reduceLE]) | refine And.intro (by omega) ?_ | refine And.intro (by intro hq; (try simp only [Bool.and_eq_true, Bool.or_eq_true, Bool.and_eq_false_iff, Bool.or_eq_false_iff, decide_eq_true_eq, decide_eq_false_iff_not, Bool.not_eq_true', Bool.not_eq_false', beq_iff_eq, beq_eq_false_iff_ne, ne_eq] at hq); omega) ?_ | fail)
    refine ⟨k + 1, by omega, by omega, by rfl, ?_⟩
    rw [hs]
    simp (maxSteps := 400000) (disch := omega) only [push_cast, ↓reduceIte, reduceCtorEq, Nat.reduceAdd, Nat.reduceSub, Nat.reduceEqDiff, Nat.reduceLeDiff, Nat.reduceLT, Nat.reduceBEq, Nat.reduceDiv, Nat.reduceMod, Nat.reducePow, Nat.reduceMul, Int.reduceToNat, Int.reduceLT, Int.reduceLE, S.mk.injEq, List.cons.injEq, Prod.mk.injEq, AV.v.injEq, Value.int.injEq, Value.bool.injEq, Blk.cells.injEq]
end Go.Proofs.Ytfbdlmenhoagmaa

namespace Go.Proofs.Ytfbdlmenhoagmaa
open Go Sy
set_option maxRecDepth 100000
set_option maxHeartbeats 4000000
set_option linter.unusedVariables false
set_option linter.unusedSimpArgs false
def tbI (n : Nat) (g : Nat → Int) : List Int := (List.range n).map g
theorem tbI_len (n : Nat) (g : Nat → Int) : (tbI n g).length = n := by simp [tbI]
theorem tbI_at {n j : Nat} (g : Nat → Int) (h : j < n) : (tbI n g).getD j 0 = g j := by simp [tbI, List.getD, h]
theorem tbI_set {n j : Nat} {g h : Nat → Int} {v : Int} (hj : h j = v) (hh : ∀ i, i < n → i ≠ j → g i = h i) : (tbI n g).set j v = tbI n h := by
  apply List.ext_getElem (by rw [List.length_set, tbI_len, tbI_len])
  intro i h1 h2
  rw [tbI_len] at h2
  rw [List.getElem_set]
  split
  · rename_i q; subst q; rw [← hj]; simp [tbI]
  · rename_i q
    simp only [tbI, List.getElem_map, List.getElem_range]
    exact hh i h2 (fun e => q e.symm)
theorem tbI_rep (n : Nat) (v : Int) : tbI n (fun _ => v) = List.replicate n v := by
  unfold tbI
  rw [List.eq_replicate_iff]
  refine ⟨by simp, fun b hb => ?_⟩
  obtain ⟨i, _, rfl⟩ := List.mem_map.1 hb
  rfl
def spS (w : Nat) (a : Int) (p : Prt) : Int := if p.w.toNat = w then a + p.v else a
def spW (ps : List Prt) (w : Nat) : Int := ps.foldl (spS w) 0
theorem spW_snoc (ps : List Prt) (p : Prt) (w : Nat) : spW (ps ++ [p]) w = spS w (spW ps w) p := by
  unfold spW; rw [List.foldl_append]; rfl
theorem take_snocP {ps : List Prt} {i : Nat} (h : i < ps.length) : ps.take (i + 1) = ps.take i ++ [ps.getD i dP] := by
  rw [List.take_add_one]
  simp [List.getD, h]
def prtB (m : Mp) (f : Nat → Int) (p : Prt) : Bool := decide (((0 ≤ p.w ∧ p.w < m.ws.length) ∧ (0 ≤ p.r ∧ p.r < m.rs.length)) ∧ (0 ≤ p.k ∧ p.k ≤ 5) ∧ (0 ≤ p.v ∧ p.v ≤ (gw m p.w.toNat).c)) && (ldsB m f p.r.toNat p.k.toNat && hpsB m f p.w.toNat p.r.toNat p.k.toNat)
def dupB (ps : List Prt) (i : Nat) : Bool := (List.range i).any fun j => prB (ps.getD i dP).w (ps.getD i dP).r (ps.getD i dP).k (ps.getD j dP)
def okP (m : Mp) (f : Nat → Int) (ps : List Prt) (i : Nat) : Bool := prtB m f (ps.getD i dP) && !dupB ps i
def hgB (x : Int) : Bool := decide (-35184372088832 ≤ x ∧ x ≤ 35184372088832)
def rdOK (m : Mp) (f : Nat → Int) (ps : List Prt) (hs : List Int) (i : Nat) : Bool := !(usB m f (evL m.ws.length) i && decide (redS m f ps i 6 < gi hs (gr m i).t.toNat - gi hs (gr m i).f.toNat))
def rgtB (m : Mp) (f : Nat → Int) (ps : List Prt) (hs : List Int) : Bool := (((List.range ps.length).all (okP m f ps) && (List.range m.ws.length).all (fun w => decide (spW ps w ≤ (gw m w).c))) && (List.range m.n.toNat).all (fun i => hgB (gi hs i))) && (List.range m.rs.length).all (rdOK m f ps hs)
structure PrtOK (m : Mp) (f : Nat → Int) (p : Prt) : Prop where
  w : 0 ≤ p.w ∧ p.w < m.ws.length
  r : 0 ≤ p.r ∧ p.r < m.rs.length
  k : 0 ≤ p.k ∧ p.k ≤ 5
  v : 0 ≤ p.v ∧ p.v ≤ (gw m p.w.toNat).c
  l : ldsB m f p.r.toNat p.k.toNat = true
  h : hpsB m f p.w.toNat p.r.toNat p.k.toNat = true
theorem prtB_iff {m : Mp} {f : Nat → Int} {p : Prt} : prtB m f p = true ↔ PrtOK m f p := by
  unfold prtB
  rw [Bool.and_eq_true, Bool.and_eq_true, decide_eq_true_eq]
  constructor
  · rintro ⟨⟨⟨h1, h2⟩, h3, h4⟩, h5, h6⟩
    exact ⟨h1, h2, h3, h4, h5, h6⟩
  · intro h
    exact ⟨⟨⟨h.w, h.r⟩, h.k, h.v⟩, h.l, h.h⟩
theorem range_all_no {n : Nat} {g : Nat → Bool} {i : Nat} (hi : i < n) (h : g i = false) : (List.range n).all g = false := by
  rw [← Bool.not_eq_true, List.all_eq_true]
  intro q
  rw [q i (List.mem_range.2 hi)] at h
  cases h
theorem range_all_yes {n : Nat} {g : Nat → Bool} (h : ∀ i, i < n → g i = true) : (List.range n).all g = true := by
  rw [List.all_eq_true]
  intro i hi
  exact h i (List.mem_range.1 hi)
theorem spW_rng {m : Mp} {f : Nat → Int} (hok : OkM m) (w : Nat) : ∀ (ps : List Prt), (∀ p ∈ ps, PrtOK m f p) → ∀ a : Int, a ≤ ps.foldl (spS w) a ∧ ps.foldl (spS w) a ≤ a + ps.length * 1073741824
  | [], _, a => by simp
  | p :: ps, h, a => by
    have h1 := spW_rng hok w ps (fun q hq => h q (List.mem_cons_of_mem _ hq)) (spS w a p)
    have h2 := h p List.mem_cons_self
    have h3 := (workB_ok (hok.w p.w.toNat (by have := h2.w; omega))).c
    have h4 := h2.v
    simp only [List.foldl_cons, List.length_cons]
    have h5 : a ≤ spS w a p ∧ spS w a p ≤ a + 1073741824 := by
      unfold spS; split <;> omega
    omega
theorem rgt_no1 {m : Mp} {f : Nat → Int} {ps : List Prt} {hs : List Int} {i : Nat} (hi : i < ps.length) (h : okP m f ps i = false) : rgtB m f ps hs = false := by
  unfold rgtB
  rw [range_all_no hi h]; rfl
theorem rgt_no2 {m : Mp} {f : Nat → Int} {ps : List Prt} {hs : List Int} {w : Nat} (hw : w < m.ws.length) (h : (gw m w).c < spW ps w) : rgtB m f ps hs = false := by
  unfold rgtB
  rw [range_all_no (n := m.ws.length) hw (decide_eq_false (by omega)), Bool.and_false]; rfl
theorem rgt_no3 {m : Mp} {f : Nat → Int} {ps : List Prt} {hs : List Int} {i : Nat} (hi : i < m.n.toNat) (h : hgB (gi hs i) = false) : rgtB m f ps hs = false := by
  unfold rgtB
  rw [range_all_no (n := m.n.toNat) hi h, Bool.and_false]; rfl
theorem rgt_no4 {m : Mp} {f : Nat → Int} {ps : List Prt} {hs : List Int} {i : Nat} (hi : i < m.rs.length) (h : rdOK m f ps hs i = false) : rgtB m f ps hs = false := by
  unfold rgtB
  rw [range_all_no (n := m.rs.length) hi h, Bool.and_false]
theorem rgt_yes {m : Mp} {f : Nat → Int} {ps : List Prt} {hs : List Int} (h1 : ∀ i, i < ps.length → okP m f ps i = true) (h2 : ∀ w, w < m.ws.length → spW ps w ≤ (gw m w).c) (h3 : ∀ i, i < m.n.toNat → hgB (gi hs i) = true) (h4 : ∀ i, i < m.rs.length → rdOK m f ps hs i = true) : rgtB m f ps hs = true := by
  unfold rgtB
  rw [range_all_yes h1, range_all_yes h3, range_all_yes h4, range_all_yes (fun w hw => decide_eq_true (h2 w hw))]; rfl
theorem okP_no {m : Mp} {f : Nat → Int} {ps : List Prt} {i : Nat} {p : Prt} (hp : ps.getD i dP = p) (h : ¬ PrtOK m f p) : okP m f ps i = false := by
  unfold okP
  rw [hp]
  have : prtB m f p = false := by rw [← Bool.not_eq_true, prtB_iff]; exact h
  rw [this]; rfl
def cBd (ps : List Prt) (hs : List Int) : List AV := [aP ps, aI hs]
theorem fn101 (m : Mp) (f : Nat → Int) (ps : List Prt) (hs : List Int) (h : OkM m) (hl : ps.length ≤ 1000000) (hn : (hs.length : Int) = m.n) : Sy.Fn Try.prog 101 [aM m, .agg (c6 f), .agg (cBd ps hs)] (bv (rgtB m f ps hs)) := by
  refine Fn_of_W mixed Xt101 rfl ?_
  have hw := h.nw
  have hnr := h.nr
  have hmn := h.n
  unfold cBd
  repeat' (first | refine WK_go ?_ | refine W_seqL ?_ | refine W_seq ?_ | refine W_block ?_ | refine W_scp ?_ | ((first | refine W_regL ?_ | refine W_skip ?_ | refine W_exit ?_); simp (maxSteps := 400000) (disch := omega) only [push_cast, ↓reduceIte, reduceCtorEq, Nat.reduceAdd, Nat.reduceSub, Nat.reduceEqDiff, Nat.reduceLeDiff, Nat.reduceLT, Nat.reduceBEq, Nat.reduceDiv, Nat.reduceMod, Nat.reducePow, Nat.reduceMul, Int.reduceToNat, Int.reduceLT, Int.reduceLE]) | refine And.intro (by omega) ?_ | refine And.intro (by intro hq; (try simp only [Bool.and_eq_true, Bool.or_eq_true, Bool.and_eq_false_iff, Bool.or_eq_false_iff, decide_eq_true_eq, decide_eq_false_iff_not, Bool.not_eq_true', Bool.not_eq_false', beq_iff_eq, beq_eq_false_iff_ne, ne_eq] at hq); omega) ?_ | fail)
  refine ⟨rfl, ⟨by omega, by omega, by omega⟩, Int, 0, cI, 0, rfl, rfl, by omega, rfl, ?_⟩
  simp (maxSteps := 400000) (disch := omega) only [push_cast, ↓reduceIte, reduceCtorEq, Nat.reduceAdd, Nat.reduceSub, Nat.reduceEqDiff, Nat.reduceLeDiff, Nat.reduceLT, Nat.reduceBEq, Nat.reduceDiv, Nat.reduceMod, Nat.reducePow, Nat.reduceMul, Int.reduceToNat, Int.reduceLT, Int.reduceLE, Int.toNat_natCast]
  repeat' (first | refine WK_go ?_ | refine W_seqL ?_ | refine W_seq ?_ | refine W_block ?_ | refine W_scp ?_ | ((first | refine W_regL ?_ | refine W_skip ?_ | refine W_exit ?_); simp (maxSteps := 400000) (disch := omega) only [push_cast, ↓reduceIte, reduceCtorEq, Nat.reduceAdd, Nat.reduceSub, Nat.reduceEqDiff, Nat.reduceLeDiff, Nat.reduceLT, Nat.reduceBEq, Nat.reduceDiv, Nat.reduceMod, Nat.reducePow, Nat.reduceMul, Int.reduceToNat, Int.reduceLT, Int.reduceLE]) | refine And.intro (by omega) ?_ | refine And.intro (by intro hq; (try simp only [Bool.and_eq_true, Bool.or_eq_true, Bool.and_eq_false_iff, Bool.or_eq_false_iff, decide_eq_true_eq, decide_eq_false_iff_not, Bool.not_eq_true', Bool.not_eq_false', beq_iff_eq, beq_eq_false_iff_ne, ne_eq] at hq); omega) ?_ | fail)
  refine W_loopU (fun i : Nat => [(8, iv i)]) (fun i => [(7, .row 0 2 1 0 cI (tbI m.ws.length (spW (ps.take i))))]) (fun i => i ≤ ps.length ∧ ∀ j, j < i → okP m f ps j = true) (fun i => ps.length - i) 0 ⟨by omega, fun j hj => by omega⟩ (by rfl) (by rw [← tbI_rep]; rfl) (fun i hi => ?_)
  obtain ⟨hi, hall⟩ := hi
  have tl := tbI_len m.ws.length (spW (ps.take i))
  have hpk : ∀ p ∈ ps.take i, PrtOK m f p := fun p hp => by
    obtain ⟨j, hj, rfl⟩ := List.mem_iff_getElem.1 hp
    rw [List.length_take] at hj
    have := hall j (by omega)
    unfold okP at this
    rw [Bool.and_eq_true] at this
    have h2 := prtB_iff.1 this.1
    have e : ps.getD j dP = (ps.take i)[j] := by simp [List.getD, show j < ps.length by omega]
    rw [e] at h2
    exact h2
  simp (maxSteps := 400000) (disch := omega) only [push_cast, ↓reduceIte, reduceCtorEq, Nat.reduceAdd, Nat.reduceSub, Nat.reduceEqDiff, Nat.reduceLeDiff, Nat.reduceLT, Nat.reduceBEq, Nat.reduceDiv, Nat.reduceMod, Nat.reducePow, Nat.reduceMul, Int.reduceToNat, Int.reduceLT, Int.reduceLE]
  repeat' (first | refine WK_go ?_ | refine W_seqL ?_ | refine W_seq ?_ | refine W_block ?_ | refine W_scp ?_ | ((first | refine W_regL ?_ | refine W_skip ?_ | refine W_exit ?_); simp (maxSteps := 400000) (disch := omega) only [push_cast, ↓reduceIte, reduceCtorEq, Nat.reduceAdd, Nat.reduceSub, Nat.reduceEqDiff, Nat.reduceLeDiff, Nat.reduceLT, Nat.reduceBEq, Nat.reduceDiv, Nat.reduceMod, Nat.reducePow, Nat.reduceMul, Int.reduceToNat, Int.reduceLT, Int.reduceLE]) | refine And.intro (by omega) ?_ | refine And.intro (by intro hq; (try simp only [Bool.and_eq_true, Bool.or_eq_true, Bool.and_eq_false_iff, Bool.or_eq_false_iff, decide_eq_true_eq, decide_eq_false_iff_not, Bool.not_eq_true', Bool.not_eq_false', beq_iff_eq, beq_eq_false_iff_ne, ne_eq] at hq); omega) ?_ | fail)
  refine W_condD (by rfl) (fun h5 => ?_) (fun h5 => ?_)
  · have hlt : i < ps.length := by omega
    have hsn := take_snocP hlt
    obtain ⟨p, hp⟩ : ∃ p, ps.getD i dP = p := ⟨_, rfl⟩
    rw [hp] at hsn
    have hgw : m.ws.getD p.w.toNat dW = gw m p.w.toNat := rfl
    repeat' (first | refine WK_go ?_ | refine W_seqL ?_ | refine W_seq ?_ | refine W_block ?_ | refine W_scp ?_ | ((first | refine W_regL ?_ | refine W_skip ?_ | refine W_exit ?_); simp (maxSteps := 400000) (disch := omega) only [push_cast, ↓reduceIte, reduceCtorEq, Nat.reduceAdd, Nat.reduceSub, Nat.reduceEqDiff, Nat.reduceLeDiff, Nat.reduceLT, Nat.reduceBEq, Nat.reduceDiv, Nat.reduceMod, Nat.reducePow, Nat.reduceMul, Int.reduceToNat, Int.reduceLT, Int.reduceLE, hp]) | refine And.intro (by omega) ?_ | refine And.intro (by intro hq; (try simp only [Bool.and_eq_true, Bool.or_eq_true, Bool.and_eq_false_iff, Bool.or_eq_false_iff, decide_eq_true_eq, decide_eq_false_iff_not, Bool.not_eq_true', Bool.not_eq_false', beq_iff_eq, beq_eq_false_iff_ne, ne_eq] at hq); omega) ?_ | fail)
    repeat' (first | refine WK_go ?_ | refine W_seqL ?_ | refine W_seq ?_ | refine W_block ?_ | refine W_scp ?_ | ((first | refine W_regL ?_ | refine W_skip ?_ | refine W_exit ?_ | refine CallC.go _ (fun _ => ⟨trivial, fn66 _ _ _⟩) rfl ?_); simp (maxSteps := 400000) (disch := omega) only [push_cast, ↓reduceIte, reduceCtorEq, Nat.reduceAdd, Nat.reduceSub, Nat.reduceEqDiff, Nat.reduceLeDiff, Nat.reduceLT, Nat.reduceBEq, Nat.reduceDiv, Nat.reduceMod, Nat.reducePow, Nat.reduceMul, Int.reduceToNat, Int.reduceLT, Int.reduceLE, hp, hgw, Nat.zero_add, Nat.mul_one]) | refine And.intro (by omega) ?_ | refine And.intro (by intro hq; (try simp only [Bool.and_eq_true, Bool.or_eq_true, Bool.and_eq_false_iff, Bool.or_eq_false_iff, decide_eq_true_eq, decide_eq_false_iff_not, Bool.not_eq_true', Bool.not_eq_false', beq_iff_eq, beq_eq_false_iff_ne, ne_eq] at hq); omega) ?_ | fail)
    refine W_cond (by rfl) (fun hz => ?_) (fun hz => ?_)
    · have hno : okP m f ps i = false := okP_no hp (fun q => by
        have q1 := q.w; have q2 := q.r; have q3 := q.k
        rw [inR_iff.2 q.v] at hz
        simp only [Bool.or_eq_true, decide_eq_true_eq, Bool.not_true, Bool.false_eq_true, or_false] at hz
        omega)
      rw [rgt_no1 hlt hno]
      repeat' (first | refine WK_go ?_ | refine W_seqL ?_ | refine W_seq ?_ | refine W_block ?_ | refine W_scp ?_ | ((first | refine W_regL ?_ | refine W_skip ?_ | refine W_exit ?_); simp (maxSteps := 400000) (disch := omega) only [push_cast, ↓reduceIte, reduceCtorEq, Nat.reduceAdd, Nat.reduceSub, Nat.reduceEqDiff, Nat.reduceLeDiff, Nat.reduceLT, Nat.reduceBEq, Nat.reduceDiv, Nat.reduceMod, Nat.reducePow, Nat.reduceMul, Int.reduceToNat, Int.reduceLT, Int.reduceLE]) | refine And.intro (by omega) ?_ | refine And.intro (by intro hq; (try simp only [Bool.and_eq_true, Bool.or_eq_true, Bool.and_eq_false_iff, Bool.or_eq_false_iff, decide_eq_true_eq, decide_eq_false_iff_not, Bool.not_eq_true', Bool.not_eq_false', beq_iff_eq, beq_eq_false_iff_ne, ne_eq] at hq); omega) ?_ | fail)
      exact W_ret ⟨[_], ⟨rfl, rfl⟩, rfl⟩
    simp only [Bool.or_eq_false_iff, decide_eq_false_iff_not, Bool.not_eq_false'] at hz
    obtain ⟨⟨⟨⟨⟨⟨z1, z2⟩, z3⟩, z4⟩, z5⟩, z6⟩, z7⟩ := hz
    have z7 := inR_iff.1 z7
    have hc := (workB_ok (h.w p.w.toNat (by omega))).c
    obtain ⟨w, ew⟩ : ∃ w : Nat, p.w = w := ⟨p.w.toNat, by omega⟩
    obtain ⟨r, er⟩ : ∃ r : Nat, p.r = r := ⟨p.r.toNat, by omega⟩
    obtain ⟨k, ek⟩ : ∃ k : Nat, p.k = k := ⟨p.k.toNat, by omega⟩
    have c133 := fn133 m f r k h (by omega) (by omega)
    have c134 := fn134 m f w r k h (by omega) (by omega)
    rw [← er, ← ek] at c133 c134
    rw [← ew] at c134
    have hiff : PrtOK m f p ↔ (ldsB m f r k = true ∧ hpsB m f w r k = true) := by
      have e1 : p.w.toNat = w := by omega
      have e2 : p.r.toNat = r := by omega
      have e3 : p.k.toNat = k := by omega
      constructor
      · intro q
        have q1 := q.l; have q2 := q.h
        rw [e2, e3] at q1 q2
        rw [e1] at q2
        exact ⟨q1, q2⟩
      · rintro ⟨q1, q2⟩
        exact ⟨by omega, by omega, by omega, z7, by rw [e2, e3]; exact q1, by rw [e1, e2, e3]; exact q2⟩
    generalize ldsB m f r k = L at *
    generalize hpsB m f w r k = H at *
    repeat' (first | refine WK_go ?_ | refine W_seqL ?_ | refine W_seq ?_ | refine W_block ?_ | refine W_scp ?_ | ((first | refine W_regL ?_ | refine W_skip ?_ | refine W_exit ?_); simp (maxSteps := 400000) (disch := omega) only [push_cast, ↓reduceIte, reduceCtorEq, Nat.reduceAdd, Nat.reduceSub, Nat.reduceEqDiff, Nat.reduceLeDiff, Nat.reduceLT, Nat.reduceBEq, Nat.reduceDiv, Nat.reduceMod, Nat.reducePow, Nat.reduceMul, Int.reduceToNat, Int.reduceLT, Int.reduceLE]) | refine And.intro (by omega) ?_ | refine And.intro (by intro hq; (try simp only [Bool.and_eq_true, Bool.or_eq_true, Bool.and_eq_false_iff, Bool.or_eq_false_iff, decide_eq_true_eq, decide_eq_false_iff_not, Bool.not_eq_true', Bool.not_eq_false', beq_iff_eq, beq_eq_false_iff_ne, ne_eq] at hq); omega) ?_ | fail)
    repeat' (first | refine WK_go ?_ | refine W_seqL ?_ | refine W_seq ?_ | refine W_block ?_ | refine W_scp ?_ | ((first | refine W_regL ?_ | refine W_skip ?_ | refine W_exit ?_ | refine CallC.now (c133) ?_ | refine CallC.go _ (fun _ => ⟨trivial, c134⟩) rfl ?_); simp (maxSteps := 400000) (disch := omega) only [push_cast, ↓reduceIte, reduceCtorEq, Nat.reduceAdd, Nat.reduceSub, Nat.reduceEqDiff, Nat.reduceLeDiff, Nat.reduceLT, Nat.reduceBEq, Nat.reduceDiv, Nat.reduceMod, Nat.reducePow, Nat.reduceMul, Int.reduceToNat, Int.reduceLT, Int.reduceLE]) | refine And.intro (by omega) ?_ | refine And.intro (by intro hq; (try simp only [Bool.and_eq_true, Bool.or_eq_true, Bool.and_eq_false_iff, Bool.or_eq_false_iff, decide_eq_true_eq, decide_eq_false_iff_not, Bool.not_eq_true', Bool.not_eq_false', beq_iff_eq, beq_eq_false_iff_ne, ne_eq] at hq); omega) ?_ | fail)
    refine W_cond (by rfl) (fun hz => ?_) (fun hz => ?_)
    · have hno : okP m f ps i = false := okP_no hp (fun q => by
        have := hiff.1 q
        rw [this.1, this.2] at hz
        cases hz)
      rw [rgt_no1 hlt hno]
      repeat' (first | refine WK_go ?_ | refine W_seqL ?_ | refine W_seq ?_ | refine W_block ?_ | refine W_scp ?_ | ((first | refine W_regL ?_ | refine W_skip ?_ | refine W_exit ?_); simp (maxSteps := 400000) (disch := omega) only [push_cast, ↓reduceIte, reduceCtorEq, Nat.reduceAdd, Nat.reduceSub, Nat.reduceEqDiff, Nat.reduceLeDiff, Nat.reduceLT, Nat.reduceBEq, Nat.reduceDiv, Nat.reduceMod, Nat.reducePow, Nat.reduceMul, Int.reduceToNat, Int.reduceLT, Int.reduceLE]) | refine And.intro (by omega) ?_ | refine And.intro (by intro hq; (try simp only [Bool.and_eq_true, Bool.or_eq_true, Bool.and_eq_false_iff, Bool.or_eq_false_iff, decide_eq_true_eq, decide_eq_false_iff_not, Bool.not_eq_true', Bool.not_eq_false', beq_iff_eq, beq_eq_false_iff_ne, ne_eq] at hq); omega) ?_ | fail)
      exact W_ret ⟨[_], ⟨rfl, rfl⟩, rfl⟩
    have hpok : PrtOK m f p := hiff.2 (by
      rw [Bool.or_eq_false_iff, Bool.not_eq_false', Bool.not_eq_false'] at hz
      exact hz)
    repeat' (first | refine WK_go ?_ | refine W_seqL ?_ | refine W_seq ?_ | refine W_block ?_ | refine W_scp ?_ | ((first | refine W_regL ?_ | refine W_skip ?_ | refine W_exit ?_); simp (maxSteps := 400000) (disch := omega) only [push_cast, ↓reduceIte, reduceCtorEq, Nat.reduceAdd, Nat.reduceSub, Nat.reduceEqDiff, Nat.reduceLeDiff, Nat.reduceLT, Nat.reduceBEq, Nat.reduceDiv, Nat.reduceMod, Nat.reducePow, Nat.reduceMul, Int.reduceToNat, Int.reduceLT, Int.reduceLE]) | refine And.intro (by omega) ?_ | refine And.intro (by intro hq; (try simp only [Bool.and_eq_true, Bool.or_eq_true, Bool.and_eq_false_iff, Bool.or_eq_false_iff, decide_eq_true_eq, decide_eq_false_iff_not, Bool.not_eq_true', Bool.not_eq_false', beq_iff_eq, beq_eq_false_iff_ne, ne_eq] at hq); omega) ?_ | fail)
    refine W_loopU (fun j : Nat => [(10, iv j)]) (fun j => []) (fun j => j ≤ i ∧ ∀ x, x < j → prB p.w p.r p.k (ps.getD x dP) = false) (fun j => i - j) 0 ⟨by omega, fun j hj => by omega⟩ (by rfl) (by rfl) (fun j hj => ?_)
    obtain ⟨hj, hdup⟩ := hj
    simp (maxSteps := 400000) (disch := omega) only [push_cast, ↓reduceIte, reduceCtorEq, Nat.reduceAdd, Nat.reduceSub, Nat.reduceEqDiff, Nat.reduceLeDiff, Nat.reduceLT, Nat.reduceBEq, Nat.reduceDiv, Nat.reduceMod, Nat.reducePow, Nat.reduceMul, Int.reduceToNat, Int.reduceLT, Int.reduceLE]
    repeat' (first | refine WK_go ?_ | refine W_seqL ?_ | refine W_seq ?_ | refine W_block ?_ | refine W_scp ?_ | ((first | refine W_regL ?_ | refine W_skip ?_ | refine W_exit ?_); simp (maxSteps := 400000) (disch := omega) only [push_cast, ↓reduceIte, reduceCtorEq, Nat.reduceAdd, Nat.reduceSub, Nat.reduceEqDiff, Nat.reduceLeDiff, Nat.reduceLT, Nat.reduceBEq, Nat.reduceDiv, Nat.reduceMod, Nat.reducePow, Nat.reduceMul, Int.reduceToNat, Int.reduceLT, Int.reduceLE]) | refine And.intro (by omega) ?_ | refine And.intro (by intro hq; (try simp only [Bool.and_eq_true, Bool.or_eq_true, Bool.and_eq_false_iff, Bool.or_eq_false_iff, decide_eq_true_eq, decide_eq_false_iff_not, Bool.not_eq_true', Bool.not_eq_false', beq_iff_eq, beq_eq_false_iff_ne, ne_eq] at hq); omega) ?_ | fail)
    refine W_condD (by rfl) (fun h6 => ?_) (fun h6 => ?_)
    · have hjl : j < i := by omega
      obtain ⟨q, hq⟩ : ∃ q, ps.getD j dP = q := ⟨_, rfl⟩
      repeat' (first | refine WK_go ?_ | refine W_seqL ?_ | refine W_seq ?_ | refine W_block ?_ | refine W_scp ?_ | ((first | refine W_regL ?_ | refine W_skip ?_ | refine W_exit ?_); simp (maxSteps := 400000) (disch := omega) only [push_cast, ↓reduceIte, reduceCtorEq, Nat.reduceAdd, Nat.reduceSub, Nat.reduceEqDiff, Nat.reduceLeDiff, Nat.reduceLT, Nat.reduceBEq, Nat.reduceDiv, Nat.reduceMod, Nat.reducePow, Nat.reduceMul, Int.reduceToNat, Int.reduceLT, Int.reduceLE, hq]) | refine And.intro (by omega) ?_ | refine And.intro (by intro hq; (try simp only [Bool.and_eq_true, Bool.or_eq_true, Bool.and_eq_false_iff, Bool.or_eq_false_iff, decide_eq_true_eq, decide_eq_false_iff_not, Bool.not_eq_true', Bool.not_eq_false', beq_iff_eq, beq_eq_false_iff_ne, ne_eq] at hq); omega) ?_ | fail)
      refine W_cond (by rfl) (fun hz => ?_) (fun hz => ?_)
      · have hz : prB p.w p.r p.k q = true := hz
        have hno : okP m f ps i = false := by
          unfold okP dupB
          rw [hp, Bool.and_eq_false_iff]
          right
          rw [Bool.not_eq_false', List.any_eq_true]
          exact ⟨j, List.mem_range.2 hjl, by rw [hq]; exact hz⟩
        rw [rgt_no1 hlt hno]
        repeat' (first | refine WK_go ?_ | refine W_seqL ?_ | refine W_seq ?_ | refine W_block ?_ | refine W_scp ?_ | ((first | refine W_regL ?_ | refine W_skip ?_ | refine W_exit ?_); simp (maxSteps := 400000) (disch := omega) only [push_cast, ↓reduceIte, reduceCtorEq, Nat.reduceAdd, Nat.reduceSub, Nat.reduceEqDiff, Nat.reduceLeDiff, Nat.reduceLT, Nat.reduceBEq, Nat.reduceDiv, Nat.reduceMod, Nat.reducePow, Nat.reduceMul, Int.reduceToNat, Int.reduceLT, Int.reduceLE]) | refine And.intro (by omega) ?_ | refine And.intro (by intro hq; (try simp only [Bool.and_eq_true, Bool.or_eq_true, Bool.and_eq_false_iff, Bool.or_eq_false_iff, decide_eq_true_eq, decide_eq_false_iff_not, Bool.not_eq_true', Bool.not_eq_false', beq_iff_eq, beq_eq_false_iff_ne, ne_eq] at hq); omega) ?_ | fail)
        exact W_ret ⟨[_], ⟨rfl, rfl⟩, rfl⟩
      · have hz : prB p.w p.r p.k q = false := hz
        repeat' (first | refine WK_go ?_ | refine W_seqL ?_ | refine W_seq ?_ | refine W_block ?_ | refine W_scp ?_ | ((first | refine W_regL ?_ | refine W_skip ?_ | refine W_exit ?_); simp (maxSteps := 400000) (disch := omega) only [push_cast, ↓reduceIte, reduceCtorEq, Nat.reduceAdd, Nat.reduceSub, Nat.reduceEqDiff, Nat.reduceLeDiff, Nat.reduceLT, Nat.reduceBEq, Nat.reduceDiv, Nat.reduceMod, Nat.reducePow, Nat.reduceMul, Int.reduceToNat, Int.reduceLT, Int.reduceLE]) | refine And.intro (by omega) ?_ | refine And.intro (by intro hq; (try simp only [Bool.and_eq_true, Bool.or_eq_true, Bool.and_eq_false_iff, Bool.or_eq_false_iff, decide_eq_true_eq, decide_eq_false_iff_not, Bool.not_eq_true', Bool.not_eq_false', beq_iff_eq, beq_eq_false_iff_ne, ne_eq] at hq); omega) ?_ | fail)
        refine ⟨j + 1, ⟨by omega, fun x hx => ?_⟩, by omega, by rfl, ?_⟩
        · rcases Nat.lt_or_ge x j with g | g
          · exact hdup x g
          · rw [show x = j by omega, hq]; exact hz
        · simp (maxSteps := 400000) (disch := omega) only [push_cast, ↓reduceIte, reduceCtorEq, Nat.reduceAdd, Nat.reduceSub, Nat.reduceEqDiff, Nat.reduceLeDiff, Nat.reduceLT, Nat.reduceBEq, Nat.reduceDiv, Nat.reduceMod, Nat.reducePow, Nat.reduceMul, Int.reduceToNat, Int.reduceLT, Int.reduceLE, S.mk.injEq, List.cons.injEq, Prod.mk.injEq, AV.v.injEq, Value.int.injEq, Value.bool.injEq, Blk.cells.injEq]
    · have hji : j = i := by omega
      subst hji
      have hoki : okP m f ps j = true := by
        unfold okP dupB
        rw [hp, prtB_iff.2 hpok, Bool.true_and, Bool.not_eq_true', ← Bool.not_eq_true, List.any_eq_true]
        rintro ⟨x, hx, hq⟩
        rw [hdup x (List.mem_range.1 hx)] at hq
        cases hq
      have hrg := spW_rng h w (ps.take j) hpk 0
      have htl : (ps.take j).length = j := by rw [List.length_take]; omega
      rw [htl] at hrg
      have hrg : 0 ≤ spW (ps.take j) w ∧ spW (ps.take j) w ≤ 0 + j * 1073741824 := hrg
      have hj3 : (j : Int) * 1073741824 ≤ 1000000 * 1073741824 := by omega
      have hset : (tbI m.ws.length (spW (ps.take j))).set w (spW (ps.take j) w + p.v) = tbI m.ws.length (spW (ps.take (j + 1))) := by
        rw [hsn]
        refine tbI_set ?_ (fun x hx hne => ?_)
        · rw [spW_snoc]; unfold spS; rw [if_pos (by omega)]
        · rw [spW_snoc]; unfold spS; rw [if_neg (by omega)]
      have hat := tbI_at (n := m.ws.length) (spW (ps.take j)) (show w < m.ws.length by omega)
      repeat' (first | refine WK_go ?_ | refine W_seqL ?_ | refine W_seq ?_ | refine W_block ?_ | refine W_scp ?_ | ((first | refine W_regL ?_ | refine W_skip ?_ | refine W_exit ?_); simp (maxSteps := 400000) (disch := omega) only [push_cast, ↓reduceIte, reduceCtorEq, Nat.reduceAdd, Nat.reduceSub, Nat.reduceEqDiff, Nat.reduceLeDiff, Nat.reduceLT, Nat.reduceBEq, Nat.reduceDiv, Nat.reduceMod, Nat.reducePow, Nat.reduceMul, Int.reduceToNat, Int.reduceLT, Int.reduceLE, ew, tl, hat, Int.toNat_natCast]) | refine And.intro (by omega) ?_ | refine And.intro (by intro hq; (try simp only [Bool.and_eq_true, Bool.or_eq_true, Bool.and_eq_false_iff, Bool.or_eq_false_iff, decide_eq_true_eq, decide_eq_false_iff_not, Bool.not_eq_true', Bool.not_eq_false', beq_iff_eq, beq_eq_false_iff_ne, ne_eq] at hq); omega) ?_ | fail)
      refine ⟨rfl, ⟨Nat.le_of_ble_eq_true rfl, rfl⟩, by omega, spW (ps.take j) w + p.v, rfl, rfl, ?_⟩
      rw [hset]
      simp (maxSteps := 400000) (disch := omega) only [push_cast, ↓reduceIte, reduceCtorEq, Nat.reduceAdd, Nat.reduceSub, Nat.reduceEqDiff, Nat.reduceLeDiff, Nat.reduceLT, Nat.reduceBEq, Nat.reduceDiv, Nat.reduceMod, Nat.reducePow, Nat.reduceMul, Int.reduceToNat, Int.reduceLT, Int.reduceLE]
      repeat' (first | refine WK_go ?_ | refine W_seqL ?_ | refine W_seq ?_ | refine W_block ?_ | refine W_scp ?_ | ((first | refine W_regL ?_ | refine W_skip ?_ | refine W_exit ?_); simp (maxSteps := 400000) (disch := omega) only [push_cast, ↓reduceIte, reduceCtorEq, Nat.reduceAdd, Nat.reduceSub, Nat.reduceEqDiff, Nat.reduceLeDiff, Nat.reduceLT, Nat.reduceBEq, Nat.reduceDiv, Nat.reduceMod, Nat.reducePow, Nat.reduceMul, Int.reduceToNat, Int.reduceLT, Int.reduceLE]) | refine And.intro (by omega) ?_ | refine And.intro (by intro hq; (try simp only [Bool.and_eq_true, Bool.or_eq_true, Bool.and_eq_false_iff, Bool.or_eq_false_iff, decide_eq_true_eq, decide_eq_false_iff_not, Bool.not_eq_true', Bool.not_eq_false', beq_iff_eq, beq_eq_false_iff_ne, ne_eq] at hq); omega) ?_ | fail)
      refine ⟨j + 1, ⟨by omega, fun x hx => ?_⟩, by omega, by rfl, ?_⟩
      · rcases Nat.lt_or_ge x j with g | g
        · exact hall x g
        · rw [show x = j by omega]; exact hoki
      · simp (maxSteps := 400000) (disch := omega) only [push_cast, ↓reduceIte, reduceCtorEq, Nat.reduceAdd, Nat.reduceSub, Nat.reduceEqDiff, Nat.reduceLeDiff, Nat.reduceLT, Nat.reduceBEq, Nat.reduceDiv, Nat.reduceMod, Nat.reducePow, Nat.reduceMul, Int.reduceToNat, Int.reduceLT, Int.reduceLE, S.mk.injEq, List.cons.injEq, Prod.mk.injEq, AV.v.injEq, Value.int.injEq, Value.bool.injEq, Blk.cells.injEq]
  have hil : i = ps.length := by omega
  subst hil
  rw [List.take_length] at *
  clear h5 hi
  repeat' (first | refine WK_go ?_ | refine W_seqL ?_ | refine W_seq ?_ | refine W_block ?_ | refine W_scp ?_ | ((first | refine W_regL ?_ | refine W_skip ?_ | refine W_exit ?_); simp (maxSteps := 400000) (disch := omega) only [push_cast, ↓reduceIte, reduceCtorEq, Nat.reduceAdd, Nat.reduceSub, Nat.reduceEqDiff, Nat.reduceLeDiff, Nat.reduceLT, Nat.reduceBEq, Nat.reduceDiv, Nat.reduceMod, Nat.reducePow, Nat.reduceMul, Int.reduceToNat, Int.reduceLT, Int.reduceLE]) | refine And.intro (by omega) ?_ | refine And.intro (by intro hq; (try simp only [Bool.and_eq_true, Bool.or_eq_true, Bool.and_eq_false_iff, Bool.or_eq_false_iff, decide_eq_true_eq, decide_eq_false_iff_not, Bool.not_eq_true', Bool.not_eq_false', beq_iff_eq, beq_eq_false_iff_ne, ne_eq] at hq); omega) ?_ | fail)
  refine W_loopU (fun w : Nat => [(12, iv w)]) (fun w => []) (fun w => w ≤ m.ws.length ∧ ∀ x, x < w → spW ps x ≤ (gw m x).c) (fun w => m.ws.length - w) 0 ⟨by omega, fun j hj => by omega⟩ (by rfl) (by rfl) (fun w hw1 => ?_)
  obtain ⟨hw1, hall2⟩ := hw1
  simp (maxSteps := 400000) (disch := omega) only [push_cast, ↓reduceIte, reduceCtorEq, Nat.reduceAdd, Nat.reduceSub, Nat.reduceEqDiff, Nat.reduceLeDiff, Nat.reduceLT, Nat.reduceBEq, Nat.reduceDiv, Nat.reduceMod, Nat.reducePow, Nat.reduceMul, Int.reduceToNat, Int.reduceLT, Int.reduceLE]
  repeat' (first | refine WK_go ?_ | refine W_seqL ?_ | refine W_seq ?_ | refine W_block ?_ | refine W_scp ?_ | ((first | refine W_regL ?_ | refine W_skip ?_ | refine W_exit ?_); simp (maxSteps := 400000) (disch := omega) only [push_cast, ↓reduceIte, reduceCtorEq, Nat.reduceAdd, Nat.reduceSub, Nat.reduceEqDiff, Nat.reduceLeDiff, Nat.reduceLT, Nat.reduceBEq, Nat.reduceDiv, Nat.reduceMod, Nat.reducePow, Nat.reduceMul, Int.reduceToNat, Int.reduceLT, Int.reduceLE]) | refine And.intro (by omega) ?_ | refine And.intro (by intro hq; (try simp only [Bool.and_eq_true, Bool.or_eq_true, Bool.and_eq_false_iff, Bool.or_eq_false_iff, decide_eq_true_eq, decide_eq_false_iff_not, Bool.not_eq_true', Bool.not_eq_false', beq_iff_eq, beq_eq_false_iff_ne, ne_eq] at hq); omega) ?_ | fail)
  refine W_condD (by rfl) (fun h5 => ?_) (fun h5 => ?_)
  · have hlt : w < m.ws.length := by omega
    have hat := tbI_at (n := m.ws.length) (spW ps) hlt
    have hgw : m.ws.getD w dW = gw m w := rfl
    repeat' (first | refine WK_go ?_ | refine W_seqL ?_ | refine W_seq ?_ | refine W_block ?_ | refine W_scp ?_ | ((first | refine W_regL ?_ | refine W_skip ?_ | refine W_exit ?_); simp (maxSteps := 400000) (disch := omega) only [push_cast, ↓reduceIte, reduceCtorEq, Nat.reduceAdd, Nat.reduceSub, Nat.reduceEqDiff, Nat.reduceLeDiff, Nat.reduceLT, Nat.reduceBEq, Nat.reduceDiv, Nat.reduceMod, Nat.reducePow, Nat.reduceMul, Int.reduceToNat, Int.reduceLT, Int.reduceLE, tl, hat, hgw, Int.toNat_natCast]) | refine And.intro (by omega) ?_ | refine And.intro (by intro hq; (try simp only [Bool.and_eq_true, Bool.or_eq_true, Bool.and_eq_false_iff, Bool.or_eq_false_iff, decide_eq_true_eq, decide_eq_false_iff_not, Bool.not_eq_true', Bool.not_eq_false', beq_iff_eq, beq_eq_false_iff_ne, ne_eq] at hq); omega) ?_ | fail)
    refine W_condD (by rfl) (fun hz => ?_) (fun hz => ?_)
    · rw [rgt_no2 hlt hz]
      repeat' (first | refine WK_go ?_ | refine W_seqL ?_ | refine W_seq ?_ | refine W_block ?_ | refine W_scp ?_ | ((first | refine W_regL ?_ | refine W_skip ?_ | refine W_exit ?_); simp (maxSteps := 400000) (disch := omega) only [push_cast, ↓reduceIte, reduceCtorEq, Nat.reduceAdd, Nat.reduceSub, Nat.reduceEqDiff, Nat.reduceLeDiff, Nat.reduceLT, Nat.reduceBEq, Nat.reduceDiv, Nat.reduceMod, Nat.reducePow, Nat.reduceMul, Int.reduceToNat, Int.reduceLT, Int.reduceLE]) | refine And.intro (by omega) ?_ | refine And.intro (by intro hq; (try simp only [Bool.and_eq_true, Bool.or_eq_true, Bool.and_eq_false_iff, Bool.or_eq_false_iff, decide_eq_true_eq, decide_eq_false_iff_not, Bool.not_eq_true', Bool.not_eq_false', beq_iff_eq, beq_eq_false_iff_ne, ne_eq] at hq); omega) ?_ | fail)
      exact W_ret ⟨[_], ⟨rfl, rfl⟩, rfl⟩
    · repeat' (first | refine WK_go ?_ | refine W_seqL ?_ | refine W_seq ?_ | refine W_block ?_ | refine W_scp ?_ | ((first | refine W_regL ?_ | refine W_skip ?_ | refine W_exit ?_); simp (maxSteps := 400000) (disch := omega) only [push_cast, ↓reduceIte, reduceCtorEq, Nat.reduceAdd, Nat.reduceSub, Nat.reduceEqDiff, Nat.reduceLeDiff, Nat.reduceLT, Nat.reduceBEq, Nat.reduceDiv, Nat.reduceMod, Nat.reducePow, Nat.reduceMul, Int.reduceToNat, Int.reduceLT, Int.reduceLE]) | refine And.intro (by omega) ?_ | refine And.intro (by intro hq; (try simp only [Bool.and_eq_true, Bool.or_eq_true, Bool.and_eq_false_iff, Bool.or_eq_false_iff, decide_eq_true_eq, decide_eq_false_iff_not, Bool.not_eq_true', Bool.not_eq_false', beq_iff_eq, beq_eq_false_iff_ne, ne_eq] at hq); omega) ?_ | fail)
      refine ⟨w + 1, ⟨by omega, fun x hx => ?_⟩, by omega, by rfl, ?_⟩
      · rcases Nat.lt_or_ge x w with g | g
        · exact hall2 x g
        · rw [show x = w by omega]; omega
      · simp (maxSteps := 400000) (disch := omega) only [push_cast, ↓reduceIte, reduceCtorEq, Nat.reduceAdd, Nat.reduceSub, Nat.reduceEqDiff, Nat.reduceLeDiff, Nat.reduceLT, Nat.reduceBEq, Nat.reduceDiv, Nat.reduceMod, Nat.reducePow, Nat.reduceMul, Int.reduceToNat, Int.reduceLT, Int.reduceLE, S.mk.injEq, List.cons.injEq, Prod.mk.injEq, AV.v.injEq, Value.int.injEq, Value.bool.injEq, Blk.cells.injEq]
  have h2 : ∀ x, x < m.ws.length → spW ps x ≤ (gw m x).c := fun x hx => hall2 x (by omega)
  clear h5 hw1 hall2
  repeat' (first | refine WK_go ?_ | refine W_seqL ?_ | refine W_seq ?_ | refine W_block ?_ | refine W_scp ?_ | ((first | refine W_regL ?_ | refine W_skip ?_ | refine W_exit ?_); simp (maxSteps := 400000) (disch := omega) only [push_cast, ↓reduceIte, reduceCtorEq, Nat.reduceAdd, Nat.reduceSub, Nat.reduceEqDiff, Nat.reduceLeDiff, Nat.reduceLT, Nat.reduceBEq, Nat.reduceDiv, Nat.reduceMod, Nat.reducePow, Nat.reduceMul, Int.reduceToNat, Int.reduceLT, Int.reduceLE]) | refine And.intro (by omega) ?_ | refine And.intro (by intro hq; (try simp only [Bool.and_eq_true, Bool.or_eq_true, Bool.and_eq_false_iff, Bool.or_eq_false_iff, decide_eq_true_eq, decide_eq_false_iff_not, Bool.not_eq_true', Bool.not_eq_false', beq_iff_eq, beq_eq_false_iff_ne, ne_eq] at hq); omega) ?_ | fail)
  refine W_loopU (fun i : Nat => [(13, iv i)]) (fun w => []) (fun i => (i : Int) ≤ m.n ∧ ∀ x, x < i → hgB (gi hs x) = true) (fun i => m.n.toNat - i) 0 ⟨by omega, fun j hj => by omega⟩ (by rfl) (by rfl) (fun i hi => ?_)
  obtain ⟨hi, hall3⟩ := hi
  have gI : ∀ (l : List Int) i, l.getD i 0 = gi l i := fun _ _ => rfl
  simp (maxSteps := 400000) (disch := omega) only [push_cast, ↓reduceIte, reduceCtorEq, Nat.reduceAdd, Nat.reduceSub, Nat.reduceEqDiff, Nat.reduceLeDiff, Nat.reduceLT, Nat.reduceBEq, Nat.reduceDiv, Nat.reduceMod, Nat.reducePow, Nat.reduceMul, Int.reduceToNat, Int.reduceLT, Int.reduceLE]
  repeat' (first | refine WK_go ?_ | refine W_seqL ?_ | refine W_seq ?_ | refine W_block ?_ | refine W_scp ?_ | ((first | refine W_regL ?_ | refine W_skip ?_ | refine W_exit ?_); simp (maxSteps := 400000) (disch := omega) only [push_cast, ↓reduceIte, reduceCtorEq, Nat.reduceAdd, Nat.reduceSub, Nat.reduceEqDiff, Nat.reduceLeDiff, Nat.reduceLT, Nat.reduceBEq, Nat.reduceDiv, Nat.reduceMod, Nat.reducePow, Nat.reduceMul, Int.reduceToNat, Int.reduceLT, Int.reduceLE]) | refine And.intro (by omega) ?_ | refine And.intro (by intro hq; (try simp only [Bool.and_eq_true, Bool.or_eq_true, Bool.and_eq_false_iff, Bool.or_eq_false_iff, decide_eq_true_eq, decide_eq_false_iff_not, Bool.not_eq_true', Bool.not_eq_false', beq_iff_eq, beq_eq_false_iff_ne, ne_eq] at hq); omega) ?_ | fail)
  refine W_condD (by rfl) (fun h5 => ?_) (fun h5 => ?_)
  · have hlt : i < m.n.toNat := by omega
    have c66 := fn66 (gi hs i) (-35184372088832) 35184372088832
    have e : inR (gi hs i) (-35184372088832) 35184372088832 = hgB (gi hs i) := by
      unfold hgB
      rw [Bool.eq_iff_iff, inR_iff, decide_eq_true_eq]
    rw [e] at c66
    have hno := fun q => rgt_no3 (f := f) (ps := ps) (hs := hs) hlt q
    have hy := hall3
    repeat' (first | refine WK_go ?_ | refine W_seqL ?_ | refine W_seq ?_ | refine W_block ?_ | refine W_scp ?_ | ((first | refine W_regL ?_ | refine W_skip ?_ | refine W_exit ?_ | refine CallC.now (c66) ?_); simp (maxSteps := 400000) (disch := omega) only [push_cast, ↓reduceIte, reduceCtorEq, Nat.reduceAdd, Nat.reduceSub, Nat.reduceEqDiff, Nat.reduceLeDiff, Nat.reduceLT, Nat.reduceBEq, Nat.reduceDiv, Nat.reduceMod, Nat.reducePow, Nat.reduceMul, Int.reduceToNat, Int.reduceLT, Int.reduceLE, gI]) | refine And.intro (by omega) ?_ | refine And.intro (by intro hq; (try simp only [Bool.and_eq_true, Bool.or_eq_true, Bool.and_eq_false_iff, Bool.or_eq_false_iff, decide_eq_true_eq, decide_eq_false_iff_not, Bool.not_eq_true', Bool.not_eq_false', beq_iff_eq, beq_eq_false_iff_ne, ne_eq] at hq); omega) ?_ | fail)
    refine W_cond (by rfl) (fun hz => ?_) (fun hz => ?_)
    · rw [hno (by simpa using hz)]
      repeat' (first | refine WK_go ?_ | refine W_seqL ?_ | refine W_seq ?_ | refine W_block ?_ | refine W_scp ?_ | ((first | refine W_regL ?_ | refine W_skip ?_ | refine W_exit ?_); simp (maxSteps := 400000) (disch := omega) only [push_cast, ↓reduceIte, reduceCtorEq, Nat.reduceAdd, Nat.reduceSub, Nat.reduceEqDiff, Nat.reduceLeDiff, Nat.reduceLT, Nat.reduceBEq, Nat.reduceDiv, Nat.reduceMod, Nat.reducePow, Nat.reduceMul, Int.reduceToNat, Int.reduceLT, Int.reduceLE]) | refine And.intro (by omega) ?_ | refine And.intro (by intro hq; (try simp only [Bool.and_eq_true, Bool.or_eq_true, Bool.and_eq_false_iff, Bool.or_eq_false_iff, decide_eq_true_eq, decide_eq_false_iff_not, Bool.not_eq_true', Bool.not_eq_false', beq_iff_eq, beq_eq_false_iff_ne, ne_eq] at hq); omega) ?_ | fail)
      exact W_ret ⟨[_], ⟨rfl, rfl⟩, rfl⟩
    · repeat' (first | refine WK_go ?_ | refine W_seqL ?_ | refine W_seq ?_ | refine W_block ?_ | refine W_scp ?_ | ((first | refine W_regL ?_ | refine W_skip ?_ | refine W_exit ?_); simp (maxSteps := 400000) (disch := omega) only [push_cast, ↓reduceIte, reduceCtorEq, Nat.reduceAdd, Nat.reduceSub, Nat.reduceEqDiff, Nat.reduceLeDiff, Nat.reduceLT, Nat.reduceBEq, Nat.reduceDiv, Nat.reduceMod, Nat.reducePow, Nat.reduceMul, Int.reduceToNat, Int.reduceLT, Int.reduceLE]) | refine And.intro (by omega) ?_ | refine And.intro (by intro hq; (try simp only [Bool.and_eq_true, Bool.or_eq_true, Bool.and_eq_false_iff, Bool.or_eq_false_iff, decide_eq_true_eq, decide_eq_false_iff_not, Bool.not_eq_true', Bool.not_eq_false', beq_iff_eq, beq_eq_false_iff_ne, ne_eq] at hq); omega) ?_ | fail)
      refine ⟨i + 1, ⟨by omega, fun x hx => ?_⟩, by omega, by rfl, ?_⟩
      · rcases Nat.lt_or_ge x i with g | g
        · exact hall3 x g
        · rw [show x = i by omega]; simpa using hz
      · simp (maxSteps := 400000) (disch := omega) only [push_cast, ↓reduceIte, reduceCtorEq, Nat.reduceAdd, Nat.reduceSub, Nat.reduceEqDiff, Nat.reduceLeDiff, Nat.reduceLT, Nat.reduceBEq, Nat.reduceDiv, Nat.reduceMod, Nat.reducePow, Nat.reduceMul, Int.reduceToNat, Int.reduceLT, Int.reduceLE, S.mk.injEq, List.cons.injEq, Prod.mk.injEq, AV.v.injEq, Value.int.injEq, Value.bool.injEq, Blk.cells.injEq]
  have h3 : ∀ x, x < m.n.toNat → hgB (gi hs x) = true := fun x hx => hall3 x (by omega)
  have hgr : ∀ x, x < m.n.toNat → -35184372088832 ≤ gi hs x ∧ gi hs x ≤ 35184372088832 := fun x hx => by
    have := h3 x hx
    unfold hgB at this
    rwa [decide_eq_true_eq] at this
  clear h5 hi hall3
  have hv : ∀ p ∈ ps, 0 ≤ p.v := fun p hp => (hpk p hp).v.1
  have c105 := fn105 m (by omega)
  repeat' (first | refine WK_go ?_ | refine W_seqL ?_ | refine W_seq ?_ | refine W_block ?_ | refine W_scp ?_ | ((first | refine W_regL ?_ | refine W_skip ?_ | refine W_exit ?_); simp (maxSteps := 400000) (disch := omega) only [push_cast, ↓reduceIte, reduceCtorEq, Nat.reduceAdd, Nat.reduceSub, Nat.reduceEqDiff, Nat.reduceLeDiff, Nat.reduceLT, Nat.reduceBEq, Nat.reduceDiv, Nat.reduceMod, Nat.reducePow, Nat.reduceMul, Int.reduceToNat, Int.reduceLT, Int.reduceLE]) | refine And.intro (by omega) ?_ | refine And.intro (by intro hq; (try simp only [Bool.and_eq_true, Bool.or_eq_true, Bool.and_eq_false_iff, Bool.or_eq_false_iff, decide_eq_true_eq, decide_eq_false_iff_not, Bool.not_eq_true', Bool.not_eq_false', beq_iff_eq, beq_eq_false_iff_ne, ne_eq] at hq); omega) ?_ | fail)
  refine W_loopU (fun i : Nat => [(14, iv i)]) (fun w => []) (fun i => i ≤ m.rs.length ∧ ∀ x, x < i → rdOK m f ps hs x = true) (fun i => m.rs.length - i) 0 ⟨by omega, fun j hj => by omega⟩ (by rfl) (by rfl) (fun i hi => ?_)
  obtain ⟨hi, hall4⟩ := hi
  simp (maxSteps := 400000) (disch := omega) only [push_cast, ↓reduceIte, reduceCtorEq, Nat.reduceAdd, Nat.reduceSub, Nat.reduceEqDiff, Nat.reduceLeDiff, Nat.reduceLT, Nat.reduceBEq, Nat.reduceDiv, Nat.reduceMod, Nat.reducePow, Nat.reduceMul, Int.reduceToNat, Int.reduceLT, Int.reduceLE]
  repeat' (first | refine WK_go ?_ | refine W_seqL ?_ | refine W_seq ?_ | refine W_block ?_ | refine W_scp ?_ | ((first | refine W_regL ?_ | refine W_skip ?_ | refine W_exit ?_); simp (maxSteps := 400000) (disch := omega) only [push_cast, ↓reduceIte, reduceCtorEq, Nat.reduceAdd, Nat.reduceSub, Nat.reduceEqDiff, Nat.reduceLeDiff, Nat.reduceLT, Nat.reduceBEq, Nat.reduceDiv, Nat.reduceMod, Nat.reducePow, Nat.reduceMul, Int.reduceToNat, Int.reduceLT, Int.reduceLE]) | refine And.intro (by omega) ?_ | refine And.intro (by intro hq; (try simp only [Bool.and_eq_true, Bool.or_eq_true, Bool.and_eq_false_iff, Bool.or_eq_false_iff, decide_eq_true_eq, decide_eq_false_iff_not, Bool.not_eq_true', Bool.not_eq_false', beq_iff_eq, beq_eq_false_iff_ne, ne_eq] at hq); omega) ?_ | fail)
  refine W_condD (by rfl) (fun h5 => ?_) (fun h5 => ?_)
  · have hlt : i < m.rs.length := by omega
    have ok := roadB_ok (h.r i hlt)
    have ofr := ok.f
    have otr := ok.t
    have g1 := hgr (gr m i).f.toNat (by omega)
    have g2 := hgr (gr m i).t.toNat (by omega)
    have hgR : m.rs.getD i dR = gr m i := rfl
    have c103 := fn103 m f (evL m.ws.length) i h (ev_srt _) hlt
    have c106 := fn106 m f ps i h hlt hl hv
    have erd : rdOK m f ps hs i = !(usB m f (evL m.ws.length) i && decide (redS m f ps i 6 < gi hs (gr m i).t.toNat - gi hs (gr m i).f.toNat)) := rfl
    generalize usB m f (evL m.ws.length) i = U at *
    generalize redS m f ps i 6 = R at *
    generalize evL m.ws.length = E at *
    repeat' (first | refine WK_go ?_ | refine W_seqL ?_ | refine W_seq ?_ | refine W_block ?_ | refine W_scp ?_ | ((first | refine W_regL ?_ | refine W_skip ?_ | refine W_exit ?_); simp (maxSteps := 400000) (disch := omega) only [push_cast, ↓reduceIte, reduceCtorEq, Nat.reduceAdd, Nat.reduceSub, Nat.reduceEqDiff, Nat.reduceLeDiff, Nat.reduceLT, Nat.reduceBEq, Nat.reduceDiv, Nat.reduceMod, Nat.reducePow, Nat.reduceMul, Int.reduceToNat, Int.reduceLT, Int.reduceLE, hgR]) | refine And.intro (by omega) ?_ | refine And.intro (by intro hq; (try simp only [Bool.and_eq_true, Bool.or_eq_true, Bool.and_eq_false_iff, Bool.or_eq_false_iff, decide_eq_true_eq, decide_eq_false_iff_not, Bool.not_eq_true', Bool.not_eq_false', beq_iff_eq, beq_eq_false_iff_ne, ne_eq] at hq); omega) ?_ | fail)
    repeat' (first | refine WK_go ?_ | refine W_seqL ?_ | refine W_seq ?_ | refine W_block ?_ | refine W_scp ?_ | ((first | refine W_regL ?_ | refine W_skip ?_ | refine W_exit ?_ | refine CallC.now (c105) ?_ | refine CallC.now (c103) ?_ | refine CallC.go _ (fun _ => ⟨trivial, c106⟩) rfl ?_); simp (maxSteps := 400000) (disch := omega) only [push_cast, ↓reduceIte, reduceCtorEq, Nat.reduceAdd, Nat.reduceSub, Nat.reduceEqDiff, Nat.reduceLeDiff, Nat.reduceLT, Nat.reduceBEq, Nat.reduceDiv, Nat.reduceMod, Nat.reducePow, Nat.reduceMul, Int.reduceToNat, Int.reduceLT, Int.reduceLE, gI, hgR]) | refine And.intro (by omega) ?_ | refine And.intro (by intro hq; (try simp only [Bool.and_eq_true, Bool.or_eq_true, Bool.and_eq_false_iff, Bool.or_eq_false_iff, decide_eq_true_eq, decide_eq_false_iff_not, Bool.not_eq_true', Bool.not_eq_false', beq_iff_eq, beq_eq_false_iff_ne, ne_eq] at hq); omega) ?_ | fail)
    refine W_cond (by rfl) (fun hz => ?_) (fun hz => ?_)
    · rw [hz] at erd
      rw [rgt_no4 hlt erd]
      repeat' (first | refine WK_go ?_ | refine W_seqL ?_ | refine W_seq ?_ | refine W_block ?_ | refine W_scp ?_ | ((first | refine W_regL ?_ | refine W_skip ?_ | refine W_exit ?_); simp (maxSteps := 400000) (disch := omega) only [push_cast, ↓reduceIte, reduceCtorEq, Nat.reduceAdd, Nat.reduceSub, Nat.reduceEqDiff, Nat.reduceLeDiff, Nat.reduceLT, Nat.reduceBEq, Nat.reduceDiv, Nat.reduceMod, Nat.reducePow, Nat.reduceMul, Int.reduceToNat, Int.reduceLT, Int.reduceLE]) | refine And.intro (by omega) ?_ | refine And.intro (by intro hq; (try simp only [Bool.and_eq_true, Bool.or_eq_true, Bool.and_eq_false_iff, Bool.or_eq_false_iff, decide_eq_true_eq, decide_eq_false_iff_not, Bool.not_eq_true', Bool.not_eq_false', beq_iff_eq, beq_eq_false_iff_ne, ne_eq] at hq); omega) ?_ | fail)
      exact W_ret ⟨[_], ⟨rfl, rfl⟩, rfl⟩
    · rw [hz] at erd
      repeat' (first | refine WK_go ?_ | refine W_seqL ?_ | refine W_seq ?_ | refine W_block ?_ | refine W_scp ?_ | ((first | refine W_regL ?_ | refine W_skip ?_ | refine W_exit ?_); simp (maxSteps := 400000) (disch := omega) only [push_cast, ↓reduceIte, reduceCtorEq, Nat.reduceAdd, Nat.reduceSub, Nat.reduceEqDiff, Nat.reduceLeDiff, Nat.reduceLT, Nat.reduceBEq, Nat.reduceDiv, Nat.reduceMod, Nat.reducePow, Nat.reduceMul, Int.reduceToNat, Int.reduceLT, Int.reduceLE]) | refine And.intro (by omega) ?_ | refine And.intro (by intro hq; (try simp only [Bool.and_eq_true, Bool.or_eq_true, Bool.and_eq_false_iff, Bool.or_eq_false_iff, decide_eq_true_eq, decide_eq_false_iff_not, Bool.not_eq_true', Bool.not_eq_false', beq_iff_eq, beq_eq_false_iff_ne, ne_eq] at hq); omega) ?_ | fail)
      refine ⟨i + 1, ⟨by omega, fun x hx => ?_⟩, by omega, by rfl, ?_⟩
      · rcases Nat.lt_or_ge x i with g | g
        · exact hall4 x g
        · rw [show x = i by omega, erd]; rfl
      · simp (maxSteps := 400000) (disch := omega) only [push_cast, ↓reduceIte, reduceCtorEq, Nat.reduceAdd, Nat.reduceSub, Nat.reduceEqDiff, Nat.reduceLeDiff, Nat.reduceLT, Nat.reduceBEq, Nat.reduceDiv, Nat.reduceMod, Nat.reducePow, Nat.reduceMul, Int.reduceToNat, Int.reduceLT, Int.reduceLE, S.mk.injEq, List.cons.injEq, Prod.mk.injEq, AV.v.injEq, Value.int.injEq, Value.bool.injEq, Blk.cells.injEq]
  · rw [rgt_yes hall h2 h3 (fun x hx => hall4 x (by omega))]
    repeat' (first | refine WK_go ?_ | refine W_seqL ?_ | refine W_seq ?_ | refine W_block ?_ | refine W_scp ?_ | ((first | refine W_regL ?_ | refine W_skip ?_ | refine W_exit ?_); simp (maxSteps := 400000) (disch := omega) only [push_cast, ↓reduceIte, reduceCtorEq, Nat.reduceAdd, Nat.reduceSub, Nat.reduceEqDiff, Nat.reduceLeDiff, Nat.reduceLT, Nat.reduceBEq, Nat.reduceDiv, Nat.reduceMod, Nat.reducePow, Nat.reduceMul, Int.reduceToNat, Int.reduceLT, Int.reduceLE]) | refine And.intro (by omega) ?_ | refine And.intro (by intro hq; (try simp only [Bool.and_eq_true, Bool.or_eq_true, Bool.and_eq_false_iff, Bool.or_eq_false_iff, decide_eq_true_eq, decide_eq_false_iff_not, Bool.not_eq_true', Bool.not_eq_false', beq_iff_eq, beq_eq_false_iff_ne, ne_eq] at hq); omega) ?_ | fail)
    exact W_ret ⟨[_], ⟨rfl, rfl⟩, rfl⟩
end Go.Proofs.Ytfbdlmenhoagmaa

namespace Go.Proofs.Ytfbdlmenhoagmaa
open Go Sy
set_option maxRecDepth 100000
set_option maxHeartbeats 4000000
set_option linter.unusedVariables false
set_option linter.unusedSimpArgs false
def bdE (m : Mp) (f : Nat → Int) (fr to : Int) (ps : List Prt) (hs : List Int) : Int :=
  if opE m f = 0 then (if plB m.n fr = true ∧ plB m.n to = true then (if (hs.length : Int) = m.n then (if rgtB m f ps hs = true then 0 else 16) else 17) else 3) else opE m f
def bdV (m : Mp) (f : Nat → Int) (fr to : Int) (ps : List Prt) (hs : List Int) : Int := if bdE m f fr to ps hs = 0 then gi hs to.toNat - gi hs fr.toNat else 0
theorem rgt_hs {m : Mp} {f : Nat → Int} {ps : List Prt} {hs : List Int} (h : rgtB m f ps hs = true) : ∀ x, x < m.n.toNat → -35184372088832 ≤ gi hs x ∧ gi hs x ≤ 35184372088832 := fun x hx => by
  unfold rgtB at h
  rw [Bool.and_eq_true, Bool.and_eq_true, List.all_eq_true, List.all_eq_true] at h
  have := h.1.2 x (List.mem_range.2 hx)
  unfold hgB at this
  rwa [decide_eq_true_eq] at this
theorem fn38 (m : Mp) (f : Nat → Int) (fr to : Int) (ps : List Prt) (hs : List Int) (hm : Gm m) (hl : ps.length ≤ 1000000) : Sy.Fn Try.prog 38 [aM m, .agg (c6 f), iv fr, iv to, .agg (cBd ps hs)] (.tup [iv (bdV m f fr to ps hs), iv (bdE m f fr to ps hs)]) := by
  refine Fn_of_W mixed Xt38 rfl ?_
  have c78 := fn78 m f hm
  have fin : bdE m f fr to ps hs ≠ 0 → bdV m f fr to ps hs = 0 := fun q => by unfold bdV; rw [if_neg q]
  by_cases h0 : opE m f = 0
  rotate_left
  · have e1 : bdE m f fr to ps hs = opE m f := by unfold bdE; rw [if_neg h0]
    have e2 := fin (by rw [e1]; exact h0)
    rw [e1, e2]
    unfold cBd
    generalize opE m f = e at *
    repeat' (first | refine WK_go ?_ | refine W_seqL ?_ | refine W_seq ?_ | refine W_block ?_ | refine W_scp ?_ | ((first | refine W_regL ?_ | refine W_skip ?_ | refine W_exit ?_ | refine CallC.now (c78) ?_); simp (maxSteps := 400000) (disch := omega) only [push_cast, ↓reduceIte, reduceCtorEq, Nat.reduceAdd, Nat.reduceSub, Nat.reduceEqDiff, Nat.reduceLeDiff, Nat.reduceLT, Nat.reduceBEq, Nat.reduceDiv, Nat.reduceMod, Nat.reducePow, Nat.reduceMul, Int.reduceToNat, Int.reduceLT, Int.reduceLE]) | refine And.intro (by omega) ?_ | refine And.intro (by intro hq; (try simp only [Bool.and_eq_true, Bool.or_eq_true, Bool.and_eq_false_iff, Bool.or_eq_false_iff, decide_eq_true_eq, decide_eq_false_iff_not, Bool.not_eq_true', Bool.not_eq_false', beq_iff_eq, beq_eq_false_iff_ne, ne_eq] at hq); omega) ?_ | fail)
    refine W_cond (by rfl) (fun h => ?_) (fun h => ?_)
    · repeat' (first | refine WK_go ?_ | refine W_seqL ?_ | refine W_seq ?_ | refine W_block ?_ | refine W_scp ?_ | ((first | refine W_regL ?_ | refine W_skip ?_ | refine W_exit ?_); simp (maxSteps := 400000) (disch := omega) only [push_cast, ↓reduceIte, reduceCtorEq, Nat.reduceAdd, Nat.reduceSub, Nat.reduceEqDiff, Nat.reduceLeDiff, Nat.reduceLT, Nat.reduceBEq, Nat.reduceDiv, Nat.reduceMod, Nat.reducePow, Nat.reduceMul, Int.reduceToNat, Int.reduceLT, Int.reduceLE]) | refine And.intro (by omega) ?_ | refine And.intro (by intro hq; (try simp only [Bool.and_eq_true, Bool.or_eq_true, Bool.and_eq_false_iff, Bool.or_eq_false_iff, decide_eq_true_eq, decide_eq_false_iff_not, Bool.not_eq_true', Bool.not_eq_false', beq_iff_eq, beq_eq_false_iff_ne, ne_eq] at hq); omega) ?_ | fail)
      exact W_ret ⟨[_, _], ⟨rfl, rfl, rfl⟩, rfl⟩
    · exact absurd (by simpa using h) h0
  have hchk : chkM m = 0 ∧ szE f = 0 := by
    unfold opE at h0
    by_cases q : chkM m = 0
    · rw [if_pos q] at h0; exact ⟨q, h0⟩
    · rw [if_neg q] at h0; exact absurd h0 q
  have hok := chkM_ok hchk.1
  have hmn := hok.n
  rw [h0] at c78
  have c1 := fn90 m fr
  have c2 := fn90 m to
  by_cases hp : plB m.n fr = true ∧ plB m.n to = true
  rotate_left
  · have e1 : bdE m f fr to ps hs = 3 := by unfold bdE; rw [if_pos h0, if_neg hp]
    have e2 := fin (by rw [e1]; decide)
    rw [e1, e2]
    unfold cBd
    repeat' (first | refine WK_go ?_ | refine W_seqL ?_ | refine W_seq ?_ | refine W_block ?_ | refine W_scp ?_ | ((first | refine W_regL ?_ | refine W_skip ?_ | refine W_exit ?_ | refine CallC.now (c78) ?_); simp (maxSteps := 400000) (disch := omega) only [push_cast, ↓reduceIte, reduceCtorEq, Nat.reduceAdd, Nat.reduceSub, Nat.reduceEqDiff, Nat.reduceLeDiff, Nat.reduceLT, Nat.reduceBEq, Nat.reduceDiv, Nat.reduceMod, Nat.reducePow, Nat.reduceMul, Int.reduceToNat, Int.reduceLT, Int.reduceLE]) | refine And.intro (by omega) ?_ | refine And.intro (by intro hq; (try simp only [Bool.and_eq_true, Bool.or_eq_true, Bool.and_eq_false_iff, Bool.or_eq_false_iff, decide_eq_true_eq, decide_eq_false_iff_not, Bool.not_eq_true', Bool.not_eq_false', beq_iff_eq, beq_eq_false_iff_ne, ne_eq] at hq); omega) ?_ | fail)
    refine W_cond (by rfl) (fun h => by cases h) (fun _ => ?_)
    repeat' (first | refine WK_go ?_ | refine W_seqL ?_ | refine W_seq ?_ | refine W_block ?_ | refine W_scp ?_ | ((first | refine W_regL ?_ | refine W_skip ?_ | refine W_exit ?_ | refine CallC.now (c1) ?_ | refine CallC.go _ (fun _ => ⟨trivial, c2⟩) rfl ?_); simp (maxSteps := 400000) (disch := omega) only [push_cast, ↓reduceIte, reduceCtorEq, Nat.reduceAdd, Nat.reduceSub, Nat.reduceEqDiff, Nat.reduceLeDiff, Nat.reduceLT, Nat.reduceBEq, Nat.reduceDiv, Nat.reduceMod, Nat.reducePow, Nat.reduceMul, Int.reduceToNat, Int.reduceLT, Int.reduceLE]) | refine And.intro (by omega) ?_ | refine And.intro (by intro hq; (try simp only [Bool.and_eq_true, Bool.or_eq_true, Bool.and_eq_false_iff, Bool.or_eq_false_iff, decide_eq_true_eq, decide_eq_false_iff_not, Bool.not_eq_true', Bool.not_eq_false', beq_iff_eq, beq_eq_false_iff_ne, ne_eq] at hq); omega) ?_ | fail)
    refine W_cond (by rfl) (fun h => ?_) (fun h => ?_)
    · repeat' (first | refine WK_go ?_ | refine W_seqL ?_ | refine W_seq ?_ | refine W_block ?_ | refine W_scp ?_ | ((first | refine W_regL ?_ | refine W_skip ?_ | refine W_exit ?_); simp (maxSteps := 400000) (disch := omega) only [push_cast, ↓reduceIte, reduceCtorEq, Nat.reduceAdd, Nat.reduceSub, Nat.reduceEqDiff, Nat.reduceLeDiff, Nat.reduceLT, Nat.reduceBEq, Nat.reduceDiv, Nat.reduceMod, Nat.reducePow, Nat.reduceMul, Int.reduceToNat, Int.reduceLT, Int.reduceLE]) | refine And.intro (by omega) ?_ | refine And.intro (by intro hq; (try simp only [Bool.and_eq_true, Bool.or_eq_true, Bool.and_eq_false_iff, Bool.or_eq_false_iff, decide_eq_true_eq, decide_eq_false_iff_not, Bool.not_eq_true', Bool.not_eq_false', beq_iff_eq, beq_eq_false_iff_ne, ne_eq] at hq); omega) ?_ | fail)
      exact W_ret ⟨[_, _], ⟨rfl, rfl, rfl⟩, rfl⟩
    · rw [Bool.or_eq_false_iff, Bool.not_eq_false', Bool.not_eq_false'] at h
      exact absurd h hp
  have hpr : (0 ≤ fr ∧ fr < m.n) ∧ (0 ≤ to ∧ to < m.n) := by
    have := hp.1; have := hp.2
    unfold plB at *
    simp only [Bool.and_eq_true, decide_eq_true_eq] at *
    omega
  rw [hp.1] at c1
  rw [hp.2] at c2
  by_cases hn : (hs.length : Int) = m.n
  rotate_left
  · have e1 : bdE m f fr to ps hs = 17 := by unfold bdE; rw [if_pos h0, if_pos hp, if_neg hn]
    have e2 := fin (by rw [e1]; decide)
    rw [e1, e2]
    unfold cBd
    repeat' (first | refine WK_go ?_ | refine W_seqL ?_ | refine W_seq ?_ | refine W_block ?_ | refine W_scp ?_ | ((first | refine W_regL ?_ | refine W_skip ?_ | refine W_exit ?_ | refine CallC.now (c78) ?_); simp (maxSteps := 400000) (disch := omega) only [push_cast, ↓reduceIte, reduceCtorEq, Nat.reduceAdd, Nat.reduceSub, Nat.reduceEqDiff, Nat.reduceLeDiff, Nat.reduceLT, Nat.reduceBEq, Nat.reduceDiv, Nat.reduceMod, Nat.reducePow, Nat.reduceMul, Int.reduceToNat, Int.reduceLT, Int.reduceLE]) | refine And.intro (by omega) ?_ | refine And.intro (by intro hq; (try simp only [Bool.and_eq_true, Bool.or_eq_true, Bool.and_eq_false_iff, Bool.or_eq_false_iff, decide_eq_true_eq, decide_eq_false_iff_not, Bool.not_eq_true', Bool.not_eq_false', beq_iff_eq, beq_eq_false_iff_ne, ne_eq] at hq); omega) ?_ | fail)
    refine W_cond (by rfl) (fun h => by cases h) (fun _ => ?_)
    repeat' (first | refine WK_go ?_ | refine W_seqL ?_ | refine W_seq ?_ | refine W_block ?_ | refine W_scp ?_ | ((first | refine W_regL ?_ | refine W_skip ?_ | refine W_exit ?_ | refine CallC.now (c1) ?_ | refine CallC.go _ (fun _ => ⟨trivial, c2⟩) rfl ?_); simp (maxSteps := 400000) (disch := omega) only [push_cast, ↓reduceIte, reduceCtorEq, Nat.reduceAdd, Nat.reduceSub, Nat.reduceEqDiff, Nat.reduceLeDiff, Nat.reduceLT, Nat.reduceBEq, Nat.reduceDiv, Nat.reduceMod, Nat.reducePow, Nat.reduceMul, Int.reduceToNat, Int.reduceLT, Int.reduceLE]) | refine And.intro (by omega) ?_ | refine And.intro (by intro hq; (try simp only [Bool.and_eq_true, Bool.or_eq_true, Bool.and_eq_false_iff, Bool.or_eq_false_iff, decide_eq_true_eq, decide_eq_false_iff_not, Bool.not_eq_true', Bool.not_eq_false', beq_iff_eq, beq_eq_false_iff_ne, ne_eq] at hq); omega) ?_ | fail)
    refine W_cond (by rfl) (fun h => by cases h) (fun _ => ?_)
    repeat' (first | refine WK_go ?_ | refine W_seqL ?_ | refine W_seq ?_ | refine W_block ?_ | refine W_scp ?_ | ((first | refine W_regL ?_ | refine W_skip ?_ | refine W_exit ?_); simp (maxSteps := 400000) (disch := omega) only [push_cast, ↓reduceIte, reduceCtorEq, Nat.reduceAdd, Nat.reduceSub, Nat.reduceEqDiff, Nat.reduceLeDiff, Nat.reduceLT, Nat.reduceBEq, Nat.reduceDiv, Nat.reduceMod, Nat.reducePow, Nat.reduceMul, Int.reduceToNat, Int.reduceLT, Int.reduceLE]) | refine And.intro (by omega) ?_ | refine And.intro (by intro hq; (try simp only [Bool.and_eq_true, Bool.or_eq_true, Bool.and_eq_false_iff, Bool.or_eq_false_iff, decide_eq_true_eq, decide_eq_false_iff_not, Bool.not_eq_true', Bool.not_eq_false', beq_iff_eq, beq_eq_false_iff_ne, ne_eq] at hq); omega) ?_ | fail)
    refine W_cond (by rfl) (fun h => ?_) (fun h => ?_)
    · repeat' (first | refine WK_go ?_ | refine W_seqL ?_ | refine W_seq ?_ | refine W_block ?_ | refine W_scp ?_ | ((first | refine W_regL ?_ | refine W_skip ?_ | refine W_exit ?_); simp (maxSteps := 400000) (disch := omega) only [push_cast, ↓reduceIte, reduceCtorEq, Nat.reduceAdd, Nat.reduceSub, Nat.reduceEqDiff, Nat.reduceLeDiff, Nat.reduceLT, Nat.reduceBEq, Nat.reduceDiv, Nat.reduceMod, Nat.reducePow, Nat.reduceMul, Int.reduceToNat, Int.reduceLT, Int.reduceLE]) | refine And.intro (by omega) ?_ | refine And.intro (by intro hq; (try simp only [Bool.and_eq_true, Bool.or_eq_true, Bool.and_eq_false_iff, Bool.or_eq_false_iff, decide_eq_true_eq, decide_eq_false_iff_not, Bool.not_eq_true', Bool.not_eq_false', beq_iff_eq, beq_eq_false_iff_ne, ne_eq] at hq); omega) ?_ | fail)
      exact W_ret ⟨[_, _], ⟨rfl, rfl, rfl⟩, rfl⟩
    · exact absurd (by simpa using h) hn
  have c101 := fn101 m f ps hs hok hl hn
  by_cases hb : rgtB m f ps hs = true
  rotate_left
  · have e1 : bdE m f fr to ps hs = 16 := by unfold bdE; rw [if_pos h0, if_pos hp, if_pos hn, if_neg hb]
    have e2 := fin (by rw [e1]; decide)
    rw [Bool.not_eq_true] at hb
    rw [hb] at c101
    rw [e1, e2]
    unfold cBd at *
    repeat' (first | refine WK_go ?_ | refine W_seqL ?_ | refine W_seq ?_ | refine W_block ?_ | refine W_scp ?_ | ((first | refine W_regL ?_ | refine W_skip ?_ | refine W_exit ?_ | refine CallC.now (c78) ?_); simp (maxSteps := 400000) (disch := omega) only [push_cast, ↓reduceIte, reduceCtorEq, Nat.reduceAdd, Nat.reduceSub, Nat.reduceEqDiff, Nat.reduceLeDiff, Nat.reduceLT, Nat.reduceBEq, Nat.reduceDiv, Nat.reduceMod, Nat.reducePow, Nat.reduceMul, Int.reduceToNat, Int.reduceLT, Int.reduceLE]) | refine And.intro (by omega) ?_ | refine And.intro (by intro hq; (try simp only [Bool.and_eq_true, Bool.or_eq_true, Bool.and_eq_false_iff, Bool.or_eq_false_iff, decide_eq_true_eq, decide_eq_false_iff_not, Bool.not_eq_true', Bool.not_eq_false', beq_iff_eq, beq_eq_false_iff_ne, ne_eq] at hq); omega) ?_ | fail)
    refine W_cond (by rfl) (fun h => by cases h) (fun _ => ?_)
    repeat' (first | refine WK_go ?_ | refine W_seqL ?_ | refine W_seq ?_ | refine W_block ?_ | refine W_scp ?_ | ((first | refine W_regL ?_ | refine W_skip ?_ | refine W_exit ?_ | refine CallC.now (c1) ?_ | refine CallC.go _ (fun _ => ⟨trivial, c2⟩) rfl ?_); simp (maxSteps := 400000) (disch := omega) only [push_cast, ↓reduceIte, reduceCtorEq, Nat.reduceAdd, Nat.reduceSub, Nat.reduceEqDiff, Nat.reduceLeDiff, Nat.reduceLT, Nat.reduceBEq, Nat.reduceDiv, Nat.reduceMod, Nat.reducePow, Nat.reduceMul, Int.reduceToNat, Int.reduceLT, Int.reduceLE]) | refine And.intro (by omega) ?_ | refine And.intro (by intro hq; (try simp only [Bool.and_eq_true, Bool.or_eq_true, Bool.and_eq_false_iff, Bool.or_eq_false_iff, decide_eq_true_eq, decide_eq_false_iff_not, Bool.not_eq_true', Bool.not_eq_false', beq_iff_eq, beq_eq_false_iff_ne, ne_eq] at hq); omega) ?_ | fail)
    refine W_cond (by rfl) (fun h => by cases h) (fun _ => ?_)
    repeat' (first | refine WK_go ?_ | refine W_seqL ?_ | refine W_seq ?_ | refine W_block ?_ | refine W_scp ?_ | ((first | refine W_regL ?_ | refine W_skip ?_ | refine W_exit ?_); simp (maxSteps := 400000) (disch := omega) only [push_cast, ↓reduceIte, reduceCtorEq, Nat.reduceAdd, Nat.reduceSub, Nat.reduceEqDiff, Nat.reduceLeDiff, Nat.reduceLT, Nat.reduceBEq, Nat.reduceDiv, Nat.reduceMod, Nat.reducePow, Nat.reduceMul, Int.reduceToNat, Int.reduceLT, Int.reduceLE]) | refine And.intro (by omega) ?_ | refine And.intro (by intro hq; (try simp only [Bool.and_eq_true, Bool.or_eq_true, Bool.and_eq_false_iff, Bool.or_eq_false_iff, decide_eq_true_eq, decide_eq_false_iff_not, Bool.not_eq_true', Bool.not_eq_false', beq_iff_eq, beq_eq_false_iff_ne, ne_eq] at hq); omega) ?_ | fail)
    refine W_cond (by rfl) (fun h => absurd hn (by simpa using h)) (fun h => ?_)
    repeat' (first | refine WK_go ?_ | refine W_seqL ?_ | refine W_seq ?_ | refine W_block ?_ | refine W_scp ?_ | ((first | refine W_regL ?_ | refine W_skip ?_ | refine W_exit ?_ | refine CallC.now (c101) ?_); simp (maxSteps := 400000) (disch := omega) only [push_cast, ↓reduceIte, reduceCtorEq, Nat.reduceAdd, Nat.reduceSub, Nat.reduceEqDiff, Nat.reduceLeDiff, Nat.reduceLT, Nat.reduceBEq, Nat.reduceDiv, Nat.reduceMod, Nat.reducePow, Nat.reduceMul, Int.reduceToNat, Int.reduceLT, Int.reduceLE]) | refine And.intro (by omega) ?_ | refine And.intro (by intro hq; (try simp only [Bool.and_eq_true, Bool.or_eq_true, Bool.and_eq_false_iff, Bool.or_eq_false_iff, decide_eq_true_eq, decide_eq_false_iff_not, Bool.not_eq_true', Bool.not_eq_false', beq_iff_eq, beq_eq_false_iff_ne, ne_eq] at hq); omega) ?_ | fail)
    refine W_cond (by rfl) (fun h => ?_) (fun h => by cases h)
    repeat' (first | refine WK_go ?_ | refine W_seqL ?_ | refine W_seq ?_ | refine W_block ?_ | refine W_scp ?_ | ((first | refine W_regL ?_ | refine W_skip ?_ | refine W_exit ?_); simp (maxSteps := 400000) (disch := omega) only [push_cast, ↓reduceIte, reduceCtorEq, Nat.reduceAdd, Nat.reduceSub, Nat.reduceEqDiff, Nat.reduceLeDiff, Nat.reduceLT, Nat.reduceBEq, Nat.reduceDiv, Nat.reduceMod, Nat.reducePow, Nat.reduceMul, Int.reduceToNat, Int.reduceLT, Int.reduceLE]) | refine And.intro (by omega) ?_ | refine And.intro (by intro hq; (try simp only [Bool.and_eq_true, Bool.or_eq_true, Bool.and_eq_false_iff, Bool.or_eq_false_iff, decide_eq_true_eq, decide_eq_false_iff_not, Bool.not_eq_true', Bool.not_eq_false', beq_iff_eq, beq_eq_false_iff_ne, ne_eq] at hq); omega) ?_ | fail)
    exact W_ret ⟨[_, _], ⟨rfl, rfl, rfl⟩, rfl⟩
  have e1 : bdE m f fr to ps hs = 0 := by unfold bdE; rw [if_pos h0, if_pos hp, if_pos hn, if_pos hb]
  have e2 : bdV m f fr to ps hs = gi hs to.toNat - gi hs fr.toNat := by unfold bdV; rw [if_pos e1]
  have g1 := rgt_hs hb fr.toNat (by omega)
  have g2 := rgt_hs hb to.toNat (by omega)
  have gI : ∀ (l : List Int) i, l.getD i 0 = gi l i := fun _ _ => rfl
  rw [hb] at c101
  rw [e1, e2]
  unfold cBd at *
  repeat' (first | refine WK_go ?_ | refine W_seqL ?_ | refine W_seq ?_ | refine W_block ?_ | refine W_scp ?_ | ((first | refine W_regL ?_ | refine W_skip ?_ | refine W_exit ?_ | refine CallC.now (c78) ?_); simp (maxSteps := 400000) (disch := omega) only [push_cast, ↓reduceIte, reduceCtorEq, Nat.reduceAdd, Nat.reduceSub, Nat.reduceEqDiff, Nat.reduceLeDiff, Nat.reduceLT, Nat.reduceBEq, Nat.reduceDiv, Nat.reduceMod, Nat.reducePow, Nat.reduceMul, Int.reduceToNat, Int.reduceLT, Int.reduceLE]) | refine And.intro (by omega) ?_ | refine And.intro (by intro hq; (try simp only [Bool.and_eq_true, Bool.or_eq_true, Bool.and_eq_false_iff, Bool.or_eq_false_iff, decide_eq_true_eq, decide_eq_false_iff_not, Bool.not_eq_true', Bool.not_eq_false', beq_iff_eq, beq_eq_false_iff_ne, ne_eq] at hq); omega) ?_ | fail)
  refine W_cond (by rfl) (fun h => by cases h) (fun _ => ?_)
  repeat' (first | refine WK_go ?_ | refine W_seqL ?_ | refine W_seq ?_ | refine W_block ?_ | refine W_scp ?_ | ((first | refine W_regL ?_ | refine W_skip ?_ | refine W_exit ?_ | refine CallC.now (c1) ?_ | refine CallC.go _ (fun _ => ⟨trivial, c2⟩) rfl ?_); simp (maxSteps := 400000) (disch := omega) only [push_cast, ↓reduceIte, reduceCtorEq, Nat.reduceAdd, Nat.reduceSub, Nat.reduceEqDiff, Nat.reduceLeDiff, Nat.reduceLT, Nat.reduceBEq, Nat.reduceDiv, Nat.reduceMod, Nat.reducePow, Nat.reduceMul, Int.reduceToNat, Int.reduceLT, Int.reduceLE]) | refine And.intro (by omega) ?_ | refine And.intro (by intro hq; (try simp only [Bool.and_eq_true, Bool.or_eq_true, Bool.and_eq_false_iff, Bool.or_eq_false_iff, decide_eq_true_eq, decide_eq_false_iff_not, Bool.not_eq_true', Bool.not_eq_false', beq_iff_eq, beq_eq_false_iff_ne, ne_eq] at hq); omega) ?_ | fail)
  refine W_cond (by rfl) (fun h => by cases h) (fun _ => ?_)
  repeat' (first | refine WK_go ?_ | refine W_seqL ?_ | refine W_seq ?_ | refine W_block ?_ | refine W_scp ?_ | ((first | refine W_regL ?_ | refine W_skip ?_ | refine W_exit ?_); simp (maxSteps := 400000) (disch := omega) only [push_cast, ↓reduceIte, reduceCtorEq, Nat.reduceAdd, Nat.reduceSub, Nat.reduceEqDiff, Nat.reduceLeDiff, Nat.reduceLT, Nat.reduceBEq, Nat.reduceDiv, Nat.reduceMod, Nat.reducePow, Nat.reduceMul, Int.reduceToNat, Int.reduceLT, Int.reduceLE]) | refine And.intro (by omega) ?_ | refine And.intro (by intro hq; (try simp only [Bool.and_eq_true, Bool.or_eq_true, Bool.and_eq_false_iff, Bool.or_eq_false_iff, decide_eq_true_eq, decide_eq_false_iff_not, Bool.not_eq_true', Bool.not_eq_false', beq_iff_eq, beq_eq_false_iff_ne, ne_eq] at hq); omega) ?_ | fail)
  refine W_cond (by rfl) (fun h => absurd hn (by simpa using h)) (fun h => ?_)
  repeat' (first | refine WK_go ?_ | refine W_seqL ?_ | refine W_seq ?_ | refine W_block ?_ | refine W_scp ?_ | ((first | refine W_regL ?_ | refine W_skip ?_ | refine W_exit ?_ | refine CallC.now (c101) ?_); simp (maxSteps := 400000) (disch := omega) only [push_cast, ↓reduceIte, reduceCtorEq, Nat.reduceAdd, Nat.reduceSub, Nat.reduceEqDiff, Nat.reduceLeDiff, Nat.reduceLT, Nat.reduceBEq, Nat.reduceDiv, Nat.reduceMod, Nat.reducePow, Nat.reduceMul, Int.reduceToNat, Int.reduceLT, Int.reduceLE]) | refine And.intro (by omega) ?_ | refine And.intro (by intro hq; (try simp only [Bool.and_eq_true, Bool.or_eq_true, Bool.and_eq_false_iff, Bool.or_eq_false_iff, decide_eq_true_eq, decide_eq_false_iff_not, Bool.not_eq_true', Bool.not_eq_false', beq_iff_eq, beq_eq_false_iff_ne, ne_eq] at hq); omega) ?_ | fail)
  refine W_cond (by rfl) (fun h => by cases h) (fun _ => ?_)
  repeat' (first | refine WK_go ?_ | refine W_seqL ?_ | refine W_seq ?_ | refine W_block ?_ | refine W_scp ?_ | ((first | refine W_regL ?_ | refine W_skip ?_ | refine W_exit ?_); simp (maxSteps := 400000) (disch := omega) only [push_cast, ↓reduceIte, reduceCtorEq, Nat.reduceAdd, Nat.reduceSub, Nat.reduceEqDiff, Nat.reduceLeDiff, Nat.reduceLT, Nat.reduceBEq, Nat.reduceDiv, Nat.reduceMod, Nat.reducePow, Nat.reduceMul, Int.reduceToNat, Int.reduceLT, Int.reduceLE, gI]) | refine And.intro (by omega) ?_ | refine And.intro (by intro hq; (try simp only [Bool.and_eq_true, Bool.or_eq_true, Bool.and_eq_false_iff, Bool.or_eq_false_iff, decide_eq_true_eq, decide_eq_false_iff_not, Bool.not_eq_true', Bool.not_eq_false', beq_iff_eq, beq_eq_false_iff_ne, ne_eq] at hq); omega) ?_ | fail)
  exact W_ret ⟨[_, _], ⟨rfl, rfl, rfl⟩, rfl⟩
end Go.Proofs.Ytfbdlmenhoagmaa

namespace Go.Proofs.Ytfbdlmenhoagmaa
open Go Sy
set_option maxRecDepth 100000
set_option linter.unusedVariables false
structure Bd where
  p : List Prt
  h : List Int
def cBD (b : Bd) : List AV := cBd b.p b.h
theorem y68 : Try.prog.cellsOf 68 = 1 := by kernel_rfl
theorem y69 : Try.prog.cellsOf 69 = 1 := by kernel_rfl
theorem y77 : Try.prog.cellsOf 77 = 4 := by kernel_rfl
theorem b77 : Try.prog.bytesOf 77 = 32 := by kernel_rfl
theorem k69 : Codec Try.prog 69 (fun l : List Int => [aI l]) (fun l => l.length * 8 ≤ 140737488351232) :=
  (Codec.slice Try.underlying69 (by rw [y2]; decide) y2 b2 0 k2).map id (fun _ => rfl) (fun _ h => h.1)
theorem k77 : Codec Try.prog 77 cP (fun _ => True) :=
  (Codec.struct Try.underlying77 (by kernel_rfl) (by kernel_rfl) (Parts.cons k3 y3 (Parts.cons k3 y3 (Parts.cons k3 y3 (Parts.cons k2 y2 Parts.nil))))).map
    (fun x => ⟨x.1, x.2.1, x.2.2.1, x.2.2.2.1⟩) (fun _ => rfl) (fun _ _ => trivial)
theorem k68 : Codec Try.prog 68 (fun l : List Prt => [aP l]) (fun l => l.length * 32 ≤ 140737488351232) :=
  (Codec.slice Try.underlying68 (by rw [y77]; decide) y77 b77 dP k77).map id (fun _ => rfl) (fun _ h => h.1)
structure OB (b : Bd) : Prop where
  p : b.p.length * 32 ≤ 140737488351232
  h : b.h.length * 8 ≤ 140737488351232
theorem k71 : Codec Try.prog 71 cBD OB :=
  (Codec.struct Try.underlying71 (by kernel_rfl) (by kernel_rfl) (Parts.cons k68 y68 (Parts.cons k69 y69 Parts.nil))).map
    (fun x => ⟨x.1, x.2.1⟩) (fun _ => rfl) (fun _ h => ⟨h.1, h.2.1⟩)
end Go.Proofs.Ytfbdlmenhoagmaa

