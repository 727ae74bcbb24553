/- Part 5 of the proof of: For all maps, sizes and places, Cheapest, Bound, Reach and CheckCut return what the document says; maps of at most 12 places, 30 roads and 5 works, or refused ones; at most 100 numbers. -/
import Derived.Test.YtfbdlmenhoagmaaP4
namespace Go.Proofs.Ytfbdlmenhoagmaa
open Go Sy
set_option maxRecDepth 100000
set_option maxHeartbeats 4000000
set_option linter.unusedVariables false
set_option linter.unusedSimpArgs false
theorem setW_msk {m : Mp} {l : List Int} (h : Srt m.ws.length 0 l) : SetW m l (msk l) := ⟨msk_bits fun x hx => (h.mem x hx).1, h⟩
theorem fn117 (l : List Int) (n : Nat) (hn : n ≤ 10) (hs : Srt n 0 l) : Sy.Fn Try.prog 117 [.v (.slice none 0 0), .clo 118 [] [.fp [uv (msk l)] 0]] (aI l) := by
  refine Fn_of_W mixed Xt117 rfl ?_
  obtain ⟨s, hsm⟩ : ∃ s, s = msk l := ⟨_, rfl⟩
  have hb : BitsOf s l := by rw [hsm]; exact msk_bits fun x hx => (hs.mem x hx).1
  have hs1 : s < 1024 := by rw [hsm]; exact msk_lt hs (by omega)
  rw [← hsm]
  repeat' (first | refine WK_go ?_ | refine W_seqL ?_ | refine W_seq ?_ | refine W_block ?_ | refine W_scp ?_ | ((first | refine W_regL ?_ | refine W_skip ?_ | refine W_exit ?_); simp (maxSteps := 400000) (disch := omega) only [push_cast, ↓reduceIte, reduceCtorEq, Nat.reduceAdd, Nat.reduceSub, Nat.reduceEqDiff, Nat.reduceLeDiff, Nat.reduceLT, Nat.reduceBEq, Nat.reduceDiv, Nat.reduceMod, Nat.reducePow, Nat.reduceMul, Int.reduceToNat, Int.reduceLT, Int.reduceLE]) | refine And.intro (by omega) ?_ | refine And.intro (by intro hq; (try simp only [Bool.and_eq_true, Bool.or_eq_true, Bool.and_eq_false_iff, Bool.or_eq_false_iff, decide_eq_true_eq, decide_eq_false_iff_not, Bool.not_eq_true', Bool.not_eq_false', beq_iff_eq, beq_eq_false_iff_ne, ne_eq] at hq); omega) ?_ | fail)
  refine W_rfn (.inl rfl) (fun lp R hR => Inl_of_W mixed Xt118 rfl (fun vs => ?_))
  simp (maxSteps := 400000) (disch := omega) only [push_cast, ↓reduceIte, reduceCtorEq, Nat.reduceAdd, Nat.reduceSub, Nat.reduceEqDiff, Nat.reduceLeDiff, Nat.reduceLT, Nat.reduceBEq, Nat.reduceDiv, Nat.reduceMod, Nat.reducePow, Nat.reduceMul, Int.reduceToNat, Int.reduceLT, Int.reduceLE]
  repeat' (first | refine WK_go ?_ | refine W_seqL ?_ | refine W_seq ?_ | refine W_block ?_ | refine W_scp ?_ | ((first | refine W_regL ?_ | refine W_skip ?_ | refine W_exit ?_); simp (maxSteps := 400000) (disch := omega) only [push_cast, ↓reduceIte, reduceCtorEq, Nat.reduceAdd, Nat.reduceSub, Nat.reduceEqDiff, Nat.reduceLeDiff, Nat.reduceLT, Nat.reduceBEq, Nat.reduceDiv, Nat.reduceMod, Nat.reducePow, Nat.reduceMul, Int.reduceToNat, Int.reduceLT, Int.reduceLE]) | refine And.intro (by omega) ?_ | refine And.intro (by intro hq; (try simp only [Bool.and_eq_true, Bool.or_eq_true, Bool.and_eq_false_iff, Bool.or_eq_false_iff, decide_eq_true_eq, decide_eq_false_iff_not, Bool.not_eq_true', Bool.not_eq_false', beq_iff_eq, beq_eq_false_iff_ne, ne_eq] at hq); omega) ?_ | fail)
  refine W_le (le_adoptC 0 0 3 1 (0 : Int) cI (by omega) _ rfl rfl (by simp)) ?_
  simp (maxSteps := 400000) (disch := omega) only [push_cast, ↓reduceIte, reduceCtorEq, Nat.reduceAdd, Nat.reduceSub, Nat.reduceEqDiff, Nat.reduceLeDiff, Nat.reduceLT, Nat.reduceBEq, Nat.reduceDiv, Nat.reduceMod, Nat.reducePow, Nat.reduceMul, Int.reduceToNat, Int.reduceLT, Int.reduceLE]
  refine W_loopU (fun i : Nat => [(3, iv i)]) (fun i => [(0, .cells [.row 6 (pre l i).length]), (6, .row (pre l i).length 3 1 0 cI (pre l i))]) (fun i => i ≤ 10) (fun i => 11 - i) 0 (by omega) (by rfl) (by rw [pre_zero hs]; rfl) (fun i hi => ?_)
  obtain ⟨q, hq⟩ : ∃ q, q = s / 2 ^ i := ⟨_, rfl⟩
  have e1 := shrS s (i := i) (by omega)
  have e2 := andS (s / 2 ^ i) (div_lt64 hs1 i)
  rw [bits_shr hb i] at e2
  rw [← hq] at e1 e2
  have e4 := pre_succ (i := i) hs
  have hlen : (pre l i).length ≤ 10 := by
    have h1 := hs.len (by omega)
    have h2 := List.length_filter_le (fun x => decide (x < (i : Int))) l
    unfold pre
    omega
  simp (maxSteps := 400000) (disch := omega) only [push_cast, ↓reduceIte, reduceCtorEq, Nat.reduceAdd, Nat.reduceSub, Nat.reduceEqDiff, Nat.reduceLeDiff, Nat.reduceLT, Nat.reduceBEq, Nat.reduceDiv, Nat.reduceMod, Nat.reducePow, Nat.reduceMul, Int.reduceToNat, Int.reduceLT, Int.reduceLE]
  repeat' (first | refine WK_go ?_ | refine W_seqL ?_ | refine W_seq ?_ | refine W_block ?_ | refine W_scp ?_ | ((first | refine W_regL ?_ | refine W_skip ?_ | refine W_exit ?_); simp (maxSteps := 400000) (disch := omega) only [push_cast, ↓reduceIte, reduceCtorEq, Nat.reduceAdd, Nat.reduceSub, Nat.reduceEqDiff, Nat.reduceLeDiff, Nat.reduceLT, Nat.reduceBEq, Nat.reduceDiv, Nat.reduceMod, Nat.reducePow, Nat.reduceMul, Int.reduceToNat, Int.reduceLT, Int.reduceLE, e1]) | refine And.intro (by omega) ?_ | refine And.intro (by intro hq; (try simp only [Bool.and_eq_true, Bool.or_eq_true, Bool.and_eq_false_iff, Bool.or_eq_false_iff, decide_eq_true_eq, decide_eq_false_iff_not, Bool.not_eq_true', Bool.not_eq_false', beq_iff_eq, beq_eq_false_iff_ne, ne_eq] at hq); omega) ?_ | fail)
  refine W_cond (by rfl) (fun hb2 => ?_) (fun hb2 => ?_)
  · have hi10 : i < 10 := bits_more hb (by rw [← hq]; intro z; rw [z] at hb2; simp at hb2) (fun x hx => by have := (hs.mem x hx).2; omega)
    by_cases hm : (i : Int) ∈ l
    · rw [if_pos hm] at e2 e4
      have e2 : bits .and .u64 (q : Int) 1 = 1 := e2
      repeat' (first | refine WK_go ?_ | refine W_seqL ?_ | refine W_seq ?_ | refine W_block ?_ | refine W_scp ?_ | ((first | refine W_regL ?_ | refine W_skip ?_ | refine W_exit ?_); simp (maxSteps := 400000) (disch := omega) only [push_cast, ↓reduceIte, reduceCtorEq, Nat.reduceAdd, Nat.reduceSub, Nat.reduceEqDiff, Nat.reduceLeDiff, Nat.reduceLT, Nat.reduceBEq, Nat.reduceDiv, Nat.reduceMod, Nat.reducePow, Nat.reduceMul, Int.reduceToNat, Int.reduceLT, Int.reduceLE, e1, e2]) | refine And.intro (by omega) ?_ | refine And.intro (by intro hq; (try simp only [Bool.and_eq_true, Bool.or_eq_true, Bool.and_eq_false_iff, Bool.or_eq_false_iff, decide_eq_true_eq, decide_eq_false_iff_not, Bool.not_eq_true', Bool.not_eq_false', beq_iff_eq, beq_eq_false_iff_ne, ne_eq] at hq); omega) ?_ | fail)
      refine StopC.yld (fun hpc => ⟨trivial, Yl_of_W (k := 3) mixed hR rfl rfl rfl (fun vs2 => ?_)⟩) (fun hpc => absurd (by simp [pc]) hpc)
      simp (maxSteps := 400000) (disch := omega) only [push_cast, ↓reduceIte, reduceCtorEq, Nat.reduceAdd, Nat.reduceSub, Nat.reduceEqDiff, Nat.reduceLeDiff, Nat.reduceLT, Nat.reduceBEq, Nat.reduceDiv, Nat.reduceMod, Nat.reducePow, Nat.reduceMul, Int.reduceToNat, Int.reduceLT, Int.reduceLE]
      repeat' (first | refine WK_go ?_ | refine W_seqL ?_ | refine W_seq ?_ | refine W_block ?_ | refine W_scp ?_ | ((first | refine W_regL ?_ | refine W_skip ?_ | refine W_exit ?_); simp (maxSteps := 400000) (disch := omega) only [push_cast, ↓reduceIte, reduceCtorEq, Nat.reduceAdd, Nat.reduceSub, Nat.reduceEqDiff, Nat.reduceLeDiff, Nat.reduceLT, Nat.reduceBEq, Nat.reduceDiv, Nat.reduceMod, Nat.reducePow, Nat.reduceMul, Int.reduceToNat, Int.reduceLT, Int.reduceLE]) | refine And.intro (by omega) ?_ | refine And.intro (by intro hq; (try simp only [Bool.and_eq_true, Bool.or_eq_true, Bool.and_eq_false_iff, Bool.or_eq_false_iff, decide_eq_true_eq, decide_eq_false_iff_not, Bool.not_eq_true', Bool.not_eq_false', beq_iff_eq, beq_eq_false_iff_ne, ne_eq] at hq); omega) ?_ | fail)
      refine ⟨_, rfl, ?_⟩
      simp (maxSteps := 400000) (disch := omega) only [push_cast, ↓reduceIte, reduceCtorEq, Nat.reduceAdd, Nat.reduceSub, Nat.reduceEqDiff, Nat.reduceLeDiff, Nat.reduceLT, Nat.reduceBEq, Nat.reduceDiv, Nat.reduceMod, Nat.reducePow, Nat.reduceMul, Int.reduceToNat, Int.reduceLT, Int.reduceLE]
      repeat' (first | refine WK_go ?_ | refine W_seqL ?_ | refine W_seq ?_ | refine W_block ?_ | refine W_scp ?_ | ((first | refine W_regL ?_ | refine W_skip ?_ | refine W_exit ?_); simp (maxSteps := 400000) (disch := omega) only [push_cast, ↓reduceIte, reduceCtorEq, Nat.reduceAdd, Nat.reduceSub, Nat.reduceEqDiff, Nat.reduceLeDiff, Nat.reduceLT, Nat.reduceBEq, Nat.reduceDiv, Nat.reduceMod, Nat.reducePow, Nat.reduceMul, Int.reduceToNat, Int.reduceLT, Int.reduceLE]) | refine And.intro (by omega) ?_ | refine And.intro (by intro hq; (try simp only [Bool.and_eq_true, Bool.or_eq_true, Bool.and_eq_false_iff, Bool.or_eq_false_iff, decide_eq_true_eq, decide_eq_false_iff_not, Bool.not_eq_true', Bool.not_eq_false', beq_iff_eq, beq_eq_false_iff_ne, ne_eq] at hq); omega) ?_ | fail)
      refine ⟨rfl, trivial, Int, 0, cI, [(i : Int)], rfl, by omega, fun x _ => ⟨rfl, rfl⟩, rfl, ?_⟩
      simp (maxSteps := 400000) (disch := omega) only [push_cast, ↓reduceIte, reduceCtorEq, Nat.reduceAdd, Nat.reduceSub, Nat.reduceEqDiff, Nat.reduceLeDiff, Nat.reduceLT, Nat.reduceBEq, Nat.reduceDiv, Nat.reduceMod, Nat.reducePow, Nat.reduceMul, Int.reduceToNat, Int.reduceLT, Int.reduceLE]
      refine ⟨rfl, ⟨Nat.le_of_ble_eq_true rfl, rfl⟩, trivial, [(i : Int)], rfl, by first | omega | (simp; omega), by first | omega | (simp; omega), ?_⟩
      simp (maxSteps := 400000) (disch := omega) only [push_cast, ↓reduceIte, reduceCtorEq, Nat.reduceAdd, Nat.reduceSub, Nat.reduceEqDiff, Nat.reduceLeDiff, Nat.reduceLT, Nat.reduceBEq, Nat.reduceDiv, Nat.reduceMod, Nat.reducePow, Nat.reduceMul, Int.reduceToNat, Int.reduceLT, Int.reduceLE]
      refine ⟨_, _, rfl, rfl, ?_⟩
      simp (maxSteps := 400000) (disch := omega) only [push_cast, ↓reduceIte, reduceCtorEq, Nat.reduceAdd, Nat.reduceSub, Nat.reduceEqDiff, Nat.reduceLeDiff, Nat.reduceLT, Nat.reduceBEq, Nat.reduceDiv, Nat.reduceMod, Nat.reducePow, Nat.reduceMul, Int.reduceToNat, Int.reduceLT, Int.reduceLE]
      refine W_cond (by rfl) (fun h => by cases h) (fun _ => ?_)
      repeat' (first | refine WK_go ?_ | refine W_seqL ?_ | refine W_seq ?_ | refine W_block ?_ | refine W_scp ?_ | ((first | refine W_regL ?_ | refine W_skip ?_ | refine W_exit ?_); simp (maxSteps := 400000) (disch := omega) only [push_cast, ↓reduceIte, reduceCtorEq, Nat.reduceAdd, Nat.reduceSub, Nat.reduceEqDiff, Nat.reduceLeDiff, Nat.reduceLT, Nat.reduceBEq, Nat.reduceDiv, Nat.reduceMod, Nat.reducePow, Nat.reduceMul, Int.reduceToNat, Int.reduceLT, Int.reduceLE]) | refine And.intro (by omega) ?_ | refine And.intro (by intro hq; (try simp only [Bool.and_eq_true, Bool.or_eq_true, Bool.and_eq_false_iff, Bool.or_eq_false_iff, decide_eq_true_eq, decide_eq_false_iff_not, Bool.not_eq_true', Bool.not_eq_false', beq_iff_eq, beq_eq_false_iff_ne, ne_eq] at hq); omega) ?_ | fail)
      refine ⟨i + 1, by omega, by omega, by rfl, ?_⟩
      rw [e4, List.length_append]
      simp (maxSteps := 400000) (disch := omega) only [push_cast, ↓reduceIte, reduceCtorEq, Nat.reduceAdd, Nat.reduceSub, Nat.reduceEqDiff, Nat.reduceLeDiff, Nat.reduceLT, Nat.reduceBEq, Nat.reduceDiv, Nat.reduceMod, Nat.reducePow, Nat.reduceMul, Int.reduceToNat, Int.reduceLT, Int.reduceLE, S.mk.injEq, List.cons.injEq, Prod.mk.injEq, AV.v.injEq, Value.int.injEq, Value.bool.injEq, Blk.cells.injEq]
    · rw [if_neg hm] at e2 e4
      have e2 : bits .and .u64 (q : Int) 1 = 0 := e2
      have z01 : ((0 : Int) == 1) = false := rfl
      repeat' (first | refine WK_go ?_ | refine W_seqL ?_ | refine W_seq ?_ | refine W_block ?_ | refine W_scp ?_ | ((first | refine W_regL ?_ | refine W_skip ?_ | refine W_exit ?_); simp (maxSteps := 400000) (disch := omega) only [push_cast, ↓reduceIte, reduceCtorEq, Nat.reduceAdd, Nat.reduceSub, Nat.reduceEqDiff, Nat.reduceLeDiff, Nat.reduceLT, Nat.reduceBEq, Nat.reduceDiv, Nat.reduceMod, Nat.reducePow, Nat.reduceMul, Int.reduceToNat, Int.reduceLT, Int.reduceLE, e1, e2, z01]) | refine And.intro (by omega) ?_ | refine And.intro (by intro hq; (try simp only [Bool.and_eq_true, Bool.or_eq_true, Bool.and_eq_false_iff, Bool.or_eq_false_iff, decide_eq_true_eq, decide_eq_false_iff_not, Bool.not_eq_true', Bool.not_eq_false', beq_iff_eq, beq_eq_false_iff_ne, ne_eq] at hq); omega) ?_ | fail)
      refine StopC.yld (fun hpc => absurd hpc (by simp [pc])) (fun hpc => ?_)
      simp (maxSteps := 400000) (disch := omega) only [push_cast, ↓reduceIte, reduceCtorEq, Nat.reduceAdd, Nat.reduceSub, Nat.reduceEqDiff, Nat.reduceLeDiff, Nat.reduceLT, Nat.reduceBEq, Nat.reduceDiv, Nat.reduceMod, Nat.reducePow, Nat.reduceMul, Int.reduceToNat, Int.reduceLT, Int.reduceLE]
      repeat' (first | refine WK_go ?_ | refine W_seqL ?_ | refine W_seq ?_ | refine W_block ?_ | refine W_scp ?_ | ((first | refine W_regL ?_ | refine W_skip ?_ | refine W_exit ?_); simp (maxSteps := 400000) (disch := omega) only [push_cast, ↓reduceIte, reduceCtorEq, Nat.reduceAdd, Nat.reduceSub, Nat.reduceEqDiff, Nat.reduceLeDiff, Nat.reduceLT, Nat.reduceBEq, Nat.reduceDiv, Nat.reduceMod, Nat.reducePow, Nat.reduceMul, Int.reduceToNat, Int.reduceLT, Int.reduceLE]) | refine And.intro (by omega) ?_ | refine And.intro (by intro hq; (try simp only [Bool.and_eq_true, Bool.or_eq_true, Bool.and_eq_false_iff, Bool.or_eq_false_iff, decide_eq_true_eq, decide_eq_false_iff_not, Bool.not_eq_true', Bool.not_eq_false', beq_iff_eq, beq_eq_false_iff_ne, ne_eq] at hq); omega) ?_ | fail)
      refine W_cond (by rfl) (fun h => by cases h) (fun _ => ?_)
      repeat' (first | refine WK_go ?_ | refine W_seqL ?_ | refine W_seq ?_ | refine W_block ?_ | refine W_scp ?_ | ((first | refine W_regL ?_ | refine W_skip ?_ | refine W_exit ?_); simp (maxSteps := 400000) (disch := omega) only [push_cast, ↓reduceIte, reduceCtorEq, Nat.reduceAdd, Nat.reduceSub, Nat.reduceEqDiff, Nat.reduceLeDiff, Nat.reduceLT, Nat.reduceBEq, Nat.reduceDiv, Nat.reduceMod, Nat.reducePow, Nat.reduceMul, Int.reduceToNat, Int.reduceLT, Int.reduceLE]) | refine And.intro (by omega) ?_ | refine And.intro (by intro hq; (try simp only [Bool.and_eq_true, Bool.or_eq_true, Bool.and_eq_false_iff, Bool.or_eq_false_iff, decide_eq_true_eq, decide_eq_false_iff_not, Bool.not_eq_true', Bool.not_eq_false', beq_iff_eq, beq_eq_false_iff_ne, ne_eq] at hq); omega) ?_ | fail)
      refine ⟨i + 1, by omega, by omega, by rfl, ?_⟩
      rw [e4, List.append_nil]
      simp (maxSteps := 400000) (disch := omega) only [push_cast, ↓reduceIte, reduceCtorEq, Nat.reduceAdd, Nat.reduceSub, Nat.reduceEqDiff, Nat.reduceLeDiff, Nat.reduceLT, Nat.reduceBEq, Nat.reduceDiv, Nat.reduceMod, Nat.reducePow, Nat.reduceMul, Int.reduceToNat, Int.reduceLT, Int.reduceLE, S.mk.injEq, List.cons.injEq, Prod.mk.injEq, AV.v.injEq, Value.int.injEq, Value.bool.injEq, Blk.cells.injEq]
  · have hq0 : s / 2 ^ i = 0 := by
      rw [← hq]
      have := bne_eq_false_iff_eq.1 hb2
      omega
    have hall := pre_all (bits_end hb (fun x hx => (hs.mem x hx).1) hq0)
    rw [hall]
    repeat' (first | refine WK_go ?_ | refine W_seqL ?_ | refine W_seq ?_ | refine W_block ?_ | refine W_scp ?_ | ((first | refine W_regL ?_ | refine W_skip ?_ | refine W_exit ?_); simp (maxSteps := 400000) (disch := omega) only [push_cast, ↓reduceIte, reduceCtorEq, Nat.reduceAdd, Nat.reduceSub, Nat.reduceEqDiff, Nat.reduceLeDiff, Nat.reduceLT, Nat.reduceBEq, Nat.reduceDiv, Nat.reduceMod, Nat.reducePow, Nat.reduceMul, Int.reduceToNat, Int.reduceLT, Int.reduceLE]) | refine And.intro (by omega) ?_ | refine And.intro (by intro hq; (try simp only [Bool.and_eq_true, Bool.or_eq_true, Bool.and_eq_false_iff, Bool.or_eq_false_iff, decide_eq_true_eq, decide_eq_false_iff_not, Bool.not_eq_true', Bool.not_eq_false', beq_iff_eq, beq_eq_false_iff_ne, ne_eq] at hq); omega) ?_ | fail)
    refine ⟨_, _, rfl, rfl, ⟨_, _, rfl, by rw [hR.st]; simp, ?_⟩⟩
    rw [hR.pe]
    simp (maxSteps := 400000) (disch := omega) only [push_cast, ↓reduceIte, reduceCtorEq, Nat.reduceAdd, Nat.reduceSub, Nat.reduceEqDiff, Nat.reduceLeDiff, Nat.reduceLT, Nat.reduceBEq, Nat.reduceDiv, Nat.reduceMod, Nat.reducePow, Nat.reduceMul, Int.reduceToNat, Int.reduceLT, Int.reduceLE, EndP]
    repeat' (first | refine WK_go ?_ | refine W_seqL ?_ | refine W_seq ?_ | refine W_block ?_ | refine W_scp ?_ | ((first | refine W_regL ?_ | refine W_skip ?_ | refine W_exit ?_); simp (maxSteps := 400000) (disch := omega) only [push_cast, ↓reduceIte, reduceCtorEq, Nat.reduceAdd, Nat.reduceSub, Nat.reduceEqDiff, Nat.reduceLeDiff, Nat.reduceLT, Nat.reduceBEq, Nat.reduceDiv, Nat.reduceMod, Nat.reducePow, Nat.reduceMul, Int.reduceToNat, Int.reduceLT, Int.reduceLE]) | refine And.intro (by omega) ?_ | refine And.intro (by intro hq; (try simp only [Bool.and_eq_true, Bool.or_eq_true, Bool.and_eq_false_iff, Bool.or_eq_false_iff, decide_eq_true_eq, decide_eq_false_iff_not, Bool.not_eq_true', Bool.not_eq_false', beq_iff_eq, beq_eq_false_iff_ne, ne_eq] at hq); omega) ?_ | fail)
    refine W_ret ⟨[_], ⟨rfl, rfl⟩, ?_⟩
    simp (maxSteps := 400000) (disch := omega) only [push_cast, ↓reduceIte, reduceCtorEq, Nat.reduceAdd, Nat.reduceSub, Nat.reduceEqDiff, Nat.reduceLeDiff, Nat.reduceLT, Nat.reduceBEq, Nat.reduceDiv, Nat.reduceMod, Nat.reducePow, Nat.reduceMul, Int.reduceToNat, Int.reduceLT, Int.reduceLE, pack]
theorem fn60 (l : List Int) (n : Nat) (hn : n ≤ 10) (hs : Srt n 0 l) : Sy.Fn Try.prog 60 [.clo 118 [] [.fp [uv (msk l)] 0]] (aI l) := by
  refine Fn_of_W mixed Xt60 rfl ?_
  repeat' (first | refine WK_go ?_ | refine W_seqL ?_ | refine W_seq ?_ | refine W_block ?_ | refine W_scp ?_ | ((first | refine W_regL ?_ | refine W_skip ?_ | refine W_exit ?_ | refine CallC.now (fn117 l n hn hs) ?_); simp (maxSteps := 400000) (disch := omega) only [push_cast, ↓reduceIte, reduceCtorEq, Nat.reduceAdd, Nat.reduceSub, Nat.reduceEqDiff, Nat.reduceLeDiff, Nat.reduceLT, Nat.reduceBEq, Nat.reduceDiv, Nat.reduceMod, Nat.reducePow, Nat.reduceMul, Int.reduceToNat, Int.reduceLT, Int.reduceLE]) | refine And.intro (by omega) ?_ | refine And.intro (by intro hq; (try simp only [Bool.and_eq_true, Bool.or_eq_true, Bool.and_eq_false_iff, Bool.or_eq_false_iff, decide_eq_true_eq, decide_eq_false_iff_not, Bool.not_eq_true', Bool.not_eq_false', beq_iff_eq, beq_eq_false_iff_ne, ne_eq] at hq); omega) ?_ | fail)
  exact W_ret ⟨[_], ⟨rfl, rfl⟩, rfl⟩
def cU (m : Mp) (f : Nat → Int) (s : List Int) (i : Nat) : Int := (edB m (usB m f s) i).c
theorem cU_rng {m : Mp} (h : OkM m) (f : Nat → Int) (s : List Int) {i : Nat} (hi : i < m.rs.length) : (0 ≤ cU m f s i → 1 ≤ cU m f s i) ∧ -1 ≤ cU m f s i ∧ cU m f s i ≤ 1073741824 := by
  have hr := (roadB_ok (h.r i hi)).c
  unfold cU edB
  dsimp only
  split <;> omega
def dL (m : Mp) (f : Nat → Int) (s : List Int) (to : Int) : List Int := dstC m true (cU m f s) to
theorem dL_fn (m : Mp) (f : Nat → Int) (s : List Int) (to : Int) (bk : Bool) (h : OkM m) (hs : Srt m.ws.length 0 s) (ht : 0 ≤ to ∧ to < m.n) : Sy.Fn Try.prog 57 [aAt m f, iv to, bv bk, .clo 116 [] [.fp (cAt m f) 0, .fp [uv (msk s)] 0]] (aI (dstC m bk (cU m f s) to)) :=
  fn57 m f to bk 116 [] _ (cU m f s) h ht (fun i hi => (cU_rng h f s hi).1) (fun i hi => by have := (cU_rng h f s hi).2; omega) (fun i hi => fn116 m f s (msk s) i h (setW_msk hs) hi)
theorem dL_dst {m : Mp} (h : OkM m) (f : Nat → Int) (s : List Int) (bk : Bool) {to : Int} (ht : 0 ≤ to ∧ to < m.n) : Dst (edgC m bk (cU m f s)) to.toNat m.n.toNat (dstC m bk (cU m f s) to) ∧ Fix (edgC m bk (cU m f s)) (dstC m bk (cU m f s) to) := by
  obtain ⟨k1, k2⟩ := edgC_ok h bk (c := cU m f s) (fun i hi => (cU_rng h f s hi).1)
  exact ⟨dst_dst k1 (by omega), dst_fix k1 k2 (by omega)⟩
theorem dL_rng {m : Mp} (h : OkM m) (f : Nat → Int) (s : List Int) (bk : Bool) {to : Int} (ht : 0 ≤ to ∧ to < m.n) {y : Nat} (hy : y < m.n.toNat) : 0 ≤ gi (dstC m bk (cU m f s) to) y ∧ gi (dstC m bk (cU m f s) to) y ≤ 1125899906842624 := (dL_dst h f s bk ht).1.le hy
theorem dL_len {m : Mp} (h : OkM m) (f : Nat → Int) (s : List Int) (bk : Bool) {to : Int} (ht : 0 ≤ to ∧ to < m.n) : (dstC m bk (cU m f s) to).length = m.n.toNat := (dL_dst h f s bk ht).1.len
def cfS (m : Mp) (f : Nat → Int) (fr to : Int) (s : List Int) : Int := gi (dL m f s to) fr.toNat + costL m s
def okS (m : Mp) (f : Nat → Int) (fr to : Int) (s : List Int) : Bool := decide (gi (dL m f s to) fr.toNat < 1125899906842624)
theorem costL_set {m : Mp} (h : OkM m) {s : List Int} (hs : Srt m.ws.length 0 s) : 0 ≤ costL m s ∧ costL m s ≤ 10737418240 := by
  have h1 := costL_rng h (l := s) (fun x hx => hs.mem x hx)
  have h2 := hs.len (by omega)
  have := h.nw
  have h3 : (s.length : Int) * 1073741824 ≤ 10 * 1073741824 := by omega
  omega
theorem fn56 (m : Mp) (f : Nat → Int) (fr to : Int) (s : List Int) (h : OkM m) (hs : Srt m.ws.length 0 s) (ht : 0 ≤ to ∧ to < m.n) (hf : 0 ≤ fr ∧ fr < m.n) : Sy.Fn Try.prog 56 [uv (msk s), .fp (cAt m f) 0, .fp [iv to] 0, .fp [iv fr] 0] (.tup [iv (cfS m f fr to s), bv (okS m f fr to s)]) := by
  refine Fn_of_W mixed Xt56 rfl ?_
  have c57 := dL_fn m f s to true h hs ht
  have c59 := fn59 m f s (msk s) h (setW_msk hs)
  have hr := dL_rng h f s true ht (y := fr.toNat) (by omega)
  have hl := dL_len h f s true ht
  have hc := costL_set h hs
  unfold cfS okS
  have e : dL m f s to = dstC m true (cU m f s) to := rfl
  rw [e]
  generalize dstC m true (cU m f s) to = D at *
  have gI : ∀ (l : List Int) i, l.getD i 0 = gi l i := fun _ _ => rfl
  repeat' (first | refine WK_go ?_ | refine W_seqL ?_ | refine W_seq ?_ | refine W_block ?_ | refine W_scp ?_ | ((first | refine W_regL ?_ | refine W_skip ?_ | refine W_exit ?_ | refine CallC.now (fn58 m f (msk s)) ?_ | refine CallC.now (c57) ?_ | refine CallC.now (c59) ?_); simp (maxSteps := 400000) (disch := omega) only [push_cast, ↓reduceIte, reduceCtorEq, Nat.reduceAdd, Nat.reduceSub, Nat.reduceEqDiff, Nat.reduceLeDiff, Nat.reduceLT, Nat.reduceBEq, Nat.reduceDiv, Nat.reduceMod, Nat.reducePow, Nat.reduceMul, Int.reduceToNat, Int.reduceLT, Int.reduceLE, gI]) | refine And.intro (by omega) ?_ | refine And.intro (by intro hq; (try simp only [Bool.and_eq_true, Bool.or_eq_true, Bool.and_eq_false_iff, Bool.or_eq_false_iff, decide_eq_true_eq, decide_eq_false_iff_not, Bool.not_eq_true', Bool.not_eq_false', beq_iff_eq, beq_eq_false_iff_ne, ne_eq] at hq); omega) ?_ | fail)
  exact W_ret ⟨[_, _], ⟨rfl, rfl, rfl⟩, rfl⟩
end Go.Proofs.Ytfbdlmenhoagmaa

namespace Go.Proofs.Ytfbdlmenhoagmaa
open Go Sy
set_option linter.unusedVariables false
def fstN (p : Nat → Bool) : Nat → Nat → Nat
  | 0, i => i
  | k + 1, i => if p i = true then i else fstN p k (i + 1)
theorem fst_eq {p : Nat → Bool} : ∀ (k i j : Nat), i ≤ j → j < i + k → p j = true → (∀ x, i ≤ x → x < j → p x = false) → fstN p k i = j
  | 0, i, j, h1, h2, _, _ => by omega
  | k + 1, i, j, h1, h2, h3, h4 => by
    simp only [fstN]
    by_cases q : p i = true
    · rw [if_pos q]
      apply Classical.byContradiction
      intro z
      rw [h4 i (Nat.le_refl _) (by omega)] at q
      cases q
    · rw [if_neg q]
      have : i ≠ j := fun e => q (e ▸ h3)
      exact fst_eq k (i + 1) j (by omega) (by omega) h3 (fun x hx hy => h4 x (by omega) hy)
theorem fst_ex {p : Nat → Bool} : ∀ (k i j : Nat), i ≤ j → j < i + k → p j = true → ∃ d, i ≤ d ∧ d < i + k ∧ p d = true ∧ (∀ x, i ≤ x → x < d → p x = false)
  | 0, i, j, h1, h2, _ => by omega
  | k + 1, i, j, h1, h2, h3 => by
    by_cases q : p i = true
    · exact ⟨i, Nat.le_refl _, by omega, q, fun x hx hy => by omega⟩
    · have : i ≠ j := fun e => q (e ▸ h3)
      obtain ⟨d, h4, h5, h6, h7⟩ := fst_ex k (i + 1) j (by omega) (by omega) h3
      refine ⟨d, by omega, by omega, h6, fun x hx hy => ?_⟩
      by_cases e : x = i
      · rw [e]; simpa using q
      · exact h7 x (by omega) hy
def pB (left : List Int) (a : Int) (r : Rd) : Bool := r.f == a && gi left a.toNat == r.c + gi left r.t.toNat
def hitB (m : Mp) (f : Nat → Int) (s left : List Int) (a : Int) (i : Nat) : Bool := usB m f s i && pB left a (gr m i)
def nxt (m : Mp) (f : Nat → Int) (s left : List Int) (a : Int) : Nat := fstN (hitB m f s left a) m.rs.length 0
def wayC (m : Mp) (f : Nat → Int) (s left : List Int) (to : Int) : Nat → Int → List Int
  | 0, _ => []
  | k + 1, a => if a = to then [] else (nxt m f s left a : Int) :: wayC m f s left to k (gr m (nxt m f s left a)).t
def minL (m : Mp) (l : List Int) : Int := l.foldl (fun n x => n + (gr m x.toNat).m) 0
theorem minL_snoc (m : Mp) (l : List Int) (x : Int) : minL m (l ++ [x]) = minL m l + (gr m x.toNat).m := by
  unfold minL; rw [List.foldl_append]; rfl
structure AtW (m : Mp) (f : Nat → Int) (s left : List Int) (to a : Int) : Prop where
  r : 0 ≤ a ∧ a < m.n
  l : 0 ≤ gi left a.toNat ∧ gi left a.toNat < 1125899906842624
theorem hit_ex {m : Mp} {f : Nat → Int} {s : List Int} {to a : Int} (h : OkM m) (ht : 0 ≤ to ∧ to < m.n) (ha : AtW m f s (dL m f s to) to a) (hne : a ≠ to) : ∃ i, i < m.rs.length ∧ hitB m f s (dL m f s to) a i = true := by
  obtain ⟨h1, h2⟩ := dL_dst h f s true ht
  obtain ⟨k1, k2⟩ := edgC_ok h true (c := cU m f s) (fun i hi => (cU_rng h f s hi).1)
  have hl := ha.l
  have hr := ha.r
  rcases last_road k1 h1 h2 (y := a.toNat) (by omega) hl.2 with q | ⟨e, he, h3, h4, h5⟩
  · omega
  · obtain ⟨i, hi, rfl⟩ := List.mem_map.1 he
    have hi := List.mem_range.1 hi
    have ok := roadB_ok (h.r i hi)
    refine ⟨i, hi, ?_⟩
    have e1 : (edC m true (cU m f s) i).y = (gr m i).f.toNat := rfl
    have e2 : (edC m true (cU m f s) i).x = (gr m i).t.toNat := rfl
    have e3 : (edC m true (cU m f s) i).c = cU m f s i := rfl
    rw [e1] at h3
    rw [e2, e3] at h5
    rw [e3] at h4
    have hu : usB m f s i = true := by
      apply Classical.byContradiction
      intro z
      have : cU m f s i = -1 := by unfold cU edB; simp [z]
      omega
    have hc : cU m f s i = (gr m i).c := by unfold cU edB; simp [hu]
    have hf := ok.f
    unfold hitB pB
    rw [hu, Bool.true_and, Bool.and_eq_true, beq_iff_eq, beq_iff_eq]
    refine ⟨by omega, ?_⟩
    rw [hc] at h5
    show gi (dstC m true (cU m f s) to) a.toNat = _ + gi (dstC m true (cU m f s) to) _
    omega
theorem hit_step {m : Mp} {f : Nat → Int} {s : List Int} {to a : Int} (h : OkM m) (ht : 0 ≤ to ∧ to < m.n) (ha : AtW m f s (dL m f s to) to a) {i : Nat} (hi : i < m.rs.length) (hh : hitB m f s (dL m f s to) a i = true) :
    usB m f s i = true ∧ (gr m i).f = a ∧ gi (dL m f s to) a.toNat = (gr m i).c + gi (dL m f s to) (gr m i).t.toNat ∧ AtW m f s (dL m f s to) to (gr m i).t ∧ rk (dL m f s to) m.n.toNat (gr m i).t.toNat < rk (dL m f s to) m.n.toNat a.toNat := by
  have ok := roadB_ok (h.r i hi)
  unfold hitB pB at hh
  rw [Bool.and_eq_true, Bool.and_eq_true, beq_iff_eq, beq_iff_eq] at hh
  obtain ⟨h1, h2, h3⟩ := hh
  have hl := ha.l
  have hc := ok.c
  have htr := ok.t
  have hb := dL_rng h f s true ht (y := (gr m i).t.toNat) (by omega)
  have hb : 0 ≤ gi (dL m f s to) (gr m i).t.toNat ∧ gi (dL m f s to) (gr m i).t.toNat ≤ 1125899906842624 := hb
  refine ⟨h1, h2, h3, ⟨htr, by omega⟩, rk_lt (by omega) (by omega)⟩
theorem nxt_spec {m : Mp} {f : Nat → Int} {s : List Int} {to a : Int} (h : OkM m) (ht : 0 ≤ to ∧ to < m.n) (ha : AtW m f s (dL m f s to) to a) (hne : a ≠ to) :
    nxt m f s (dL m f s to) a < m.rs.length ∧ hitB m f s (dL m f s to) a (nxt m f s (dL m f s to) a) = true ∧ ∀ j, j < nxt m f s (dL m f s to) a → hitB m f s (dL m f s to) a j = false := by
  obtain ⟨i, hi, hh⟩ := hit_ex h ht ha hne
  obtain ⟨d, h1, h2, h3, h4⟩ := fst_ex m.rs.length 0 i (by omega) (by omega) hh
  have e : nxt m f s (dL m f s to) a = d := fst_eq m.rs.length 0 d (by omega) (by omega) h3 h4
  rw [e]
  exact ⟨by omega, h3, fun j hj => h4 j (by omega) hj⟩
def bestS (m : Mp) (f : Nat → Int) (fr to : Int) : Option (List Int × Int) := leastL (cfS m f fr to) (okS m f fr to) (setsM m.ws.length)
def wayS (m : Mp) (f : Nat → Int) (fr to : Int) (s : List Int) : List Int := wayC m f s (dL m f s to) to m.n.toNat fr
def bE : Option (List Int × Int) → Int
  | none => 15
  | some _ => 0
def chV (m : Mp) (f : Nat → Int) (fr to : Int) : Option (List Int × Int) := if opE m f = 0 then (if plB m.n fr = true ∧ plB m.n to = true then bestS m f fr to else none) else none
def chE (m : Mp) (f : Nat → Int) (fr to : Int) : Int := if opE m f = 0 then (if plB m.n fr = true ∧ plB m.n to = true then bE (bestS m f fr to) else 3) else opE m f
theorem leastL_mem {g : List Int → Int} {ok : List Int → Bool} : ∀ (l : List (List Int)) (b : Option (List Int × Int)) {s : List Int} {n : Int}, l.foldl (lstep g ok) b = some (s, n) → b = some (s, n) ∨ (s ∈ l ∧ ok s = true ∧ n = g s)
  | [], b, s, n, h => .inl h
  | x :: l, b, s, n, h => by
    rcases leastL_mem l (lstep g ok b x) h with q | ⟨q1, q2, q3⟩
    · unfold lstep at q
      by_cases c : ok x = true
      · rw [if_pos c] at q
        rcases b with _ | ⟨y, k⟩
        · cases q; exact .inr ⟨List.mem_cons_self, c, rfl⟩
        · dsimp only at q
          split at q
          · cases q; exact .inr ⟨List.mem_cons_self, c, rfl⟩
          · exact .inl q
      · rw [if_neg c] at q
        exact .inl q
    · exact .inr ⟨List.mem_cons_of_mem _ q1, q2, q3⟩
theorem best_some {m : Mp} {f : Nat → Int} {fr to : Int} {s : List Int} {n : Int} (h : bestS m f fr to = some (s, n)) : s ∈ setsM m.ws.length ∧ Srt m.ws.length 0 s ∧ okS m f fr to s = true ∧ n = cfS m f fr to s := by
  rcases leastL_mem _ _ h with q | ⟨q1, q2, q3⟩
  · cases q
  · exact ⟨q1, sets_srt s q1, q2, q3⟩
end Go.Proofs.Ytfbdlmenhoagmaa

namespace Go.Proofs.Ytfbdlmenhoagmaa
open Go Sy
set_option maxRecDepth 100000
set_option maxHeartbeats 4000000
set_option linter.unusedVariables false
set_option linter.unusedSimpArgs false
theorem fn63 (left : List Int) (a : Int) (r : Rd) (ha : 0 ≤ a ∧ a < left.length) (ht : 0 ≤ r.t ∧ r.t < left.length) (hc : 1 ≤ r.c ∧ r.c ≤ 1073741824) (hl : 0 ≤ gi left r.t.toNat ∧ gi left r.t.toNat ≤ 1125899906842624) : Sy.Fn Try.prog 63 [.agg (cR r), .fp [iv a] 0, .fp [aI left] 0] (bv (pB left a r)) := by
  refine Fn_of_W mixed Xt63 rfl ?_
  have gI : ∀ (l : List Int) i, l.getD i 0 = gi l i := fun _ _ => rfl
  unfold pB
  cases hb : r.f == a
  · repeat' (first | refine WK_go ?_ | refine W_seqL ?_ | refine W_seq ?_ | refine W_block ?_ | refine W_scp ?_ | ((first | refine W_regL ?_ | refine W_skip ?_ | refine W_exit ?_); simp (maxSteps := 400000) (disch := omega) only [push_cast, ↓reduceIte, reduceCtorEq, Nat.reduceAdd, Nat.reduceSub, Nat.reduceEqDiff, Nat.reduceLeDiff, Nat.reduceLT, Nat.reduceBEq, Nat.reduceDiv, Nat.reduceMod, Nat.reducePow, Nat.reduceMul, Int.reduceToNat, Int.reduceLT, Int.reduceLE, gI, hb]) | refine And.intro (by omega) ?_ | refine And.intro (by intro hq; (try simp only [Bool.and_eq_true, Bool.or_eq_true, Bool.and_eq_false_iff, Bool.or_eq_false_iff, decide_eq_true_eq, decide_eq_false_iff_not, Bool.not_eq_true', Bool.not_eq_false', beq_iff_eq, beq_eq_false_iff_ne, ne_eq] at hq); omega) ?_ | fail)
    exact W_ret ⟨[_], ⟨rfl, rfl⟩, rfl⟩
  · repeat' (first | refine WK_go ?_ | refine W_seqL ?_ | refine W_seq ?_ | refine W_block ?_ | refine W_scp ?_ | ((first | refine W_regL ?_ | refine W_skip ?_ | refine W_exit ?_); simp (maxSteps := 400000) (disch := omega) only [push_cast, ↓reduceIte, reduceCtorEq, Nat.reduceAdd, Nat.reduceSub, Nat.reduceEqDiff, Nat.reduceLeDiff, Nat.reduceLT, Nat.reduceBEq, Nat.reduceDiv, Nat.reduceMod, Nat.reducePow, Nat.reduceMul, Int.reduceToNat, Int.reduceLT, Int.reduceLE, gI, hb]) | refine And.intro (by omega) ?_ | refine And.intro (by intro hq; (try simp only [Bool.and_eq_true, Bool.or_eq_true, Bool.and_eq_false_iff, Bool.or_eq_false_iff, decide_eq_true_eq, decide_eq_false_iff_not, Bool.not_eq_true', Bool.not_eq_false', beq_iff_eq, beq_eq_false_iff_ne, ne_eq] at hq); omega) ?_ | fail)
    exact W_ret ⟨[_], ⟨rfl, rfl⟩, rfl⟩
theorem fn65 (left : List Int) (a : Int) (r : Rd) (ha : 0 ≤ a ∧ a < left.length) (ht : 0 ≤ r.t ∧ r.t < left.length) (hc : 1 ≤ r.c ∧ r.c ≤ 1073741824) (hl : 0 ≤ gi left r.t.toNat ∧ gi left r.t.toNat ≤ 1125899906842624) : Sy.Fn Try.prog 65 [.agg (cR r), .fp [iv a] 0, .fp [aI left] 0] (bv (pB left a r)) := by
  refine Fn_of_W mixed Xt65 rfl ?_
  have gI : ∀ (l : List Int) i, l.getD i 0 = gi l i := fun _ _ => rfl
  unfold pB
  cases hb : r.f == a
  · repeat' (first | refine WK_go ?_ | refine W_seqL ?_ | refine W_seq ?_ | refine W_block ?_ | refine W_scp ?_ | ((first | refine W_regL ?_ | refine W_skip ?_ | refine W_exit ?_); simp (maxSteps := 400000) (disch := omega) only [push_cast, ↓reduceIte, reduceCtorEq, Nat.reduceAdd, Nat.reduceSub, Nat.reduceEqDiff, Nat.reduceLeDiff, Nat.reduceLT, Nat.reduceBEq, Nat.reduceDiv, Nat.reduceMod, Nat.reducePow, Nat.reduceMul, Int.reduceToNat, Int.reduceLT, Int.reduceLE, gI, hb]) | refine And.intro (by omega) ?_ | refine And.intro (by intro hq; (try simp only [Bool.and_eq_true, Bool.or_eq_true, Bool.and_eq_false_iff, Bool.or_eq_false_iff, decide_eq_true_eq, decide_eq_false_iff_not, Bool.not_eq_true', Bool.not_eq_false', beq_iff_eq, beq_eq_false_iff_ne, ne_eq] at hq); omega) ?_ | fail)
    exact W_ret ⟨[_], ⟨rfl, rfl⟩, rfl⟩
  · repeat' (first | refine WK_go ?_ | refine W_seqL ?_ | refine W_seq ?_ | refine W_block ?_ | refine W_scp ?_ | ((first | refine W_regL ?_ | refine W_skip ?_ | refine W_exit ?_); simp (maxSteps := 400000) (disch := omega) only [push_cast, ↓reduceIte, reduceCtorEq, Nat.reduceAdd, Nat.reduceSub, Nat.reduceEqDiff, Nat.reduceLeDiff, Nat.reduceLT, Nat.reduceBEq, Nat.reduceDiv, Nat.reduceMod, Nat.reducePow, Nat.reduceMul, Int.reduceToNat, Int.reduceLT, Int.reduceLE, gI, hb]) | refine And.intro (by omega) ?_ | refine And.intro (by intro hq; (try simp only [Bool.and_eq_true, Bool.or_eq_true, Bool.and_eq_false_iff, Bool.or_eq_false_iff, decide_eq_true_eq, decide_eq_false_iff_not, Bool.not_eq_true', Bool.not_eq_false', beq_iff_eq, beq_eq_false_iff_ne, ne_eq] at hq); omega) ?_ | fail)
    exact W_ret ⟨[_], ⟨rfl, rfl⟩, rfl⟩
def cRt (rs ws : List Int) (c mi : Int) : List AV := [aI rs, aI ws, iv c, iv mi]
def zRt : List AV := [.v (.slice none 0 0), .v (.slice none 0 0), iv 0, iv 0]
def rtC (m : Mp) (f : Nat → Int) (fr to : Int) : Option (List Int × Int) → List AV
  | none => zRt
  | some p => cRt (wayS m f fr to p.1) p.1 p.2 (minL m (wayS m f fr to p.1))
theorem fn15 (m : Mp) (f : Nat → Int) (fr to : Int) (hm : Gm m) : Sy.Fn Try.prog 15 [aM m, .agg (c6 f), iv fr, iv to] (.tup [.agg (rtC m f fr to (chV m f fr to)), iv (chE m f fr to)]) := by
  refine Fn_of_W mixed Xt15 rfl ?_
  have c52 := fn52 m f hm
  by_cases h0 : opE m f = 0
  rotate_left
  · have e1 : chV m f fr to = none := by unfold chV; rw [if_neg h0]
    have e2 : chE m f fr to = opE m f := by unfold chE; rw [if_neg h0]
    rw [e1, e2]
    have hv : opV m f = cAt m f ∨ opV m f = zAt := by
      unfold opV
      split
      · exact .inl rfl
      · exact .inr rfl
    generalize opE m f = e at *
    rcases hv with hv | hv
    all_goals
      rw [hv] at c52
      try unfold zAt at c52
      repeat' (first | refine WK_go ?_ | refine W_seqL ?_ | refine W_seq ?_ | refine W_block ?_ | refine W_scp ?_ | ((first | refine W_regL ?_ | refine W_skip ?_ | refine W_exit ?_ | refine CallC.now (c52) ?_); simp (maxSteps := 400000) (disch := omega) only [push_cast, ↓reduceIte, reduceCtorEq, Nat.reduceAdd, Nat.reduceSub, Nat.reduceEqDiff, Nat.reduceLeDiff, Nat.reduceLT, Nat.reduceBEq, Nat.reduceDiv, Nat.reduceMod, Nat.reducePow, Nat.reduceMul, Int.reduceToNat, Int.reduceLT, Int.reduceLE]) | refine And.intro (by omega) ?_ | refine And.intro (by intro hq; (try simp only [Bool.and_eq_true, Bool.or_eq_true, Bool.and_eq_false_iff, Bool.or_eq_false_iff, decide_eq_true_eq, decide_eq_false_iff_not, Bool.not_eq_true', Bool.not_eq_false', beq_iff_eq, beq_eq_false_iff_ne, ne_eq] at hq); omega) ?_ | fail)
      refine W_cond (by rfl) (fun h => ?_) (fun h => ?_)
      · repeat' (first | refine WK_go ?_ | refine W_seqL ?_ | refine W_seq ?_ | refine W_block ?_ | refine W_scp ?_ | ((first | refine W_regL ?_ | refine W_skip ?_ | refine W_exit ?_); simp (maxSteps := 400000) (disch := omega) only [push_cast, ↓reduceIte, reduceCtorEq, Nat.reduceAdd, Nat.reduceSub, Nat.reduceEqDiff, Nat.reduceLeDiff, Nat.reduceLT, Nat.reduceBEq, Nat.reduceDiv, Nat.reduceMod, Nat.reducePow, Nat.reduceMul, Int.reduceToNat, Int.reduceLT, Int.reduceLE]) | refine And.intro (by omega) ?_ | refine And.intro (by intro hq; (try simp only [Bool.and_eq_true, Bool.or_eq_true, Bool.and_eq_false_iff, Bool.or_eq_false_iff, decide_eq_true_eq, decide_eq_false_iff_not, Bool.not_eq_true', Bool.not_eq_false', beq_iff_eq, beq_eq_false_iff_ne, ne_eq] at hq); omega) ?_ | fail)
        exact W_ret ⟨[_, _], ⟨⟨by simp, rfl⟩, rfl, rfl⟩, rfl⟩
      · exact absurd (by simpa using h) h0
  have hchk : chkM m = 0 ∧ szE f = 0 := by
    unfold opE at h0
    by_cases q : chkM m = 0
    · rw [if_pos q] at h0; exact ⟨q, h0⟩
    · rw [if_neg q] at h0; exact absurd h0 q
  have hv : opV m f = cAt m f := by unfold opV; rw [if_pos hchk.1]
  have hok := chkM_ok hchk.1
  rw [hv, h0] at c52
  have c53 := fn53 m [fr, to] (by simp)
  have hpl : plsB m [fr, to] = (plB m.n fr && plB m.n to) := by simp [plsB]
  rw [hpl] at c53
  by_cases hp : plB m.n fr = true ∧ plB m.n to = true
  rotate_left
  · have e1 : chV m f fr to = none := by unfold chV; rw [if_pos h0, if_neg hp]
    have e2 : chE m f fr to = 3 := by unfold chE; rw [if_pos h0, if_neg hp]
    have e3 : (plB m.n fr && plB m.n to) = false := by rw [← Bool.not_eq_true, Bool.and_eq_true]; exact hp
    rw [e3] at c53
    rw [e1, e2]
    repeat' (first | refine WK_go ?_ | refine W_seqL ?_ | refine W_seq ?_ | refine W_block ?_ | refine W_scp ?_ | ((first | refine W_regL ?_ | refine W_skip ?_ | refine W_exit ?_ | refine CallC.now (c52) ?_); simp (maxSteps := 400000) (disch := omega) only [push_cast, ↓reduceIte, reduceCtorEq, Nat.reduceAdd, Nat.reduceSub, Nat.reduceEqDiff, Nat.reduceLeDiff, Nat.reduceLT, Nat.reduceBEq, Nat.reduceDiv, Nat.reduceMod, Nat.reducePow, Nat.reduceMul, Int.reduceToNat, Int.reduceLT, Int.reduceLE]) | refine And.intro (by omega) ?_ | refine And.intro (by intro hq; (try simp only [Bool.and_eq_true, Bool.or_eq_true, Bool.and_eq_false_iff, Bool.or_eq_false_iff, decide_eq_true_eq, decide_eq_false_iff_not, Bool.not_eq_true', Bool.not_eq_false', beq_iff_eq, beq_eq_false_iff_ne, ne_eq] at hq); omega) ?_ | fail)
    refine W_cond (by rfl) (fun h => by cases h) (fun h => ?_)
    repeat' (first | refine WK_go ?_ | refine W_seqL ?_ | refine W_seq ?_ | refine W_block ?_ | refine W_scp ?_ | ((first | refine W_regL ?_ | refine W_skip ?_ | refine W_exit ?_ | refine CallC.now (c53) ?_); simp (maxSteps := 400000) (disch := omega) only [push_cast, ↓reduceIte, reduceCtorEq, Nat.reduceAdd, Nat.reduceSub, Nat.reduceEqDiff, Nat.reduceLeDiff, Nat.reduceLT, Nat.reduceBEq, Nat.reduceDiv, Nat.reduceMod, Nat.reducePow, Nat.reduceMul, Int.reduceToNat, Int.reduceLT, Int.reduceLE]) | refine And.intro (by omega) ?_ | refine And.intro (by intro hq; (try simp only [Bool.and_eq_true, Bool.or_eq_true, Bool.and_eq_false_iff, Bool.or_eq_false_iff, decide_eq_true_eq, decide_eq_false_iff_not, Bool.not_eq_true', Bool.not_eq_false', beq_iff_eq, beq_eq_false_iff_ne, ne_eq] at hq); omega) ?_ | fail)
    refine ⟨rfl, trivial, Int, 0, cI, [fr, to], rfl, by omega, fun x _ => ⟨rfl, rfl⟩, rfl, ?_⟩
    simp (maxSteps := 400000) (disch := omega) only [push_cast, ↓reduceIte, reduceCtorEq, Nat.reduceAdd, Nat.reduceSub, Nat.reduceEqDiff, Nat.reduceLeDiff, Nat.reduceLT, Nat.reduceBEq, Nat.reduceDiv, Nat.reduceMod, Nat.reducePow, Nat.reduceMul, Int.reduceToNat, Int.reduceLT, Int.reduceLE]
    repeat' (first | refine WK_go ?_ | refine W_seqL ?_ | refine W_seq ?_ | refine W_block ?_ | refine W_scp ?_ | ((first | refine W_regL ?_ | refine W_skip ?_ | refine W_exit ?_ | refine CallC.go _ (fun _ => ⟨trivial, c53⟩) rfl ?_); simp (maxSteps := 400000) (disch := omega) only [push_cast, ↓reduceIte, reduceCtorEq, Nat.reduceAdd, Nat.reduceSub, Nat.reduceEqDiff, Nat.reduceLeDiff, Nat.reduceLT, Nat.reduceBEq, Nat.reduceDiv, Nat.reduceMod, Nat.reducePow, Nat.reduceMul, Int.reduceToNat, Int.reduceLT, Int.reduceLE]) | refine And.intro (by omega) ?_ | refine And.intro (by intro hq; (try simp only [Bool.and_eq_true, Bool.or_eq_true, Bool.and_eq_false_iff, Bool.or_eq_false_iff, decide_eq_true_eq, decide_eq_false_iff_not, Bool.not_eq_true', Bool.not_eq_false', beq_iff_eq, beq_eq_false_iff_ne, ne_eq] at hq); omega) ?_ | fail)
    refine W_cond (by rfl) (fun h => ?_) (fun h => by cases h)
    repeat' (first | refine WK_go ?_ | refine W_seqL ?_ | refine W_seq ?_ | refine W_block ?_ | refine W_scp ?_ | ((first | refine W_regL ?_ | refine W_skip ?_ | refine W_exit ?_); simp (maxSteps := 400000) (disch := omega) only [push_cast, ↓reduceIte, reduceCtorEq, Nat.reduceAdd, Nat.reduceSub, Nat.reduceEqDiff, Nat.reduceLeDiff, Nat.reduceLT, Nat.reduceBEq, Nat.reduceDiv, Nat.reduceMod, Nat.reducePow, Nat.reduceMul, Int.reduceToNat, Int.reduceLT, Int.reduceLE]) | refine And.intro (by omega) ?_ | refine And.intro (by intro hq; (try simp only [Bool.and_eq_true, Bool.or_eq_true, Bool.and_eq_false_iff, Bool.or_eq_false_iff, decide_eq_true_eq, decide_eq_false_iff_not, Bool.not_eq_true', Bool.not_eq_false', beq_iff_eq, beq_eq_false_iff_ne, ne_eq] at hq); omega) ?_ | fail)
    exact W_ret ⟨[_, _], ⟨⟨by simp, rfl⟩, rfl, rfl⟩, rfl⟩
  have hp1 : (0 ≤ fr ∧ fr < m.n) ∧ (0 ≤ to ∧ to < m.n) := by
    have := hp.1; have := hp.2
    unfold plB at *
    simp only [Bool.and_eq_true, decide_eq_true_eq] at *
    omega
  have e3 : (plB m.n fr && plB m.n to) = true := by rw [hp.1, hp.2]; rfl
  rw [e3] at c53
  have c54 := fn54 m.ws.length hok.nw 56 [] [.fp (cAt m f) 0, .fp [iv to] 0, .fp [iv fr] 0] (cfS m f fr to) (okS m f fr to) (fun x hx => by
    have h1 := costL_set hok hx
    have h2 := dL_rng hok f x true hp1.2 (y := fr.toNat) (by omega)
    have h2 : 0 ≤ gi (dL m f x to) fr.toNat ∧ gi (dL m f x to) fr.toNat ≤ 1125899906842624 := h2
    unfold cfS
    omega) (fun x hx => fn56 m f fr to x hok hx hp1.2 hp1.1)
  have e1 : chV m f fr to = bestS m f fr to := by unfold chV; rw [if_pos h0, if_pos hp]
  have e2 : chE m f fr to = bE (bestS m f fr to) := by unfold chE; rw [if_pos h0, if_pos hp]
  rw [e1, e2]
  have hbs : leastL (cfS m f fr to) (okS m f fr to) (setsM m.ws.length) = bestS m f fr to := rfl
  rw [hbs] at c54
  repeat' (first | refine WK_go ?_ | refine W_seqL ?_ | refine W_seq ?_ | refine W_block ?_ | refine W_scp ?_ | ((first | refine W_regL ?_ | refine W_skip ?_ | refine W_exit ?_ | refine CallC.now (c52) ?_); simp (maxSteps := 400000) (disch := omega) only [push_cast, ↓reduceIte, reduceCtorEq, Nat.reduceAdd, Nat.reduceSub, Nat.reduceEqDiff, Nat.reduceLeDiff, Nat.reduceLT, Nat.reduceBEq, Nat.reduceDiv, Nat.reduceMod, Nat.reducePow, Nat.reduceMul, Int.reduceToNat, Int.reduceLT, Int.reduceLE]) | refine And.intro (by omega) ?_ | refine And.intro (by intro hq; (try simp only [Bool.and_eq_true, Bool.or_eq_true, Bool.and_eq_false_iff, Bool.or_eq_false_iff, decide_eq_true_eq, decide_eq_false_iff_not, Bool.not_eq_true', Bool.not_eq_false', beq_iff_eq, beq_eq_false_iff_ne, ne_eq] at hq); omega) ?_ | fail)
  refine W_cond (by rfl) (fun h => by cases h) (fun h => ?_)
  repeat' (first | refine WK_go ?_ | refine W_seqL ?_ | refine W_seq ?_ | refine W_block ?_ | refine W_scp ?_ | ((first | refine W_regL ?_ | refine W_skip ?_ | refine W_exit ?_ | refine CallC.now (c53) ?_); simp (maxSteps := 400000) (disch := omega) only [push_cast, ↓reduceIte, reduceCtorEq, Nat.reduceAdd, Nat.reduceSub, Nat.reduceEqDiff, Nat.reduceLeDiff, Nat.reduceLT, Nat.reduceBEq, Nat.reduceDiv, Nat.reduceMod, Nat.reducePow, Nat.reduceMul, Int.reduceToNat, Int.reduceLT, Int.reduceLE]) | refine And.intro (by omega) ?_ | refine And.intro (by intro hq; (try simp only [Bool.and_eq_true, Bool.or_eq_true, Bool.and_eq_false_iff, Bool.or_eq_false_iff, decide_eq_true_eq, decide_eq_false_iff_not, Bool.not_eq_true', Bool.not_eq_false', beq_iff_eq, beq_eq_false_iff_ne, ne_eq] at hq); omega) ?_ | fail)
  refine ⟨rfl, trivial, Int, 0, cI, [fr, to], rfl, by omega, fun x _ => ⟨rfl, rfl⟩, rfl, ?_⟩
  simp (maxSteps := 400000) (disch := omega) only [push_cast, ↓reduceIte, reduceCtorEq, Nat.reduceAdd, Nat.reduceSub, Nat.reduceEqDiff, Nat.reduceLeDiff, Nat.reduceLT, Nat.reduceBEq, Nat.reduceDiv, Nat.reduceMod, Nat.reducePow, Nat.reduceMul, Int.reduceToNat, Int.reduceLT, Int.reduceLE]
  repeat' (first | refine WK_go ?_ | refine W_seqL ?_ | refine W_seq ?_ | refine W_block ?_ | refine W_scp ?_ | ((first | refine W_regL ?_ | refine W_skip ?_ | refine W_exit ?_ | refine CallC.go _ (fun _ => ⟨trivial, c53⟩) rfl ?_); simp (maxSteps := 400000) (disch := omega) only [push_cast, ↓reduceIte, reduceCtorEq, Nat.reduceAdd, Nat.reduceSub, Nat.reduceEqDiff, Nat.reduceLeDiff, Nat.reduceLT, Nat.reduceBEq, Nat.reduceDiv, Nat.reduceMod, Nat.reducePow, Nat.reduceMul, Int.reduceToNat, Int.reduceLT, Int.reduceLE]) | refine And.intro (by omega) ?_ | refine And.intro (by intro hq; (try simp only [Bool.and_eq_true, Bool.or_eq_true, Bool.and_eq_false_iff, Bool.or_eq_false_iff, decide_eq_true_eq, decide_eq_false_iff_not, Bool.not_eq_true', Bool.not_eq_false', beq_iff_eq, beq_eq_false_iff_ne, ne_eq] at hq); omega) ?_ | fail)
  refine W_cond (by rfl) (fun h => by cases h) (fun h => ?_)
  repeat' (first | refine WK_go ?_ | refine W_seqL ?_ | refine W_seq ?_ | refine W_block ?_ | refine W_scp ?_ | ((first | refine W_regL ?_ | refine W_skip ?_ | refine W_exit ?_ | refine CallC.now (fn55 _) ?_ | refine CallC.go _ (fun _ => ⟨trivial, c54⟩) rfl ?_); simp (maxSteps := 400000) (disch := omega) only [push_cast, ↓reduceIte, reduceCtorEq, Nat.reduceAdd, Nat.reduceSub, Nat.reduceEqDiff, Nat.reduceLeDiff, Nat.reduceLT, Nat.reduceBEq, Nat.reduceDiv, Nat.reduceMod, Nat.reducePow, Nat.reduceMul, Int.reduceToNat, Int.reduceLT, Int.reduceLE]) | refine And.intro (by omega) ?_ | refine And.intro (by intro hq; (try simp only [Bool.and_eq_true, Bool.or_eq_true, Bool.and_eq_false_iff, Bool.or_eq_false_iff, decide_eq_true_eq, decide_eq_false_iff_not, Bool.not_eq_true', Bool.not_eq_false', beq_iff_eq, beq_eq_false_iff_ne, ne_eq] at hq); omega) ?_ | fail)
  rcases hb : bestS m f fr to with _ | ⟨s, n⟩
  · refine W_cond (by rfl) (fun h => ?_) (fun h => by cases h)
    repeat' (first | refine WK_go ?_ | refine W_seqL ?_ | refine W_seq ?_ | refine W_block ?_ | refine W_scp ?_ | ((first | refine W_regL ?_ | refine W_skip ?_ | refine W_exit ?_); simp (maxSteps := 400000) (disch := omega) only [push_cast, ↓reduceIte, reduceCtorEq, Nat.reduceAdd, Nat.reduceSub, Nat.reduceEqDiff, Nat.reduceLeDiff, Nat.reduceLT, Nat.reduceBEq, Nat.reduceDiv, Nat.reduceMod, Nat.reducePow, Nat.reduceMul, Int.reduceToNat, Int.reduceLT, Int.reduceLE]) | refine And.intro (by omega) ?_ | refine And.intro (by intro hq; (try simp only [Bool.and_eq_true, Bool.or_eq_true, Bool.and_eq_false_iff, Bool.or_eq_false_iff, decide_eq_true_eq, decide_eq_false_iff_not, Bool.not_eq_true', Bool.not_eq_false', beq_iff_eq, beq_eq_false_iff_ne, ne_eq] at hq); omega) ?_ | fail)
    exact W_ret ⟨[_, _], ⟨⟨by simp, rfl⟩, rfl, rfl⟩, rfl⟩
  obtain ⟨b1, b2, b3, b4⟩ := best_some hb
  have c60 := fn60 s m.ws.length hok.nw b2
  have c57 := dL_fn m f s to true hok b2 hp1.2
  have hl := dL_len hok f s true hp1.2
  have hlr : ∀ y, y < m.n.toNat → 0 ≤ gi (dstC m true (cU m f s) to) y ∧ gi (dstC m true (cU m f s) to) y ≤ 1125899906842624 := fun y hy => dL_rng hok f s true hp1.2 hy
  have hd : dL m f s to = dstC m true (cU m f s) to := rfl
  rw [← hd] at c57 hl hlr
  have hA0 : AtW m f s (dL m f s to) to fr := ⟨hp1.1, (by have := hlr fr.toNat (by omega); omega), (by unfold okS at b3; rw [decide_eq_true_eq] at b3; exact b3)⟩
  refine W_cond (by rfl) (fun h => by cases h) (fun h => ?_)
  repeat' (first | refine WK_go ?_ | refine W_seqL ?_ | refine W_seq ?_ | refine W_block ?_ | refine W_scp ?_ | ((first | refine W_regL ?_ | refine W_skip ?_ | refine W_exit ?_ | refine CallC.now (fn61 _) ?_ | refine CallC.now (c60) ?_); simp (maxSteps := 400000) (disch := omega) only [push_cast, ↓reduceIte, reduceCtorEq, Nat.reduceAdd, Nat.reduceSub, Nat.reduceEqDiff, Nat.reduceLeDiff, Nat.reduceLT, Nat.reduceBEq, Nat.reduceDiv, Nat.reduceMod, Nat.reducePow, Nat.reduceMul, Int.reduceToNat, Int.reduceLT, Int.reduceLE]) | refine And.intro (by omega) ?_ | refine And.intro (by intro hq; (try simp only [Bool.and_eq_true, Bool.or_eq_true, Bool.and_eq_false_iff, Bool.or_eq_false_iff, decide_eq_true_eq, decide_eq_false_iff_not, Bool.not_eq_true', Bool.not_eq_false', beq_iff_eq, beq_eq_false_iff_ne, ne_eq] at hq); omega) ?_ | fail)
  repeat' (first | refine WK_go ?_ | refine W_seqL ?_ | refine W_seq ?_ | refine W_block ?_ | refine W_scp ?_ | ((first | refine W_regL ?_ | refine W_skip ?_ | refine W_exit ?_ | refine CallC.now (fn58 m f (msk s)) ?_ | refine CallC.now (c57) ?_); simp (maxSteps := 400000) (disch := omega) only [push_cast, ↓reduceIte, reduceCtorEq, Nat.reduceAdd, Nat.reduceSub, Nat.reduceEqDiff, Nat.reduceLeDiff, Nat.reduceLT, Nat.reduceBEq, Nat.reduceDiv, Nat.reduceMod, Nat.reducePow, Nat.reduceMul, Int.reduceToNat, Int.reduceLT, Int.reduceLE]) | refine And.intro (by omega) ?_ | refine And.intro (by intro hq; (try simp only [Bool.and_eq_true, Bool.or_eq_true, Bool.and_eq_false_iff, Bool.or_eq_false_iff, decide_eq_true_eq, decide_eq_false_iff_not, Bool.not_eq_true', Bool.not_eq_false', beq_iff_eq, beq_eq_false_iff_ne, ne_eq] at hq); omega) ?_ | fail)
  have hN := hok.n
  obtain ⟨left, hleft⟩ : ∃ left, left = dL m f s to := ⟨_, rfl⟩
  have hbC : bC (some (s, n)) = n := rfl
  have hbS : bS (some (s, n)) = msk s := rfl
  have hres : rtC m f fr to (some (s, n)) = cRt (wayS m f fr to s) s n (minL m (wayS m f fr to s)) := rfl
  have hway : wayS m f fr to s = wayC m f s left to m.n.toNat fr := by rw [hleft]; rfl
  have hres2 : bE (some (s, n)) = 0 := rfl
  rw [hres, hres2, hway]
  rw [hbC, hbS]
  rw [← hleft] at hl hlr hA0 ⊢
  refine W_le (le_adoptC 45 0 3 1 (0 : Int) cI (by omega) _ rfl rfl (by simp)) ?_
  simp (maxSteps := 400000) (disch := omega) only [push_cast, ↓reduceIte, reduceCtorEq, Nat.reduceAdd, Nat.reduceSub, Nat.reduceEqDiff, Nat.reduceLeDiff, Nat.reduceLT, Nat.reduceBEq, Nat.reduceDiv, Nat.reduceMod, Nat.reducePow, Nat.reduceMul, Int.reduceToNat, Int.reduceLT, Int.reduceLE]
  refine W_loopU (fun u : Nat × Int × List Int => []) (fun u => [(2, .cells [iv u.2.1]), (45, .cells [.row 55 u.2.2.length, aI s, iv n, iv (minL m u.2.2)]), (55, .row u.2.2.length 3 1 0 cI u.2.2)]) (fun u => AtW m f s left to u.2.1 ∧ rk left m.n.toNat u.2.1.toNat ≤ u.1 ∧ u.2.2 ++ wayC m f s left to u.1 u.2.1 = wayC m f s left to m.n.toNat fr ∧ u.2.2.length + u.1 ≤ 64 ∧ 0 ≤ minL m u.2.2 ∧ minL m u.2.2 ≤ 1440 * u.2.2.length) (fun u => u.1) (m.n.toNat, fr, []) ⟨hA0, rk_le _ _ _, List.nil_append _, by simp; omega, by simp [minL], by simp [minL]⟩ (by rfl) (by rfl) (fun u hu => ?_)
  obtain ⟨k, a, acc⟩ := u
  obtain ⟨q1, q2, q3, q4, q5, q6⟩ := hu
  dsimp only at q1 q2 q3 q4 q5 q6 ⊢
  simp (maxSteps := 400000) (disch := omega) only [push_cast, ↓reduceIte, reduceCtorEq, Nat.reduceAdd, Nat.reduceSub, Nat.reduceEqDiff, Nat.reduceLeDiff, Nat.reduceLT, Nat.reduceBEq, Nat.reduceDiv, Nat.reduceMod, Nat.reducePow, Nat.reduceMul, Int.reduceToNat, Int.reduceLT, Int.reduceLE]
  repeat' (first | refine WK_go ?_ | refine W_seqL ?_ | refine W_seq ?_ | refine W_block ?_ | refine W_scp ?_ | ((first | refine W_regL ?_ | refine W_skip ?_ | refine W_exit ?_); simp (maxSteps := 400000) (disch := omega) only [push_cast, ↓reduceIte, reduceCtorEq, Nat.reduceAdd, Nat.reduceSub, Nat.reduceEqDiff, Nat.reduceLeDiff, Nat.reduceLT, Nat.reduceBEq, Nat.reduceDiv, Nat.reduceMod, Nat.reducePow, Nat.reduceMul, Int.reduceToNat, Int.reduceLT, Int.reduceLE]) | refine And.intro (by omega) ?_ | refine And.intro (by intro hq; (try simp only [Bool.and_eq_true, Bool.or_eq_true, Bool.and_eq_false_iff, Bool.or_eq_false_iff, decide_eq_true_eq, decide_eq_false_iff_not, Bool.not_eq_true', Bool.not_eq_false', beq_iff_eq, beq_eq_false_iff_ne, ne_eq] at hq); omega) ?_ | fail)
  refine W_cond (by rfl) (fun hb => ?_) (fun hb => ?_)
  · have hne : a ≠ to := by rw [bne_iff_ne] at hb; exact hb
    rw [hleft] at q1 q2
    obtain ⟨x1, x2, x3⟩ := nxt_spec hok hp1.2 q1 hne
    obtain ⟨y1, y2, y3, y4, y5⟩ := hit_step hok hp1.2 q1 x1 x2
    rw [← hleft] at q1 q2 x1 x2 x3 y1 y2 y3 y4 y5
    have ha := q1.r
    have hcl : ∀ r ∈ m.rs, Sy.Fn Try.prog 63 ([] ++ [.agg (cR r)] ++ [.fp [iv a] 0, .fp [aI left] 0]) (bv (pB left a r)) := fun r hr => by
      obtain ⟨i, hi, rfl⟩ := List.mem_iff_getElem.1 hr
      have hri := roadB_ok (hok.r i hi)
      have e : gr m i = m.rs[i] := by simp [gr, List.getD, hi]
      rw [e] at hri
      have := hri.t
      exact fn63 left a _ (by rw [hl]; omega) (by rw [hl]; omega) hri.c (hlr _ (by omega))
    have hnr := hok.nr
    have c62 := fn62 m.rs (by omega) 63 [] [.fp [iv a] 0, .fp [aI left] 0] (pB left a) hcl
    obtain ⟨x, hx⟩ : ∃ x, x = nxt m f s left a := ⟨_, rfl⟩
    rw [← hx] at x1 x2 x3 y1 y2 y3 y4 y5
    have hpx : pB left a (gr m x) = true := by unfold hitB at x2; rw [Bool.and_eq_true] at x2; exact x2.2
    obtain ⟨i0, z1, z2, z3, z4⟩ := fst_ex (p := fun i => pB left a (gr m i)) m.rs.length 0 x (by omega) (by omega) hpx
    have hi0 : idxF (pB left a) m.rs 0 = (i0 : Int) := by
      rw [idxF_at (pB left a) dR m.rs i0 0 (by omega) (fun j hj => z4 j (by omega) hj) z3]; omega
    rw [hi0] at c62
    have hno : ∀ j, pB left a (gr m j) = false → hitB m f s left a j = false := fun j hj => by unfold hitB; rw [hj, Bool.and_false]
    repeat' (first | refine WK_go ?_ | refine W_seqL ?_ | refine W_seq ?_ | refine W_block ?_ | refine W_scp ?_ | ((first | refine W_regL ?_ | refine W_skip ?_ | refine W_exit ?_ | refine CallC.go _ (fun _ => ⟨trivial, c62⟩) rfl ?_); simp (maxSteps := 400000) (disch := omega) only [push_cast, ↓reduceIte, reduceCtorEq, Nat.reduceAdd, Nat.reduceSub, Nat.reduceEqDiff, Nat.reduceLeDiff, Nat.reduceLT, Nat.reduceBEq, Nat.reduceDiv, Nat.reduceMod, Nat.reducePow, Nat.reduceMul, Int.reduceToNat, Int.reduceLT, Int.reduceLE]) | refine And.intro (by omega) ?_ | refine And.intro (by intro hq; (try simp only [Bool.and_eq_true, Bool.or_eq_true, Bool.and_eq_false_iff, Bool.or_eq_false_iff, decide_eq_true_eq, decide_eq_false_iff_not, Bool.not_eq_true', Bool.not_eq_false', beq_iff_eq, beq_eq_false_iff_ne, ne_eq] at hq); omega) ?_ | fail)
    refine W_loopU (fun i : Nat => [(18, iv i)]) (fun i => []) (fun i => i < m.rs.length ∧ pB left a (gr m i) = true ∧ ∀ j, j < i → hitB m f s left a j = false) (fun i => m.rs.length - i) i0 ⟨by omega, z3, fun j hj => hno j (z4 j (by omega) hj)⟩ (by rfl) (by rfl) (fun i hi => ?_)
    obtain ⟨w1, w2, w3⟩ := hi
    have c64 := fn64 m f s (msk s) i hok (setW_msk b2) w1
    simp (maxSteps := 400000) (disch := omega) only [push_cast, ↓reduceIte, reduceCtorEq, Nat.reduceAdd, Nat.reduceSub, Nat.reduceEqDiff, Nat.reduceLeDiff, Nat.reduceLT, Nat.reduceBEq, Nat.reduceDiv, Nat.reduceMod, Nat.reducePow, Nat.reduceMul, Int.reduceToNat, Int.reduceLT, Int.reduceLE]
    repeat' (first | refine WK_go ?_ | refine W_seqL ?_ | refine W_seq ?_ | refine W_block ?_ | refine W_scp ?_ | ((first | refine W_regL ?_ | refine W_skip ?_ | refine W_exit ?_ | refine CallC.go _ (fun _ => ⟨trivial, c64⟩) rfl ?_); simp (maxSteps := 400000) (disch := omega) only [push_cast, ↓reduceIte, reduceCtorEq, Nat.reduceAdd, Nat.reduceSub, Nat.reduceEqDiff, Nat.reduceLeDiff, Nat.reduceLT, Nat.reduceBEq, Nat.reduceDiv, Nat.reduceMod, Nat.reducePow, Nat.reduceMul, Int.reduceToNat, Int.reduceLT, Int.reduceLE]) | refine And.intro (by omega) ?_ | refine And.intro (by intro hq; (try simp only [Bool.and_eq_true, Bool.or_eq_true, Bool.and_eq_false_iff, Bool.or_eq_false_iff, decide_eq_true_eq, decide_eq_false_iff_not, Bool.not_eq_true', Bool.not_eq_false', beq_iff_eq, beq_eq_false_iff_ne, ne_eq] at hq); omega) ?_ | fail)
    refine W_cond (by rfl) (fun hu => ?_) (fun hu => ?_)
    · have hu : usB m f s i = false := by simpa using hu
      have hix : i < x := by
        rcases Nat.lt_trichotomy i x with q | q | q
        · exact q
        · rw [← q, hu] at y1; cases y1
        · rw [w3 x q] at x2; cases x2
      obtain ⟨i1, v1, v2, v3, v4⟩ := fst_ex (p := fun i => pB left a (gr m i)) (m.rs.length - (i + 1)) (i + 1) x (by omega) (by omega) hpx
      have hgd : ∀ j, (m.rs.drop (i + 1)).getD j dR = gr m (i + 1 + j) := fun j => by simp [gr, List.getD]
      have c62 := fn62 (m.rs.drop (i + 1)) (by rw [List.length_drop]; omega) 65 [] [.fp [iv a] 0, .fp [aI left] 0] (pB left a) (fun r hr => by
        have hr := List.mem_of_mem_drop hr
        obtain ⟨i, hi, rfl⟩ := List.mem_iff_getElem.1 hr
        have hri := roadB_ok (hok.r i hi)
        have e : gr m i = m.rs[i] := by simp [gr, List.getD, hi]
        rw [e] at hri
        have := hri.t
        exact fn65 left a _ (by rw [hl]; omega) (by rw [hl]; omega) hri.c (hlr _ (by omega)))
      have hi1 : idxF (pB left a) (m.rs.drop (i + 1)) 0 = ((i1 - (i + 1) : Nat) : Int) := by
        rw [idxF_at (pB left a) dR (m.rs.drop (i + 1)) (i1 - (i + 1)) 0 (by rw [List.length_drop]; omega) (fun j hj => by rw [hgd]; exact v4 (i + 1 + j) (by omega) (by omega)) (by rw [hgd, show i + 1 + (i1 - (i + 1)) = i1 by omega]; exact v3)]; omega
      rw [hi1] at c62
      repeat' (first | refine WK_go ?_ | refine W_seqL ?_ | refine W_seq ?_ | refine W_block ?_ | refine W_scp ?_ | ((first | refine W_regL ?_ | refine W_skip ?_ | refine W_exit ?_ | refine CallC.go _ (fun _ => ⟨trivial, c62⟩) rfl ?_); simp (maxSteps := 400000) (disch := omega) only [push_cast, ↓reduceIte, reduceCtorEq, Nat.reduceAdd, Nat.reduceSub, Nat.reduceEqDiff, Nat.reduceLeDiff, Nat.reduceLT, Nat.reduceBEq, Nat.reduceDiv, Nat.reduceMod, Nat.reducePow, Nat.reduceMul, Int.reduceToNat, Int.reduceLT, Int.reduceLE]) | refine And.intro (by omega) ?_ | refine And.intro (by intro hq; (try simp only [Bool.and_eq_true, Bool.or_eq_true, Bool.and_eq_false_iff, Bool.or_eq_false_iff, decide_eq_true_eq, decide_eq_false_iff_not, Bool.not_eq_true', Bool.not_eq_false', beq_iff_eq, beq_eq_false_iff_ne, ne_eq] at hq); omega) ?_ | fail)
      refine ⟨i1, ⟨by omega, v3, fun j hj => ?_⟩, by omega, by rfl, ?_⟩
      · rcases Nat.lt_trichotomy j i with q | q | q
        · exact w3 j q
        · rw [q]; unfold hitB; rw [hu]; rfl
        · exact hno j (v4 j (by omega) hj)
      · have e : (i : Int) + (1 + ((i1 : Int) - ((i : Int) + 1))) = i1 := by omega
        simp (maxSteps := 400000) (disch := omega) only [push_cast, ↓reduceIte, reduceCtorEq, Nat.reduceAdd, Nat.reduceSub, Nat.reduceEqDiff, Nat.reduceLeDiff, Nat.reduceLT, Nat.reduceBEq, Nat.reduceDiv, Nat.reduceMod, Nat.reducePow, Nat.reduceMul, Int.reduceToNat, Int.reduceLT, Int.reduceLE, S.mk.injEq, List.cons.injEq, Prod.mk.injEq, AV.v.injEq, Value.int.injEq, Value.bool.injEq, Blk.cells.injEq, e]
    · have hu : usB m f s i = true := by simpa using hu
      have hhit : hitB m f s left a i = true := by unfold hitB; rw [hu, w2]; rfl
      have hix : i = x := by
        rcases Nat.lt_trichotomy i x with q | q | q
        · rw [x3 i q] at hhit; cases hhit
        · exact q
        · rw [w3 x q] at x2; cases x2
      subst hix
      have hgr : m.rs.getD i dR = gr m i := rfl
      have hm1 := (roadB_ok (hok.r i w1)).m
      have hms : minL m (acc ++ [(i : Int)]) = minL m acc + (gr m i).m := by rw [minL_snoc]; rfl
      obtain ⟨k', hk'⟩ : ∃ k', k = k' + 1 := ⟨k - 1, by omega⟩
      have hw1 : wayC m f s left to k a = (i : Int) :: wayC m f s left to k' (gr m i).t := by
        rw [hk']
        simp only [wayC]
        rw [if_neg hne, ← hx]
      repeat' (first | refine WK_go ?_ | refine W_seqL ?_ | refine W_seq ?_ | refine W_block ?_ | refine W_scp ?_ | ((first | refine W_regL ?_ | refine W_skip ?_ | refine W_exit ?_); simp (maxSteps := 400000) (disch := omega) only [push_cast, ↓reduceIte, reduceCtorEq, Nat.reduceAdd, Nat.reduceSub, Nat.reduceEqDiff, Nat.reduceLeDiff, Nat.reduceLT, Nat.reduceBEq, Nat.reduceDiv, Nat.reduceMod, Nat.reducePow, Nat.reduceMul, Int.reduceToNat, Int.reduceLT, Int.reduceLE]) | refine And.intro (by omega) ?_ | refine And.intro (by intro hq; (try simp only [Bool.and_eq_true, Bool.or_eq_true, Bool.and_eq_false_iff, Bool.or_eq_false_iff, decide_eq_true_eq, decide_eq_false_iff_not, Bool.not_eq_true', Bool.not_eq_false', beq_iff_eq, beq_eq_false_iff_ne, ne_eq] at hq); omega) ?_ | fail)
      refine ⟨rfl, trivial, Int, 0, cI, [(i : Int)], rfl, by omega, fun x _ => ⟨rfl, rfl⟩, rfl, ?_⟩
      simp (maxSteps := 400000) (disch := omega) only [push_cast, ↓reduceIte, reduceCtorEq, Nat.reduceAdd, Nat.reduceSub, Nat.reduceEqDiff, Nat.reduceLeDiff, Nat.reduceLT, Nat.reduceBEq, Nat.reduceDiv, Nat.reduceMod, Nat.reducePow, Nat.reduceMul, Int.reduceToNat, Int.reduceLT, Int.reduceLE]
      refine ⟨rfl, ⟨Nat.le_of_ble_eq_true rfl, rfl⟩, trivial, [(i : Int)], rfl, by first | omega | (simp; omega), by first | omega | (simp; omega), ?_⟩
      simp (maxSteps := 400000) (disch := omega) only [push_cast, ↓reduceIte, reduceCtorEq, Nat.reduceAdd, Nat.reduceSub, Nat.reduceEqDiff, Nat.reduceLeDiff, Nat.reduceLT, Nat.reduceBEq, Nat.reduceDiv, Nat.reduceMod, Nat.reducePow, Nat.reduceMul, Int.reduceToNat, Int.reduceLT, Int.reduceLE]
      repeat' (first | refine WK_go ?_ | refine W_seqL ?_ | refine W_seq ?_ | refine W_block ?_ | refine W_scp ?_ | ((first | refine W_regL ?_ | refine W_skip ?_ | refine W_exit ?_); simp (maxSteps := 400000) (disch := omega) only [push_cast, ↓reduceIte, reduceCtorEq, Nat.reduceAdd, Nat.reduceSub, Nat.reduceEqDiff, Nat.reduceLeDiff, Nat.reduceLT, Nat.reduceBEq, Nat.reduceDiv, Nat.reduceMod, Nat.reducePow, Nat.reduceMul, Int.reduceToNat, Int.reduceLT, Int.reduceLE, hgr]) | refine And.intro (by omega) ?_ | refine And.intro (by intro hq; (try simp only [Bool.and_eq_true, Bool.or_eq_true, Bool.and_eq_false_iff, Bool.or_eq_false_iff, decide_eq_true_eq, decide_eq_false_iff_not, Bool.not_eq_true', Bool.not_eq_false', beq_iff_eq, beq_eq_false_iff_ne, ne_eq] at hq); omega) ?_ | fail)
      refine ⟨(k', (gr m i).t, acc ++ [(i : Int)]), ⟨y4, by dsimp only; omega, ?_, ?_, ?_, ?_⟩, by dsimp only; omega, by rfl, ?_⟩
      · dsimp only
        rw [← q3, hw1, List.append_assoc]; rfl
      · dsimp only; rw [List.length_append]; simp only [List.length_singleton]; omega
      · dsimp only; rw [hms]; omega
      · dsimp only; rw [hms, List.length_append]; simp only [List.length_singleton]; omega
      · dsimp only
        rw [hms, List.length_append]
        simp (maxSteps := 400000) (disch := omega) only [push_cast, ↓reduceIte, reduceCtorEq, Nat.reduceAdd, Nat.reduceSub, Nat.reduceEqDiff, Nat.reduceLeDiff, Nat.reduceLT, Nat.reduceBEq, Nat.reduceDiv, Nat.reduceMod, Nat.reducePow, Nat.reduceMul, Int.reduceToNat, Int.reduceLT, Int.reduceLE, S.mk.injEq, List.cons.injEq, Prod.mk.injEq, AV.v.injEq, Value.int.injEq, Value.bool.injEq, Blk.cells.injEq]
  · have hat : a = to := by simpa using hb
    have hw1 : wayC m f s left to k a = [] := by
      cases k with
      | zero => rfl
      | succ k => simp only [wayC]; rw [if_pos hat]
    rw [hw1, List.append_nil] at q3
    rw [← q3]
    repeat' (first | refine WK_go ?_ | refine W_seqL ?_ | refine W_seq ?_ | refine W_block ?_ | refine W_scp ?_ | ((first | refine W_regL ?_ | refine W_skip ?_ | refine W_exit ?_); simp (maxSteps := 400000) (disch := omega) only [push_cast, ↓reduceIte, reduceCtorEq, Nat.reduceAdd, Nat.reduceSub, Nat.reduceEqDiff, Nat.reduceLeDiff, Nat.reduceLT, Nat.reduceBEq, Nat.reduceDiv, Nat.reduceMod, Nat.reducePow, Nat.reduceMul, Int.reduceToNat, Int.reduceLT, Int.reduceLE]) | refine And.intro (by omega) ?_ | refine And.intro (by intro hq; (try simp only [Bool.and_eq_true, Bool.or_eq_true, Bool.and_eq_false_iff, Bool.or_eq_false_iff, decide_eq_true_eq, decide_eq_false_iff_not, Bool.not_eq_true', Bool.not_eq_false', beq_iff_eq, beq_eq_false_iff_ne, ne_eq] at hq); omega) ?_ | fail)
    refine W_ret ⟨[_, _], ⟨⟨by simp, rfl⟩, rfl, rfl⟩, ?_⟩
    simp (maxSteps := 400000) (disch := omega) only [push_cast, ↓reduceIte, reduceCtorEq, Nat.reduceAdd, Nat.reduceSub, Nat.reduceEqDiff, Nat.reduceLeDiff, Nat.reduceLT, Nat.reduceBEq, Nat.reduceDiv, Nat.reduceMod, Nat.reducePow, Nat.reduceMul, Int.reduceToNat, Int.reduceLT, Int.reduceLE, pack]
    rfl
end Go.Proofs.Ytfbdlmenhoagmaa

namespace Go.Proofs.Ytfbdlmenhoagmaa
open Go Sy
set_option maxRecDepth 100000
set_option maxHeartbeats 4000000
set_option linter.unusedVariables false
set_option linter.unusedSimpArgs false
def lvT (r : Rd) (t : Int) : Int := (if t % 1440 < r.o then t + (r.o - t % 1440) else if r.z - r.m < t % 1440 then t + (1440 - t % 1440 + r.o) else t) + r.m
theorem lvT_rng {n : Int} {r : Rd} (h : OkR n r) (t : Int) (ht : 0 ≤ t) : t + 1 ≤ lvT r t ∧ lvT r t ≤ t + 4320 := by
  have := h.o; have := h.m
  unfold lvT
  have := Int.emod_nonneg t (show (1440 : Int) ≠ 0 by decide)
  have := Int.emod_lt_of_pos t (show (0 : Int) < 1440 by decide)
  split
  · omega
  · split <;> omega
theorem fn93 (n : Int) (r : Rd) (t : Int) (h : OkR n r) (ht : 0 ≤ t ∧ t ≤ 4398046511104) : Sy.Fn Try.prog 93 [.agg (cR r), iv t] (iv (lvT r t)) := by
  refine Fn_of_W mixed Xt93 rfl ?_
  have ho := h.o; have hm := h.m
  have e0 : t.tmod 1440 = t % 1440 := Int.tmod_eq_emod_of_nonneg ht.1
  have h1 := Int.emod_nonneg t (show (1440 : Int) ≠ 0 by decide)
  have h2 := Int.emod_lt_of_pos t (show (0 : Int) < 1440 by decide)
  unfold lvT
  generalize t % 1440 = w at *
  repeat' (first | refine WK_go ?_ | refine W_seqL ?_ | refine W_seq ?_ | refine W_block ?_ | refine W_scp ?_ | ((first | refine W_regL ?_ | refine W_skip ?_ | refine W_exit ?_); simp (maxSteps := 400000) (disch := omega) only [push_cast, ↓reduceIte, reduceCtorEq, Nat.reduceAdd, Nat.reduceSub, Nat.reduceEqDiff, Nat.reduceLeDiff, Nat.reduceLT, Nat.reduceBEq, Nat.reduceDiv, Nat.reduceMod, Nat.reducePow, Nat.reduceMul, Int.reduceToNat, Int.reduceLT, Int.reduceLE, e0]) | refine And.intro (by omega) ?_ | refine And.intro (by intro hq; (try simp only [Bool.and_eq_true, Bool.or_eq_true, Bool.and_eq_false_iff, Bool.or_eq_false_iff, decide_eq_true_eq, decide_eq_false_iff_not, Bool.not_eq_true', Bool.not_eq_false', beq_iff_eq, beq_eq_false_iff_ne, ne_eq] at hq); omega) ?_ | fail)
  refine W_condD (by rfl) (fun q => ?_) (fun q => ?_)
  · rw [if_pos q]
    repeat' (first | refine WK_go ?_ | refine W_seqL ?_ | refine W_seq ?_ | refine W_block ?_ | refine W_scp ?_ | ((first | refine W_regL ?_ | refine W_skip ?_ | refine W_exit ?_); simp (maxSteps := 400000) (disch := omega) only [push_cast, ↓reduceIte, reduceCtorEq, Nat.reduceAdd, Nat.reduceSub, Nat.reduceEqDiff, Nat.reduceLeDiff, Nat.reduceLT, Nat.reduceBEq, Nat.reduceDiv, Nat.reduceMod, Nat.reducePow, Nat.reduceMul, Int.reduceToNat, Int.reduceLT, Int.reduceLE]) | refine And.intro (by omega) ?_ | refine And.intro (by intro hq; (try simp only [Bool.and_eq_true, Bool.or_eq_true, Bool.and_eq_false_iff, Bool.or_eq_false_iff, decide_eq_true_eq, decide_eq_false_iff_not, Bool.not_eq_true', Bool.not_eq_false', beq_iff_eq, beq_eq_false_iff_ne, ne_eq] at hq); omega) ?_ | fail)
    exact W_ret ⟨[_], ⟨rfl, rfl⟩, rfl⟩
  · rw [if_neg q]
    repeat' (first | refine WK_go ?_ | refine W_seqL ?_ | refine W_seq ?_ | refine W_block ?_ | refine W_scp ?_ | ((first | refine W_regL ?_ | refine W_skip ?_ | refine W_exit ?_); simp (maxSteps := 400000) (disch := omega) only [push_cast, ↓reduceIte, reduceCtorEq, Nat.reduceAdd, Nat.reduceSub, Nat.reduceEqDiff, Nat.reduceLeDiff, Nat.reduceLT, Nat.reduceBEq, Nat.reduceDiv, Nat.reduceMod, Nat.reducePow, Nat.reduceMul, Int.reduceToNat, Int.reduceLT, Int.reduceLE]) | refine And.intro (by omega) ?_ | refine And.intro (by intro hq; (try simp only [Bool.and_eq_true, Bool.or_eq_true, Bool.and_eq_false_iff, Bool.or_eq_false_iff, decide_eq_true_eq, decide_eq_false_iff_not, Bool.not_eq_true', Bool.not_eq_false', beq_iff_eq, beq_eq_false_iff_ne, ne_eq] at hq); omega) ?_ | fail)
    refine W_condD (by rfl) (fun q => ?_) (fun q => ?_)
    · rw [if_pos q]
      repeat' (first | refine WK_go ?_ | refine W_seqL ?_ | refine W_seq ?_ | refine W_block ?_ | refine W_scp ?_ | ((first | refine W_regL ?_ | refine W_skip ?_ | refine W_exit ?_); simp (maxSteps := 400000) (disch := omega) only [push_cast, ↓reduceIte, reduceCtorEq, Nat.reduceAdd, Nat.reduceSub, Nat.reduceEqDiff, Nat.reduceLeDiff, Nat.reduceLT, Nat.reduceBEq, Nat.reduceDiv, Nat.reduceMod, Nat.reducePow, Nat.reduceMul, Int.reduceToNat, Int.reduceLT, Int.reduceLE]) | refine And.intro (by omega) ?_ | refine And.intro (by intro hq; (try simp only [Bool.and_eq_true, Bool.or_eq_true, Bool.and_eq_false_iff, Bool.or_eq_false_iff, decide_eq_true_eq, decide_eq_false_iff_not, Bool.not_eq_true', Bool.not_eq_false', beq_iff_eq, beq_eq_false_iff_ne, ne_eq] at hq); omega) ?_ | fail)
      exact W_ret ⟨[_], ⟨rfl, rfl⟩, rfl⟩
    · rw [if_neg q]
      repeat' (first | refine WK_go ?_ | refine W_seqL ?_ | refine W_seq ?_ | refine W_block ?_ | refine W_scp ?_ | ((first | refine W_regL ?_ | refine W_skip ?_ | refine W_exit ?_); simp (maxSteps := 400000) (disch := omega) only [push_cast, ↓reduceIte, reduceCtorEq, Nat.reduceAdd, Nat.reduceSub, Nat.reduceEqDiff, Nat.reduceLeDiff, Nat.reduceLT, Nat.reduceBEq, Nat.reduceDiv, Nat.reduceMod, Nat.reducePow, Nat.reduceMul, Int.reduceToNat, Int.reduceLT, Int.reduceLE]) | refine And.intro (by omega) ?_ | refine And.intro (by intro hq; (try simp only [Bool.and_eq_true, Bool.or_eq_true, Bool.and_eq_false_iff, Bool.or_eq_false_iff, decide_eq_true_eq, decide_eq_false_iff_not, Bool.not_eq_true', Bool.not_eq_false', beq_iff_eq, beq_eq_false_iff_ne, ne_eq] at hq); omega) ?_ | fail)
      exact W_ret ⟨[_], ⟨rfl, rfl⟩, rfl⟩
def arT (m : Mp) (l : List Int) (t : Int) : Int := l.foldl (fun t x => lvT (gr m x.toNat) t) t
def cnB (m : Mp) (l : List Int) (i : Nat) : Bool := decide (i = 0) || (gr m (gi l i).toNat).f == (gr m (gi l (i - 1)).toNat).t
def cnA (m : Mp) (l : List Int) : Bool := (List.range l.length).all (cnB m l)
def arE (m : Mp) (l : List Int) (t : Int) : Int := if chkM m = 0 then (if rdE m l = 0 then (if inR t 0 1099511627776 = true then (if cnA m l = true then 0 else 16) else 3) else rdE m l) else chkM m
def arV (m : Mp) (l : List Int) (t : Int) : Int := if arE m l t = 0 then arT m l t else 0
theorem arT_snoc (m : Mp) (l : List Int) (x t : Int) : arT m (l ++ [x]) t = lvT (gr m x.toNat) (arT m l t) := by
  unfold arT; rw [List.foldl_append]; rfl
theorem take_snoc {l : List Int} {i : Nat} (h : i < l.length) : l.take (i + 1) = l.take i ++ [gi l i] := by
  rw [List.take_succ_eq_append_getElem h]
  simp [gi, List.getD, h]
theorem rdE_ok {m : Mp} {l : List Int} (h : rdE m l = 0) : l.length ≤ 256 ∧ ∀ i, i < l.length → 0 ≤ gi l i ∧ gi l i < m.rs.length := by
  unfold rdE at h
  by_cases q : 256 < l.length
  · rw [if_pos q] at h; omega
  · rw [if_neg q] at h
    by_cases q2 : (l.any fun x => !plB m.rs.length x) = true
    · rw [if_pos q2] at h; omega
    · refine ⟨by omega, fun i hi => ?_⟩
      rw [List.any_eq_true] at q2
      have h1 : gi l i ∈ l := getD_mem 0 l i hi
      have h2 : ¬ (!plB m.rs.length (gi l i)) = true := fun z => q2 ⟨_, h1, z⟩
      unfold plB at h2
      simp only [Bool.not_eq_true', Bool.not_eq_false, Bool.and_eq_true, decide_eq_true_eq] at h2
      exact h2
theorem cnA_yes {m : Mp} {l : List Int} (h : ∀ i, i < l.length → cnB m l i = true) : cnA m l = true := by
  unfold cnA; rw [List.all_eq_true]; intro i hi; exact h i (List.mem_range.1 hi)
theorem cnA_no {m : Mp} {l : List Int} {i : Nat} (hi : i < l.length) (h : cnB m l i = false) : cnA m l = false := by
  unfold cnA
  rw [← Bool.not_eq_true, List.all_eq_true]
  intro q
  have := q i (List.mem_range.2 hi)
  rw [h] at this; cases this
theorem arT_rng {m : Mp} (h : OkM m) : ∀ (l : List Int) (t : Int), 0 ≤ t → (∀ x ∈ l, 0 ≤ x ∧ x < m.rs.length) → t ≤ arT m l t ∧ arT m l t ≤ t + 4320 * l.length
  | [], t, ht, _ => by simp [arT]
  | x :: l, t, ht, hx => by
    have h1 := hx x List.mem_cons_self
    have h2 := lvT_rng (roadB_ok (h.r x.toNat (by omega))) t ht
    have h3 := arT_rng h l (lvT (gr m x.toNat) t) (by omega) (fun y hy => hx y (List.mem_cons_of_mem _ hy))
    have e : arT m (x :: l) t = arT m l (lvT (gr m x.toNat) t) := rfl
    rw [e]
    simp only [List.length_cons]
    omega
theorem fn34 (m : Mp) (l : List Int) (t : Int) (hm : Gm m) (hl : l.length ≤ 1000000) : Sy.Fn Try.prog 34 [aM m, aI l, iv t] (.tup [iv (arV m l t), iv (arE m l t)]) := by
  refine Fn_of_W mixed Xt34 rfl ?_
  have c27 := fn27 m hm
  have c68 := fn68 m l hl
  by_cases h0 : chkM m = 0
  rotate_left
  · have e1 : arE m l t = chkM m := by unfold arE; rw [if_neg h0]
    have e2 : arV m l t = 0 := by unfold arV; rw [e1, if_neg h0]
    rw [e1, e2]
    generalize chkM m = e at *
    repeat' (first | refine WK_go ?_ | refine W_seqL ?_ | refine W_seq ?_ | refine W_block ?_ | refine W_scp ?_ | ((first | refine W_regL ?_ | refine W_skip ?_ | refine W_exit ?_ | refine CallC.now (c27) ?_); simp (maxSteps := 400000) (disch := omega) only [push_cast, ↓reduceIte, reduceCtorEq, Nat.reduceAdd, Nat.reduceSub, Nat.reduceEqDiff, Nat.reduceLeDiff, Nat.reduceLT, Nat.reduceBEq, Nat.reduceDiv, Nat.reduceMod, Nat.reducePow, Nat.reduceMul, Int.reduceToNat, Int.reduceLT, Int.reduceLE]) | refine And.intro (by omega) ?_ | refine And.intro (by intro hq; (try simp only [Bool.and_eq_true, Bool.or_eq_true, Bool.and_eq_false_iff, Bool.or_eq_false_iff, decide_eq_true_eq, decide_eq_false_iff_not, Bool.not_eq_true', Bool.not_eq_false', beq_iff_eq, beq_eq_false_iff_ne, ne_eq] at hq); omega) ?_ | fail)
    refine W_cond (by rfl) (fun h => ?_) (fun h => ?_)
    · repeat' (first | refine WK_go ?_ | refine W_seqL ?_ | refine W_seq ?_ | refine W_block ?_ | refine W_scp ?_ | ((first | refine W_regL ?_ | refine W_skip ?_ | refine W_exit ?_); simp (maxSteps := 400000) (disch := omega) only [push_cast, ↓reduceIte, reduceCtorEq, Nat.reduceAdd, Nat.reduceSub, Nat.reduceEqDiff, Nat.reduceLeDiff, Nat.reduceLT, Nat.reduceBEq, Nat.reduceDiv, Nat.reduceMod, Nat.reducePow, Nat.reduceMul, Int.reduceToNat, Int.reduceLT, Int.reduceLE]) | refine And.intro (by omega) ?_ | refine And.intro (by intro hq; (try simp only [Bool.and_eq_true, Bool.or_eq_true, Bool.and_eq_false_iff, Bool.or_eq_false_iff, decide_eq_true_eq, decide_eq_false_iff_not, Bool.not_eq_true', Bool.not_eq_false', beq_iff_eq, beq_eq_false_iff_ne, ne_eq] at hq); omega) ?_ | fail)
      exact W_ret ⟨[_, _], ⟨rfl, rfl, rfl⟩, rfl⟩
    · exact absurd (by simpa using h) h0
  have hok := chkM_ok h0
  rw [h0] at c27
  repeat' (first | refine WK_go ?_ | refine W_seqL ?_ | refine W_seq ?_ | refine W_block ?_ | refine W_scp ?_ | ((first | refine W_regL ?_ | refine W_skip ?_ | refine W_exit ?_ | refine CallC.now (c27) ?_); simp (maxSteps := 400000) (disch := omega) only [push_cast, ↓reduceIte, reduceCtorEq, Nat.reduceAdd, Nat.reduceSub, Nat.reduceEqDiff, Nat.reduceLeDiff, Nat.reduceLT, Nat.reduceBEq, Nat.reduceDiv, Nat.reduceMod, Nat.reducePow, Nat.reduceMul, Int.reduceToNat, Int.reduceLT, Int.reduceLE]) | refine And.intro (by omega) ?_ | refine And.intro (by intro hq; (try simp only [Bool.and_eq_true, Bool.or_eq_true, Bool.and_eq_false_iff, Bool.or_eq_false_iff, decide_eq_true_eq, decide_eq_false_iff_not, Bool.not_eq_true', Bool.not_eq_false', beq_iff_eq, beq_eq_false_iff_ne, ne_eq] at hq); omega) ?_ | fail)
  refine W_cond (by rfl) (fun h => by cases h) (fun _ => ?_)
  by_cases h1 : rdE m l = 0
  rotate_left
  · have e1 : arE m l t = rdE m l := by unfold arE; rw [if_pos h0, if_neg h1]
    have e2 : arV m l t = 0 := by unfold arV; rw [e1, if_neg h1]
    rw [e1, e2]
    generalize rdE m l = e at *
    repeat' (first | refine WK_go ?_ | refine W_seqL ?_ | refine W_seq ?_ | refine W_block ?_ | refine W_scp ?_ | ((first | refine W_regL ?_ | refine W_skip ?_ | refine W_exit ?_ | refine CallC.now (c68) ?_); simp (maxSteps := 400000) (disch := omega) only [push_cast, ↓reduceIte, reduceCtorEq, Nat.reduceAdd, Nat.reduceSub, Nat.reduceEqDiff, Nat.reduceLeDiff, Nat.reduceLT, Nat.reduceBEq, Nat.reduceDiv, Nat.reduceMod, Nat.reducePow, Nat.reduceMul, Int.reduceToNat, Int.reduceLT, Int.reduceLE]) | refine And.intro (by omega) ?_ | refine And.intro (by intro hq; (try simp only [Bool.and_eq_true, Bool.or_eq_true, Bool.and_eq_false_iff, Bool.or_eq_false_iff, decide_eq_true_eq, decide_eq_false_iff_not, Bool.not_eq_true', Bool.not_eq_false', beq_iff_eq, beq_eq_false_iff_ne, ne_eq] at hq); omega) ?_ | fail)
    refine W_cond (by rfl) (fun h => ?_) (fun h => ?_)
    · repeat' (first | refine WK_go ?_ | refine W_seqL ?_ | refine W_seq ?_ | refine W_block ?_ | refine W_scp ?_ | ((first | refine W_regL ?_ | refine W_skip ?_ | refine W_exit ?_); simp (maxSteps := 400000) (disch := omega) only [push_cast, ↓reduceIte, reduceCtorEq, Nat.reduceAdd, Nat.reduceSub, Nat.reduceEqDiff, Nat.reduceLeDiff, Nat.reduceLT, Nat.reduceBEq, Nat.reduceDiv, Nat.reduceMod, Nat.reducePow, Nat.reduceMul, Int.reduceToNat, Int.reduceLT, Int.reduceLE]) | refine And.intro (by omega) ?_ | refine And.intro (by intro hq; (try simp only [Bool.and_eq_true, Bool.or_eq_true, Bool.and_eq_false_iff, Bool.or_eq_false_iff, decide_eq_true_eq, decide_eq_false_iff_not, Bool.not_eq_true', Bool.not_eq_false', beq_iff_eq, beq_eq_false_iff_ne, ne_eq] at hq); omega) ?_ | fail)
      exact W_ret ⟨[_, _], ⟨rfl, rfl, rfl⟩, rfl⟩
    · exact absurd (by simpa using h) h1
  obtain ⟨hl2, hlr⟩ := rdE_ok h1
  rw [h1] at c68
  repeat' (first | refine WK_go ?_ | refine W_seqL ?_ | refine W_seq ?_ | refine W_block ?_ | refine W_scp ?_ | ((first | refine W_regL ?_ | refine W_skip ?_ | refine W_exit ?_ | refine CallC.now (c68) ?_); simp (maxSteps := 400000) (disch := omega) only [push_cast, ↓reduceIte, reduceCtorEq, Nat.reduceAdd, Nat.reduceSub, Nat.reduceEqDiff, Nat.reduceLeDiff, Nat.reduceLT, Nat.reduceBEq, Nat.reduceDiv, Nat.reduceMod, Nat.reducePow, Nat.reduceMul, Int.reduceToNat, Int.reduceLT, Int.reduceLE]) | refine And.intro (by omega) ?_ | refine And.intro (by intro hq; (try simp only [Bool.and_eq_true, Bool.or_eq_true, Bool.and_eq_false_iff, Bool.or_eq_false_iff, decide_eq_true_eq, decide_eq_false_iff_not, Bool.not_eq_true', Bool.not_eq_false', beq_iff_eq, beq_eq_false_iff_ne, ne_eq] at hq); omega) ?_ | fail)
  refine W_cond (by rfl) (fun h => by cases h) (fun _ => ?_)
  have e1 : arE m l t = if inR t 0 1099511627776 = true then (if cnA m l = true then 0 else 16) else 3 := by unfold arE; rw [if_pos h0, if_pos h1]
  repeat' (first | refine WK_go ?_ | refine W_seqL ?_ | refine W_seq ?_ | refine W_block ?_ | refine W_scp ?_ | ((first | refine W_regL ?_ | refine W_skip ?_ | refine W_exit ?_ | refine CallC.now (fn85 _ _ _) ?_); simp (maxSteps := 400000) (disch := omega) only [push_cast, ↓reduceIte, reduceCtorEq, Nat.reduceAdd, Nat.reduceSub, Nat.reduceEqDiff, Nat.reduceLeDiff, Nat.reduceLT, Nat.reduceBEq, Nat.reduceDiv, Nat.reduceMod, Nat.reducePow, Nat.reduceMul, Int.reduceToNat, Int.reduceLT, Int.reduceLE]) | refine And.intro (by omega) ?_ | refine And.intro (by intro hq; (try simp only [Bool.and_eq_true, Bool.or_eq_true, Bool.and_eq_false_iff, Bool.or_eq_false_iff, decide_eq_true_eq, decide_eq_false_iff_not, Bool.not_eq_true', Bool.not_eq_false', beq_iff_eq, beq_eq_false_iff_ne, ne_eq] at hq); omega) ?_ | fail)
  refine W_cond (by rfl) (fun h => ?_) (fun h => ?_)
  · have h : inR t 0 1099511627776 = false := by simpa using h
    rw [h] at e1
    have e2 : arV m l t = 0 := by unfold arV; rw [e1]; rfl
    rw [e1, e2]
    repeat' (first | refine WK_go ?_ | refine W_seqL ?_ | refine W_seq ?_ | refine W_block ?_ | refine W_scp ?_ | ((first | refine W_regL ?_ | refine W_skip ?_ | refine W_exit ?_); simp (maxSteps := 400000) (disch := omega) only [push_cast, ↓reduceIte, reduceCtorEq, Nat.reduceAdd, Nat.reduceSub, Nat.reduceEqDiff, Nat.reduceLeDiff, Nat.reduceLT, Nat.reduceBEq, Nat.reduceDiv, Nat.reduceMod, Nat.reducePow, Nat.reduceMul, Int.reduceToNat, Int.reduceLT, Int.reduceLE]) | refine And.intro (by omega) ?_ | refine And.intro (by intro hq; (try simp only [Bool.and_eq_true, Bool.or_eq_true, Bool.and_eq_false_iff, Bool.or_eq_false_iff, decide_eq_true_eq, decide_eq_false_iff_not, Bool.not_eq_true', Bool.not_eq_false', beq_iff_eq, beq_eq_false_iff_ne, ne_eq] at hq); omega) ?_ | fail)
    exact W_ret ⟨[_, _], ⟨rfl, rfl, rfl⟩, rfl⟩
  have h : inR t 0 1099511627776 = true := by simpa using h
  rw [if_pos h] at e1
  have ht := inR_iff.1 h
  repeat' (first | refine WK_go ?_ | refine W_seqL ?_ | refine W_seq ?_ | refine W_block ?_ | refine W_scp ?_ | ((first | refine W_regL ?_ | refine W_skip ?_ | refine W_exit ?_); simp (maxSteps := 400000) (disch := omega) only [push_cast, ↓reduceIte, reduceCtorEq, Nat.reduceAdd, Nat.reduceSub, Nat.reduceEqDiff, Nat.reduceLeDiff, Nat.reduceLT, Nat.reduceBEq, Nat.reduceDiv, Nat.reduceMod, Nat.reducePow, Nat.reduceMul, Int.reduceToNat, Int.reduceLT, Int.reduceLE]) | refine And.intro (by omega) ?_ | refine And.intro (by intro hq; (try simp only [Bool.and_eq_true, Bool.or_eq_true, Bool.and_eq_false_iff, Bool.or_eq_false_iff, decide_eq_true_eq, decide_eq_false_iff_not, Bool.not_eq_true', Bool.not_eq_false', beq_iff_eq, beq_eq_false_iff_ne, ne_eq] at hq); omega) ?_ | fail)
  refine W_loopU (fun i : Nat => [(10, iv (arT m (l.take i) t)), (30, iv i)]) (fun i => []) (fun i => i ≤ l.length ∧ ∀ j, j < i → cnB m l j = true) (fun i => l.length - i) 0 ⟨by omega, fun j hj => by omega⟩ (by rfl) (by rfl) (fun i hi => ?_)
  obtain ⟨hi, hall⟩ := hi
  simp (maxSteps := 400000) (disch := omega) only [push_cast, ↓reduceIte, reduceCtorEq, Nat.reduceAdd, Nat.reduceSub, Nat.reduceEqDiff, Nat.reduceLeDiff, Nat.reduceLT, Nat.reduceBEq, Nat.reduceDiv, Nat.reduceMod, Nat.reducePow, Nat.reduceMul, Int.reduceToNat, Int.reduceLT, Int.reduceLE]
  repeat' (first | refine WK_go ?_ | refine W_seqL ?_ | refine W_seq ?_ | refine W_block ?_ | refine W_scp ?_ | ((first | refine W_regL ?_ | refine W_skip ?_ | refine W_exit ?_); simp (maxSteps := 400000) (disch := omega) only [push_cast, ↓reduceIte, reduceCtorEq, Nat.reduceAdd, Nat.reduceSub, Nat.reduceEqDiff, Nat.reduceLeDiff, Nat.reduceLT, Nat.reduceBEq, Nat.reduceDiv, Nat.reduceMod, Nat.reducePow, Nat.reduceMul, Int.reduceToNat, Int.reduceLT, Int.reduceLE]) | refine And.intro (by omega) ?_ | refine And.intro (by intro hq; (try simp only [Bool.and_eq_true, Bool.or_eq_true, Bool.and_eq_false_iff, Bool.or_eq_false_iff, decide_eq_true_eq, decide_eq_false_iff_not, Bool.not_eq_true', Bool.not_eq_false', beq_iff_eq, beq_eq_false_iff_ne, ne_eq] at hq); omega) ?_ | fail)
  refine W_condD (by rfl) (fun h5 => ?_) (fun h5 => ?_)
  · have hlt : i < l.length := by omega
    have gI : ∀ (l : List Int) i, l.getD i 0 = gi l i := fun _ _ => rfl
    have gR : ∀ i, m.rs.getD i dR = gr m i := fun _ => rfl
    have b1 := hlr i hlt
    have b2 := hlr (i - 1) (by omega)
    have e3 : ((i : Int) - 1).toNat = i - 1 := by omega
    have ecn : cnB m l i = (decide (i = 0) || (gr m (gi l i).toNat).f == (gr m (gi l (i - 1)).toNat).t) := rfl
    have hat := arT_rng hok (l.take i) t (by omega) (fun x hx => by
      obtain ⟨j, hj, rfl⟩ := List.mem_iff_getElem.1 (List.mem_of_mem_take hx)
      have := hlr j hj
      simpa [gi, List.getD, hj] using this)
    have htl : (l.take i).length = i := by rw [List.length_take]; omega
    rw [htl] at hat
    have hsn : arT m (l.take (i + 1)) t = lvT (gr m (gi l i).toNat) (arT m (l.take i) t) := by rw [take_snoc hlt, arT_snoc]
    have c93 := fn93 m.n (gr m (gi l i).toNat) (arT m (l.take i) t) (roadB_ok (hok.r _ (by omega))) (by omega)
    generalize arT m (l.take i) t = T at *
    repeat' (first | refine WK_go ?_ | refine W_seqL ?_ | refine W_seq ?_ | refine W_block ?_ | refine W_scp ?_ | ((first | refine W_regL ?_ | refine W_skip ?_ | refine W_exit ?_); simp (maxSteps := 400000) (disch := omega) only [push_cast, ↓reduceIte, reduceCtorEq, Nat.reduceAdd, Nat.reduceSub, Nat.reduceEqDiff, Nat.reduceLeDiff, Nat.reduceLT, Nat.reduceBEq, Nat.reduceDiv, Nat.reduceMod, Nat.reducePow, Nat.reduceMul, Int.reduceToNat, Int.reduceLT, Int.reduceLE, gI, gR, e3]) | refine And.intro (by omega) ?_ | refine And.intro (by intro hq; (try simp only [Bool.and_eq_true, Bool.or_eq_true, Bool.and_eq_false_iff, Bool.or_eq_false_iff, decide_eq_true_eq, decide_eq_false_iff_not, Bool.not_eq_true', Bool.not_eq_false', beq_iff_eq, beq_eq_false_iff_ne, ne_eq] at hq); omega) ?_ | fail)
    refine W_cond (by rfl) (fun hb => ?_) (fun hb => ?_)
    · have hz : cnB m l i = false := by
        rw [ecn, Bool.or_eq_false_iff, decide_eq_false_iff_not, beq_eq_false_iff_ne]
        rw [Bool.and_eq_true, decide_eq_true_eq, bne_iff_ne] at hb
        exact ⟨by omega, hb.2⟩
      rw [cnA_no hlt hz] at e1
      have e2 : arV m l t = 0 := by unfold arV; rw [e1]; rfl
      rw [e1, e2]
      repeat' (first | refine WK_go ?_ | refine W_seqL ?_ | refine W_seq ?_ | refine W_block ?_ | refine W_scp ?_ | ((first | refine W_regL ?_ | refine W_skip ?_ | refine W_exit ?_); simp (maxSteps := 400000) (disch := omega) only [push_cast, ↓reduceIte, reduceCtorEq, Nat.reduceAdd, Nat.reduceSub, Nat.reduceEqDiff, Nat.reduceLeDiff, Nat.reduceLT, Nat.reduceBEq, Nat.reduceDiv, Nat.reduceMod, Nat.reducePow, Nat.reduceMul, Int.reduceToNat, Int.reduceLT, Int.reduceLE]) | refine And.intro (by omega) ?_ | refine And.intro (by intro hq; (try simp only [Bool.and_eq_true, Bool.or_eq_true, Bool.and_eq_false_iff, Bool.or_eq_false_iff, decide_eq_true_eq, decide_eq_false_iff_not, Bool.not_eq_true', Bool.not_eq_false', beq_iff_eq, beq_eq_false_iff_ne, ne_eq] at hq); omega) ?_ | fail)
      exact W_ret ⟨[_, _], ⟨rfl, rfl, rfl⟩, rfl⟩
    · have hz : cnB m l i = true := by
        rw [ecn, Bool.or_eq_true, decide_eq_true_eq, beq_iff_eq]
        rw [Bool.and_eq_false_iff, decide_eq_false_iff_not, bne_eq_false_iff_eq] at hb
        rcases hb with hb | hb
        · left; omega
        · exact .inr hb
      repeat' (first | refine WK_go ?_ | refine W_seqL ?_ | refine W_seq ?_ | refine W_block ?_ | refine W_scp ?_ | ((first | refine W_regL ?_ | refine W_skip ?_ | refine W_exit ?_ | refine CallC.now (c93) ?_); simp (maxSteps := 400000) (disch := omega) only [push_cast, ↓reduceIte, reduceCtorEq, Nat.reduceAdd, Nat.reduceSub, Nat.reduceEqDiff, Nat.reduceLeDiff, Nat.reduceLT, Nat.reduceBEq, Nat.reduceDiv, Nat.reduceMod, Nat.reducePow, Nat.reduceMul, Int.reduceToNat, Int.reduceLT, Int.reduceLE, gI, gR]) | refine And.intro (by omega) ?_ | refine And.intro (by intro hq; (try simp only [Bool.and_eq_true, Bool.or_eq_true, Bool.and_eq_false_iff, Bool.or_eq_false_iff, decide_eq_true_eq, decide_eq_false_iff_not, Bool.not_eq_true', Bool.not_eq_false', beq_iff_eq, beq_eq_false_iff_ne, ne_eq] at hq); omega) ?_ | fail)
      refine ⟨i + 1, ⟨by omega, up_all hall hz⟩, by omega, by rfl, ?_⟩
      rw [hsn]
      simp (maxSteps := 400000) (disch := omega) only [push_cast, ↓reduceIte, reduceCtorEq, Nat.reduceAdd, Nat.reduceSub, Nat.reduceEqDiff, Nat.reduceLeDiff, Nat.reduceLT, Nat.reduceBEq, Nat.reduceDiv, Nat.reduceMod, Nat.reducePow, Nat.reduceMul, Int.reduceToNat, Int.reduceLT, Int.reduceLE, S.mk.injEq, List.cons.injEq, Prod.mk.injEq, AV.v.injEq, Value.int.injEq, Value.bool.injEq, Blk.cells.injEq]
  · have hil : i = l.length := by omega
    subst hil
    rw [cnA_yes hall] at e1
    have e2 : arV m l t = arT m l t := by unfold arV; rw [e1]; rfl
    rw [e1, e2, List.take_length]
    repeat' (first | refine WK_go ?_ | refine W_seqL ?_ | refine W_seq ?_ | refine W_block ?_ | refine W_scp ?_ | ((first | refine W_regL ?_ | refine W_skip ?_ | refine W_exit ?_); simp (maxSteps := 400000) (disch := omega) only [push_cast, ↓reduceIte, reduceCtorEq, Nat.reduceAdd, Nat.reduceSub, Nat.reduceEqDiff, Nat.reduceLeDiff, Nat.reduceLT, Nat.reduceBEq, Nat.reduceDiv, Nat.reduceMod, Nat.reducePow, Nat.reduceMul, Int.reduceToNat, Int.reduceLT, Int.reduceLE]) | refine And.intro (by omega) ?_ | refine And.intro (by intro hq; (try simp only [Bool.and_eq_true, Bool.or_eq_true, Bool.and_eq_false_iff, Bool.or_eq_false_iff, decide_eq_true_eq, decide_eq_false_iff_not, Bool.not_eq_true', Bool.not_eq_false', beq_iff_eq, beq_eq_false_iff_ne, ne_eq] at hq); omega) ?_ | fail)
    exact W_ret ⟨[_, _], ⟨rfl, rfl, rfl⟩, rfl⟩
end Go.Proofs.Ytfbdlmenhoagmaa

namespace Go.Proofs.Ytfbdlmenhoagmaa
open Go Sy
set_option maxRecDepth 100000
set_option maxHeartbeats 4000000
set_option linter.unusedVariables false
set_option linter.unusedSimpArgs false
def exR (a b c : Int) (s : Bool) : Rd := if s = true then ⟨a, b, c, 60, 480, 600, 5000, 5000, 5000, 5000, 5000, 5000⟩ else ⟨a, b, c, 0, 0, 0, 0, 0, 0, 0, 0, 0⟩
def exL (i : Nat) : List Rd := [exR 0 1 10 (decide (0 < i)), exR 1 2 10 (decide (1 < i)), exR 0 2 15 (decide (2 < i))]
def exM : Mp := ⟨3, [⟨0, 1, 10, 60, 480, 600, 5000, 5000, 5000, 5000, 5000, 5000⟩, ⟨1, 2, 10, 60, 480, 600, 5000, 3000, 5000, 5000, 5000, 5000⟩, ⟨0, 2, 15, 60, 480, 600, 5000, 2000, 5000, 5000, 5000, 5000⟩], [⟨[1], 1, 4000, 4⟩, ⟨[2], 1, 4000, 12⟩]⟩
def exV (a b c : Int) (j : Nat) : Rd := ⟨a, b, c, if 1 ≤ j then 60 else 0, if 2 ≤ j then 480 else 0, if 3 ≤ j then 600 else 0, if 4 ≤ j then 5000 else 0, if 4 ≤ j then 5000 else 0, if 4 ≤ j then 5000 else 0, if 4 ≤ j then 5000 else 0, if 4 ≤ j then 5000 else 0, if 4 ≤ j then 5000 else 0⟩
def exW (i j : Nat) : Rd := match i with
  | 0 => exV 0 1 10 j
  | 1 => exV 1 2 10 j
  | _ => exV 0 2 15 j
def exK (i j : Nat) : List Rd := (exL i).set i (exW i j)
theorem exK_len (i j : Nat) : (exK i j).length = 3 := by simp [exK]; rfl
theorem exK_set (i j k : Nat) : (exK i j).set i (exW i k) = exK i k := by simp [exK]
theorem exK_0 (i : Nat) (h : i = 0 ∨ i = 1 ∨ i = 2) : exL i = exK i 0 := by rcases h with rfl | rfl | rfl <;> rfl
theorem exK_4 (i : Nat) (h : i = 0 ∨ i = 1 ∨ i = 2) : exK i 4 = exL (i + 1) := by rcases h with rfl | rfl | rfl <;> rfl
def slt (b : Bool) (x : AV) : AV := if b = true then x else .bad
theorem slt_t (x : AV) : slt true x = x := rfl
theorem le_stK {s s' : S} (ks : List Nat) (nx : Nat) (h : ∀ j, nx ≤ j → lm s.mem j = none) (he : (⟨keepL s.tm ks, s.mem, nx⟩ : S) = s') : le s s' := he ▸ le_keepL ks nx h
def exQ (b c : Bool) : List Rd := [⟨0, 1, 10, 60, 480, 600, 5000, 5000, 5000, 5000, 5000, 5000⟩, ⟨1, 2, 10, 60, 480, 600, 5000, if b = true then 3000 else 5000, 5000, 5000, 5000, 5000⟩, ⟨0, 2, 15, 60, 480, 600, 5000, if c = true then 2000 else 5000, 5000, 5000, 5000, 5000⟩]
theorem exQ_len (b c : Bool) : (exQ b c).length = 3 := rfl
def exS (D : Nat → Bool) : S := ⟨[(0, .own 0 0), (2, .own 9 0), (35, slt (D 0) (.own 9 1)), (36, slt (D 1) (.row 7 0)), (37, slt (D 2) (.own 9 1)), (38, slt (D 3) (.row 7 0)), (39, slt (D 4) (.roff 7 0 12 1 0)), (40, slt (D 5) (.roff 7 0 12 1 6)), (41, slt (D 6) (.roff 7 0 12 1 7)), (42, slt (D 8) (.roff 7 0 12 2 0)), (43, slt (D 9) (.roff 7 0 12 2 6)), (44, slt (D 10) (.roff 7 0 12 2 7))],
  [(0, .cells [iv 0, .v (.slice none 0 0), .v (.slice none 0 0)]), (2, .cells [iv 5000, iv 5000, iv 5000, iv 5000, iv 5000, iv 5000]), (7, .row 0 67 12 dR cR (exQ (D 7) (D 11))), (9, .cells [iv 3, .row 7 0, .v (.slice none 0 0)])], 30⟩
theorem fn51 : Sy.Fn Try.prog 51 [] (aM exM) := by
  refine Fn_of_W mixed Xt51 rfl ?_
  repeat' (first | refine WK_go ?_ | refine W_seqL ?_ | refine W_seq ?_ | refine W_block ?_ | refine W_scp ?_ | ((first | refine W_regL ?_ | refine W_skip ?_ | refine W_exit ?_); simp (maxSteps := 400000) (disch := omega) only [push_cast, ↓reduceIte, reduceCtorEq, Nat.reduceAdd, Nat.reduceSub, Nat.reduceEqDiff, Nat.reduceLeDiff, Nat.reduceLT, Nat.reduceBEq, Nat.reduceDiv, Nat.reduceMod, Nat.reducePow, Nat.reduceMul, Int.reduceToNat, Int.reduceLT, Int.reduceLE]) | refine And.intro (by omega) ?_ | refine And.intro (by intro hq; (try simp only [Bool.and_eq_true, Bool.or_eq_true, Bool.and_eq_false_iff, Bool.or_eq_false_iff, decide_eq_true_eq, decide_eq_false_iff_not, Bool.not_eq_true', Bool.not_eq_false', beq_iff_eq, beq_eq_false_iff_ne, ne_eq] at hq); omega) ?_ | fail)
  refine ⟨rfl, trivial, Rd, dR, cR, exL 0, rfl, by omega, fun x _ => ⟨rfl, rfl⟩, rfl, ?_⟩
  simp (maxSteps := 400000) (disch := omega) only [push_cast, ↓reduceIte, reduceCtorEq, Nat.reduceAdd, Nat.reduceSub, Nat.reduceEqDiff, Nat.reduceLeDiff, Nat.reduceLT, Nat.reduceBEq, Nat.reduceDiv, Nat.reduceMod, Nat.reducePow, Nat.reduceMul, Int.reduceToNat, Int.reduceLT, Int.reduceLE]
  repeat' (first | refine WK_go ?_ | refine W_seqL ?_ | refine W_seq ?_ | refine W_block ?_ | refine W_scp ?_ | ((first | refine W_regL ?_ | refine W_skip ?_ | refine W_exit ?_); simp (maxSteps := 400000) (disch := omega) only [push_cast, ↓reduceIte, reduceCtorEq, Nat.reduceAdd, Nat.reduceSub, Nat.reduceEqDiff, Nat.reduceLeDiff, Nat.reduceLT, Nat.reduceBEq, Nat.reduceDiv, Nat.reduceMod, Nat.reducePow, Nat.reduceMul, Int.reduceToNat, Int.reduceLT, Int.reduceLE]) | refine And.intro (by omega) ?_ | refine And.intro (by intro hq; (try simp only [Bool.and_eq_true, Bool.or_eq_true, Bool.and_eq_false_iff, Bool.or_eq_false_iff, decide_eq_true_eq, decide_eq_false_iff_not, Bool.not_eq_true', Bool.not_eq_false', beq_iff_eq, beq_eq_false_iff_ne, ne_eq] at hq); omega) ?_ | fail)
  refine W_loopU (fun i : Nat => [(3, iv i)]) (fun i => [(7, .row 0 67 12 dR cR (exL i))]) (fun i => i ≤ 3) (fun i => 3 - i) 0 (by omega) (by rfl) (by rfl) (fun i hi => ?_)
  have hl : (exL i).length = 3 := rfl
  simp (maxSteps := 400000) (disch := omega) only [push_cast, ↓reduceIte, reduceCtorEq, Nat.reduceAdd, Nat.reduceSub, Nat.reduceEqDiff, Nat.reduceLeDiff, Nat.reduceLT, Nat.reduceBEq, Nat.reduceDiv, Nat.reduceMod, Nat.reducePow, Nat.reduceMul, Int.reduceToNat, Int.reduceLT, Int.reduceLE]
  repeat' (first | refine WK_go ?_ | refine W_seqL ?_ | refine W_seq ?_ | refine W_block ?_ | refine W_scp ?_ | ((first | refine W_regL ?_ | refine W_skip ?_ | refine W_exit ?_); simp (maxSteps := 400000) (disch := omega) only [push_cast, ↓reduceIte, reduceCtorEq, Nat.reduceAdd, Nat.reduceSub, Nat.reduceEqDiff, Nat.reduceLeDiff, Nat.reduceLT, Nat.reduceBEq, Nat.reduceDiv, Nat.reduceMod, Nat.reducePow, Nat.reduceMul, Int.reduceToNat, Int.reduceLT, Int.reduceLE]) | refine And.intro (by omega) ?_ | refine And.intro (by intro hq; (try simp only [Bool.and_eq_true, Bool.or_eq_true, Bool.and_eq_false_iff, Bool.or_eq_false_iff, decide_eq_true_eq, decide_eq_false_iff_not, Bool.not_eq_true', Bool.not_eq_false', beq_iff_eq, beq_eq_false_iff_ne, ne_eq] at hq); omega) ?_ | fail)
  refine W_condD (by rfl) (fun h5 => ?_) (fun h5 => ?_)
  · have h3 : i = 0 ∨ i = 1 ∨ i = 2 := by omega
    rw [exK_0 i h3]
    repeat' (first | refine WK_go ?_ | refine W_seqL ?_ | refine W_seq ?_ | refine W_block ?_ | refine W_scp ?_ | ((first | refine W_regL ?_ | refine W_skip ?_ | refine W_exit ?_); simp (maxSteps := 400000) (disch := omega) only [push_cast, ↓reduceIte, reduceCtorEq, Nat.reduceAdd, Nat.reduceSub, Nat.reduceEqDiff, Nat.reduceLeDiff, Nat.reduceLT, Nat.reduceBEq, Nat.reduceDiv, Nat.reduceMod, Nat.reducePow, Nat.reduceMul, Int.reduceToNat, Int.reduceLT, Int.reduceLE, exK_len]) | refine And.intro (by omega) ?_ | refine And.intro (by intro hq; (try simp only [Bool.and_eq_true, Bool.or_eq_true, Bool.and_eq_false_iff, Bool.or_eq_false_iff, decide_eq_true_eq, decide_eq_false_iff_not, Bool.not_eq_true', Bool.not_eq_false', beq_iff_eq, beq_eq_false_iff_ne, ne_eq] at hq); omega) ?_ | fail)
    refine ⟨rfl, ⟨Nat.le_of_ble_eq_true rfl, rfl⟩, by omega, exW i 1, by rcases h3 with rfl | rfl | rfl <;> rfl, rfl, ?_⟩
    rw [exK_set]
    simp (maxSteps := 400000) (disch := omega) only [push_cast, ↓reduceIte, reduceCtorEq, Nat.reduceAdd, Nat.reduceSub, Nat.reduceEqDiff, Nat.reduceLeDiff, Nat.reduceLT, Nat.reduceBEq, Nat.reduceDiv, Nat.reduceMod, Nat.reducePow, Nat.reduceMul, Int.reduceToNat, Int.reduceLT, Int.reduceLE, exK_len]
    refine ⟨by omega, ?_⟩
    refine ⟨rfl, ⟨Nat.le_of_ble_eq_true rfl, rfl⟩, by omega, exW i 2, by rcases h3 with rfl | rfl | rfl <;> rfl, rfl, ?_⟩
    rw [exK_set]
    simp (maxSteps := 400000) (disch := omega) only [push_cast, ↓reduceIte, reduceCtorEq, Nat.reduceAdd, Nat.reduceSub, Nat.reduceEqDiff, Nat.reduceLeDiff, Nat.reduceLT, Nat.reduceBEq, Nat.reduceDiv, Nat.reduceMod, Nat.reducePow, Nat.reduceMul, Int.reduceToNat, Int.reduceLT, Int.reduceLE, exK_len]
    refine ⟨by omega, ?_⟩
    refine ⟨rfl, ⟨Nat.le_of_ble_eq_true rfl, rfl⟩, by omega, exW i 3, by rcases h3 with rfl | rfl | rfl <;> rfl, rfl, ?_⟩
    rw [exK_set]
    simp (maxSteps := 400000) (disch := omega) only [push_cast, ↓reduceIte, reduceCtorEq, Nat.reduceAdd, Nat.reduceSub, Nat.reduceEqDiff, Nat.reduceLeDiff, Nat.reduceLT, Nat.reduceBEq, Nat.reduceDiv, Nat.reduceMod, Nat.reducePow, Nat.reduceMul, Int.reduceToNat, Int.reduceLT, Int.reduceLE, exK_len]
    refine ⟨by omega, ?_⟩
    refine ⟨rfl, ⟨Nat.le_of_ble_eq_true rfl, rfl⟩, by omega, exW i 4, by rcases h3 with rfl | rfl | rfl <;> rfl, rfl, ?_⟩
    rw [exK_set, exK_4 i h3]
    simp (maxSteps := 400000) (disch := omega) only [push_cast, ↓reduceIte, reduceCtorEq, Nat.reduceAdd, Nat.reduceSub, Nat.reduceEqDiff, Nat.reduceLeDiff, Nat.reduceLT, Nat.reduceBEq, Nat.reduceDiv, Nat.reduceMod, Nat.reducePow, Nat.reduceMul, Int.reduceToNat, Int.reduceLT, Int.reduceLE, exK_len]
    repeat' (first | refine WK_go ?_ | refine W_seqL ?_ | refine W_seq ?_ | refine W_block ?_ | refine W_scp ?_ | ((first | refine W_regL ?_ | refine W_skip ?_ | refine W_exit ?_); simp (maxSteps := 400000) (disch := omega) only [push_cast, ↓reduceIte, reduceCtorEq, Nat.reduceAdd, Nat.reduceSub, Nat.reduceEqDiff, Nat.reduceLeDiff, Nat.reduceLT, Nat.reduceBEq, Nat.reduceDiv, Nat.reduceMod, Nat.reducePow, Nat.reduceMul, Int.reduceToNat, Int.reduceLT, Int.reduceLE]) | refine And.intro (by omega) ?_ | refine And.intro (by intro hq; (try simp only [Bool.and_eq_true, Bool.or_eq_true, Bool.and_eq_false_iff, Bool.or_eq_false_iff, decide_eq_true_eq, decide_eq_false_iff_not, Bool.not_eq_true', Bool.not_eq_false', beq_iff_eq, beq_eq_false_iff_ne, ne_eq] at hq); omega) ?_ | fail)
    refine ⟨i + 1, by omega, by omega, by rfl, ?_⟩
    simp (maxSteps := 400000) (disch := omega) only [push_cast, ↓reduceIte, reduceCtorEq, Nat.reduceAdd, Nat.reduceSub, Nat.reduceEqDiff, Nat.reduceLeDiff, Nat.reduceLT, Nat.reduceBEq, Nat.reduceDiv, Nat.reduceMod, Nat.reducePow, Nat.reduceMul, Int.reduceToNat, Int.reduceLT, Int.reduceLE, S.mk.injEq, List.cons.injEq, Prod.mk.injEq, AV.v.injEq, Value.int.injEq, Value.bool.injEq, Blk.cells.injEq]
  · obtain rfl : i = 3 := by omega
    have hl : (exL 3).length = 3 := rfl
    refine W_exit ?_
    simp (maxSteps := 400000) (disch := omega) only [push_cast, ↓reduceIte, reduceCtorEq, Nat.reduceAdd, Nat.reduceSub, Nat.reduceEqDiff, Nat.reduceLeDiff, Nat.reduceLT, Nat.reduceBEq, Nat.reduceDiv, Nat.reduceMod, Nat.reducePow, Nat.reduceMul, Int.reduceToNat, Int.reduceLT, Int.reduceLE]
    repeat (first | refine WK_go ?_ | refine W_seqL ?_ | refine W_seq ?_)
    refine W_regI exS (le_stK [0, 2, 35, 36, 37, 38, 39, 40, 41, 42, 43, 44] 30 (fun j hj => by simp only [lm]; repeat rw [if_neg (by omega)]) (by rfl)) (fun D i ro m hro hms hD ha => ?_) (fun D hD => ?_)
    · have nn : ∀ (b c : Bool) (j : Nat), 30 ≤ j → lm [(0, .cells [iv 0, .v (.slice none 0 0), .v (.slice none 0 0)]), (2, .cells [iv 5000, iv 5000, iv 5000, iv 5000, iv 5000, iv 5000]), (7, .row 0 67 12 dR cR (exQ b c)), (9, .cells [iv 3, .row 7 0, .v (.slice none 0 0)])] j = none := fun b c j hj => by
        simp only [lm]; repeat rw [if_neg (by omega)]
      rcases i with _ | _ | _ | _ | _ | _ | _ | _ | _ | _ | _ | _ | i
      all_goals simp only [List.getElem?_cons_zero, List.getElem?_cons_succ, List.getElem?_nil, Option.some.injEq, reduceCtorEq] at hro hms
      all_goals subst hro
      all_goals subst hms
      · unfold exS
        simp (maxSteps := 400000) (disch := omega) only [push_cast, ↓reduceIte, reduceCtorEq, Nat.reduceAdd, Nat.reduceSub, Nat.reduceEqDiff, Nat.reduceLeDiff, Nat.reduceLT, Nat.reduceBEq, Nat.reduceDiv, Nat.reduceMod, Nat.reducePow, Nat.reduceMul, Int.reduceToNat, Int.reduceLT, Int.reduceLE, slt_t, exQ_len]
        first | exact le_stK [0, 2, 35, 36, 37, 38, 39, 40, 41, 42, 43, 44] 30 (fun j hj => nn (D 7) (D 11) j hj) (by rfl) | exact le_stK [0, 2, 35, 36, 37, 38, 39, 40, 41, 42, 43, 44] 30 (fun j hj => nn true (D 11) j hj) (by rfl) | exact le_stK [0, 2, 35, 36, 37, 38, 39, 40, 41, 42, 43, 44] 30 (fun j hj => nn (D 7) true j hj) (by rfl) | exact ⟨by decide, le_stK [0, 2, 35, 36, 37, 38, 39, 40, 41, 42, 43, 44] 30 (fun j hj => nn (D 7) (D 11) j hj) (by rfl)⟩ | trace_state
      · unfold exS
        have a0 := ha 0 (by unfold tb; decide)
        simp (maxSteps := 400000) (disch := omega) only [push_cast, ↓reduceIte, reduceCtorEq, Nat.reduceAdd, Nat.reduceSub, Nat.reduceEqDiff, Nat.reduceLeDiff, Nat.reduceLT, Nat.reduceBEq, Nat.reduceDiv, Nat.reduceMod, Nat.reducePow, Nat.reduceMul, Int.reduceToNat, Int.reduceLT, Int.reduceLE, slt_t, exQ_len, a0]
        first | exact le_stK [0, 2, 35, 36, 37, 38, 39, 40, 41, 42, 43, 44] 30 (fun j hj => nn (D 7) (D 11) j hj) (by rfl) | exact le_stK [0, 2, 35, 36, 37, 38, 39, 40, 41, 42, 43, 44] 30 (fun j hj => nn true (D 11) j hj) (by rfl) | exact le_stK [0, 2, 35, 36, 37, 38, 39, 40, 41, 42, 43, 44] 30 (fun j hj => nn (D 7) true j hj) (by rfl) | exact ⟨by decide, le_stK [0, 2, 35, 36, 37, 38, 39, 40, 41, 42, 43, 44] 30 (fun j hj => nn (D 7) (D 11) j hj) (by rfl)⟩ | trace_state
      · unfold exS
        simp (maxSteps := 400000) (disch := omega) only [push_cast, ↓reduceIte, reduceCtorEq, Nat.reduceAdd, Nat.reduceSub, Nat.reduceEqDiff, Nat.reduceLeDiff, Nat.reduceLT, Nat.reduceBEq, Nat.reduceDiv, Nat.reduceMod, Nat.reducePow, Nat.reduceMul, Int.reduceToNat, Int.reduceLT, Int.reduceLE, slt_t, exQ_len]
        first | exact le_stK [0, 2, 35, 36, 37, 38, 39, 40, 41, 42, 43, 44] 30 (fun j hj => nn (D 7) (D 11) j hj) (by rfl) | exact le_stK [0, 2, 35, 36, 37, 38, 39, 40, 41, 42, 43, 44] 30 (fun j hj => nn true (D 11) j hj) (by rfl) | exact le_stK [0, 2, 35, 36, 37, 38, 39, 40, 41, 42, 43, 44] 30 (fun j hj => nn (D 7) true j hj) (by rfl) | exact ⟨by decide, le_stK [0, 2, 35, 36, 37, 38, 39, 40, 41, 42, 43, 44] 30 (fun j hj => nn (D 7) (D 11) j hj) (by rfl)⟩ | trace_state
      · unfold exS
        have a0 := ha 2 (by unfold tb; decide)
        simp (maxSteps := 400000) (disch := omega) only [push_cast, ↓reduceIte, reduceCtorEq, Nat.reduceAdd, Nat.reduceSub, Nat.reduceEqDiff, Nat.reduceLeDiff, Nat.reduceLT, Nat.reduceBEq, Nat.reduceDiv, Nat.reduceMod, Nat.reducePow, Nat.reduceMul, Int.reduceToNat, Int.reduceLT, Int.reduceLE, slt_t, exQ_len, a0]
        first | exact le_stK [0, 2, 35, 36, 37, 38, 39, 40, 41, 42, 43, 44] 30 (fun j hj => nn (D 7) (D 11) j hj) (by rfl) | exact le_stK [0, 2, 35, 36, 37, 38, 39, 40, 41, 42, 43, 44] 30 (fun j hj => nn true (D 11) j hj) (by rfl) | exact le_stK [0, 2, 35, 36, 37, 38, 39, 40, 41, 42, 43, 44] 30 (fun j hj => nn (D 7) true j hj) (by rfl) | exact ⟨by decide, le_stK [0, 2, 35, 36, 37, 38, 39, 40, 41, 42, 43, 44] 30 (fun j hj => nn (D 7) (D 11) j hj) (by rfl)⟩ | trace_state
      · unfold exS
        have a0 := ha 1 (by unfold tb; decide)
        simp (maxSteps := 400000) (disch := omega) only [push_cast, ↓reduceIte, reduceCtorEq, Nat.reduceAdd, Nat.reduceSub, Nat.reduceEqDiff, Nat.reduceLeDiff, Nat.reduceLT, Nat.reduceBEq, Nat.reduceDiv, Nat.reduceMod, Nat.reducePow, Nat.reduceMul, Int.reduceToNat, Int.reduceLT, Int.reduceLE, slt_t, exQ_len, a0]
        first | exact le_stK [0, 2, 35, 36, 37, 38, 39, 40, 41, 42, 43, 44] 30 (fun j hj => nn (D 7) (D 11) j hj) (by rfl) | exact le_stK [0, 2, 35, 36, 37, 38, 39, 40, 41, 42, 43, 44] 30 (fun j hj => nn true (D 11) j hj) (by rfl) | exact le_stK [0, 2, 35, 36, 37, 38, 39, 40, 41, 42, 43, 44] 30 (fun j hj => nn (D 7) true j hj) (by rfl) | exact ⟨by decide, le_stK [0, 2, 35, 36, 37, 38, 39, 40, 41, 42, 43, 44] 30 (fun j hj => nn (D 7) (D 11) j hj) (by rfl)⟩ | trace_state
      · unfold exS
        have a0 := ha 4 (by unfold tb; decide)
        simp (maxSteps := 400000) (disch := omega) only [push_cast, ↓reduceIte, reduceCtorEq, Nat.reduceAdd, Nat.reduceSub, Nat.reduceEqDiff, Nat.reduceLeDiff, Nat.reduceLT, Nat.reduceBEq, Nat.reduceDiv, Nat.reduceMod, Nat.reducePow, Nat.reduceMul, Int.reduceToNat, Int.reduceLT, Int.reduceLE, slt_t, exQ_len, a0]
        first | exact le_stK [0, 2, 35, 36, 37, 38, 39, 40, 41, 42, 43, 44] 30 (fun j hj => nn (D 7) (D 11) j hj) (by rfl) | exact le_stK [0, 2, 35, 36, 37, 38, 39, 40, 41, 42, 43, 44] 30 (fun j hj => nn true (D 11) j hj) (by rfl) | exact le_stK [0, 2, 35, 36, 37, 38, 39, 40, 41, 42, 43, 44] 30 (fun j hj => nn (D 7) true j hj) (by rfl) | exact ⟨by decide, le_stK [0, 2, 35, 36, 37, 38, 39, 40, 41, 42, 43, 44] 30 (fun j hj => nn (D 7) (D 11) j hj) (by rfl)⟩ | trace_state
      · unfold exS
        have a0 := ha 5 (by unfold tb; decide)
        simp (maxSteps := 400000) (disch := omega) only [push_cast, ↓reduceIte, reduceCtorEq, Nat.reduceAdd, Nat.reduceSub, Nat.reduceEqDiff, Nat.reduceLeDiff, Nat.reduceLT, Nat.reduceBEq, Nat.reduceDiv, Nat.reduceMod, Nat.reducePow, Nat.reduceMul, Int.reduceToNat, Int.reduceLT, Int.reduceLE, slt_t, exQ_len, a0]
        first | exact le_stK [0, 2, 35, 36, 37, 38, 39, 40, 41, 42, 43, 44] 30 (fun j hj => nn (D 7) (D 11) j hj) (by rfl) | exact le_stK [0, 2, 35, 36, 37, 38, 39, 40, 41, 42, 43, 44] 30 (fun j hj => nn true (D 11) j hj) (by rfl) | exact le_stK [0, 2, 35, 36, 37, 38, 39, 40, 41, 42, 43, 44] 30 (fun j hj => nn (D 7) true j hj) (by rfl) | exact ⟨by decide, le_stK [0, 2, 35, 36, 37, 38, 39, 40, 41, 42, 43, 44] 30 (fun j hj => nn (D 7) (D 11) j hj) (by rfl)⟩ | trace_state
      · unfold exS
        have a0 := ha 6 (by unfold tb; decide)
        simp (maxSteps := 400000) (disch := omega) only [push_cast, ↓reduceIte, reduceCtorEq, Nat.reduceAdd, Nat.reduceSub, Nat.reduceEqDiff, Nat.reduceLeDiff, Nat.reduceLT, Nat.reduceBEq, Nat.reduceDiv, Nat.reduceMod, Nat.reducePow, Nat.reduceMul, Int.reduceToNat, Int.reduceLT, Int.reduceLE, slt_t, exQ_len, a0, hD]
        refine ⟨rfl, ⟨Nat.le_of_ble_eq_true rfl, rfl⟩, by decide, ⟨1, 2, 10, 60, 480, 600, 5000, 3000, 5000, 5000, 5000, 5000⟩, rfl, rfl, ?_⟩
        have e : (exQ false (D 11)).set 1 ⟨1, 2, 10, 60, 480, 600, 5000, 3000, 5000, 5000, 5000, 5000⟩ = exQ true (D 11) := rfl
        rw [e]
        simp (maxSteps := 400000) (disch := omega) only [push_cast, ↓reduceIte, reduceCtorEq, Nat.reduceAdd, Nat.reduceSub, Nat.reduceEqDiff, Nat.reduceLeDiff, Nat.reduceLT, Nat.reduceBEq, Nat.reduceDiv, Nat.reduceMod, Nat.reducePow, Nat.reduceMul, Int.reduceToNat, Int.reduceLT, Int.reduceLE, slt_t, exQ_len, a0]
        first | exact le_stK [0, 2, 35, 36, 37, 38, 39, 40, 41, 42, 43, 44] 30 (fun j hj => nn (D 7) (D 11) j hj) (by rfl) | exact le_stK [0, 2, 35, 36, 37, 38, 39, 40, 41, 42, 43, 44] 30 (fun j hj => nn true (D 11) j hj) (by rfl) | exact le_stK [0, 2, 35, 36, 37, 38, 39, 40, 41, 42, 43, 44] 30 (fun j hj => nn (D 7) true j hj) (by rfl) | exact ⟨by decide, le_stK [0, 2, 35, 36, 37, 38, 39, 40, 41, 42, 43, 44] 30 (fun j hj => nn (D 7) (D 11) j hj) (by rfl)⟩ | trace_state
      · unfold exS
        have a0 := ha 3 (by unfold tb; decide)
        simp (maxSteps := 400000) (disch := omega) only [push_cast, ↓reduceIte, reduceCtorEq, Nat.reduceAdd, Nat.reduceSub, Nat.reduceEqDiff, Nat.reduceLeDiff, Nat.reduceLT, Nat.reduceBEq, Nat.reduceDiv, Nat.reduceMod, Nat.reducePow, Nat.reduceMul, Int.reduceToNat, Int.reduceLT, Int.reduceLE, slt_t, exQ_len, a0]
        first | exact le_stK [0, 2, 35, 36, 37, 38, 39, 40, 41, 42, 43, 44] 30 (fun j hj => nn (D 7) (D 11) j hj) (by rfl) | exact le_stK [0, 2, 35, 36, 37, 38, 39, 40, 41, 42, 43, 44] 30 (fun j hj => nn true (D 11) j hj) (by rfl) | exact le_stK [0, 2, 35, 36, 37, 38, 39, 40, 41, 42, 43, 44] 30 (fun j hj => nn (D 7) true j hj) (by rfl) | exact ⟨by decide, le_stK [0, 2, 35, 36, 37, 38, 39, 40, 41, 42, 43, 44] 30 (fun j hj => nn (D 7) (D 11) j hj) (by rfl)⟩ | trace_state
      · unfold exS
        have a0 := ha 8 (by unfold tb; decide)
        simp (maxSteps := 400000) (disch := omega) only [push_cast, ↓reduceIte, reduceCtorEq, Nat.reduceAdd, Nat.reduceSub, Nat.reduceEqDiff, Nat.reduceLeDiff, Nat.reduceLT, Nat.reduceBEq, Nat.reduceDiv, Nat.reduceMod, Nat.reducePow, Nat.reduceMul, Int.reduceToNat, Int.reduceLT, Int.reduceLE, slt_t, exQ_len, a0]
        first | exact le_stK [0, 2, 35, 36, 37, 38, 39, 40, 41, 42, 43, 44] 30 (fun j hj => nn (D 7) (D 11) j hj) (by rfl) | exact le_stK [0, 2, 35, 36, 37, 38, 39, 40, 41, 42, 43, 44] 30 (fun j hj => nn true (D 11) j hj) (by rfl) | exact le_stK [0, 2, 35, 36, 37, 38, 39, 40, 41, 42, 43, 44] 30 (fun j hj => nn (D 7) true j hj) (by rfl) | exact ⟨by decide, le_stK [0, 2, 35, 36, 37, 38, 39, 40, 41, 42, 43, 44] 30 (fun j hj => nn (D 7) (D 11) j hj) (by rfl)⟩ | trace_state
      · unfold exS
        have a0 := ha 9 (by unfold tb; decide)
        simp (maxSteps := 400000) (disch := omega) only [push_cast, ↓reduceIte, reduceCtorEq, Nat.reduceAdd, Nat.reduceSub, Nat.reduceEqDiff, Nat.reduceLeDiff, Nat.reduceLT, Nat.reduceBEq, Nat.reduceDiv, Nat.reduceMod, Nat.reducePow, Nat.reduceMul, Int.reduceToNat, Int.reduceLT, Int.reduceLE, slt_t, exQ_len, a0]
        first | exact le_stK [0, 2, 35, 36, 37, 38, 39, 40, 41, 42, 43, 44] 30 (fun j hj => nn (D 7) (D 11) j hj) (by rfl) | exact le_stK [0, 2, 35, 36, 37, 38, 39, 40, 41, 42, 43, 44] 30 (fun j hj => nn true (D 11) j hj) (by rfl) | exact le_stK [0, 2, 35, 36, 37, 38, 39, 40, 41, 42, 43, 44] 30 (fun j hj => nn (D 7) true j hj) (by rfl) | exact ⟨by decide, le_stK [0, 2, 35, 36, 37, 38, 39, 40, 41, 42, 43, 44] 30 (fun j hj => nn (D 7) (D 11) j hj) (by rfl)⟩ | trace_state
      · unfold exS
        have a0 := ha 10 (by unfold tb; decide)
        simp (maxSteps := 400000) (disch := omega) only [push_cast, ↓reduceIte, reduceCtorEq, Nat.reduceAdd, Nat.reduceSub, Nat.reduceEqDiff, Nat.reduceLeDiff, Nat.reduceLT, Nat.reduceBEq, Nat.reduceDiv, Nat.reduceMod, Nat.reducePow, Nat.reduceMul, Int.reduceToNat, Int.reduceLT, Int.reduceLE, slt_t, exQ_len, a0, hD]
        refine ⟨rfl, ⟨Nat.le_of_ble_eq_true rfl, rfl⟩, by decide, ⟨0, 2, 15, 60, 480, 600, 5000, 2000, 5000, 5000, 5000, 5000⟩, rfl, rfl, ?_⟩
        have e : (exQ (D 7) false).set 2 ⟨0, 2, 15, 60, 480, 600, 5000, 2000, 5000, 5000, 5000, 5000⟩ = exQ (D 7) true := rfl
        rw [e]
        simp (maxSteps := 400000) (disch := omega) only [push_cast, ↓reduceIte, reduceCtorEq, Nat.reduceAdd, Nat.reduceSub, Nat.reduceEqDiff, Nat.reduceLeDiff, Nat.reduceLT, Nat.reduceBEq, Nat.reduceDiv, Nat.reduceMod, Nat.reducePow, Nat.reduceMul, Int.reduceToNat, Int.reduceLT, Int.reduceLE, slt_t, exQ_len, a0]
        first | exact le_stK [0, 2, 35, 36, 37, 38, 39, 40, 41, 42, 43, 44] 30 (fun j hj => nn (D 7) (D 11) j hj) (by rfl) | exact le_stK [0, 2, 35, 36, 37, 38, 39, 40, 41, 42, 43, 44] 30 (fun j hj => nn true (D 11) j hj) (by rfl) | exact le_stK [0, 2, 35, 36, 37, 38, 39, 40, 41, 42, 43, 44] 30 (fun j hj => nn (D 7) true j hj) (by rfl) | exact ⟨by decide, le_stK [0, 2, 35, 36, 37, 38, 39, 40, 41, 42, 43, 44] 30 (fun j hj => nn (D 7) (D 11) j hj) (by rfl)⟩ | trace_state
    · refine ⟨_, le.refl _, ?_⟩
      unfold exS
      have d7 := hD 7 (by decide)
      have d11 := hD 11 (by decide)
      rw [d7, d11]
      simp (maxSteps := 400000) (disch := omega) only [push_cast, ↓reduceIte, reduceCtorEq, Nat.reduceAdd, Nat.reduceSub, Nat.reduceEqDiff, Nat.reduceLeDiff, Nat.reduceLT, Nat.reduceBEq, Nat.reduceDiv, Nat.reduceMod, Nat.reducePow, Nat.reduceMul, Int.reduceToNat, Int.reduceLT, Int.reduceLE]
      repeat (first | refine WK_go ?_ | refine W_seqL ?_ | refine W_seq ?_)
      refine W_regP [1, 2] (by decide) ?_
      simp (maxSteps := 400000) (disch := omega) only [push_cast, ↓reduceIte, reduceCtorEq, Nat.reduceAdd, Nat.reduceSub, Nat.reduceEqDiff, Nat.reduceLeDiff, Nat.reduceLT, Nat.reduceBEq, Nat.reduceDiv, Nat.reduceMod, Nat.reducePow, Nat.reduceMul, Int.reduceToNat, Int.reduceLT, Int.reduceLE, chainP, List.take_succ_cons, List.take_zero, List.drop_succ_cons, List.drop_zero]
      refine ⟨rfl, trivial, Int, 0, cI, [1], rfl, by omega, fun x _ => ⟨rfl, rfl⟩, rfl, ?_⟩
      simp (maxSteps := 400000) (disch := omega) only [push_cast, ↓reduceIte, reduceCtorEq, Nat.reduceAdd, Nat.reduceSub, Nat.reduceEqDiff, Nat.reduceLeDiff, Nat.reduceLT, Nat.reduceBEq, Nat.reduceDiv, Nat.reduceMod, Nat.reducePow, Nat.reduceMul, Int.reduceToNat, Int.reduceLT, Int.reduceLE]
      refine ⟨_, le_frzR 45 [0, 2] [0, 7, 9] 40 30 0 3 1 0 cI [1] rfl rfl rfl rfl, ?_⟩
      simp (maxSteps := 400000) (disch := omega) only [push_cast, ↓reduceIte, reduceCtorEq, Nat.reduceAdd, Nat.reduceSub, Nat.reduceEqDiff, Nat.reduceLeDiff, Nat.reduceLT, Nat.reduceBEq, Nat.reduceDiv, Nat.reduceMod, Nat.reducePow, Nat.reduceMul, Int.reduceToNat, Int.reduceLT, Int.reduceLE, chainP, List.take_succ_cons, List.take_zero, List.drop_succ_cons, List.drop_zero]
      refine ⟨rfl, trivial, Int, 0, cI, [2], rfl, by omega, fun x _ => ⟨rfl, rfl⟩, rfl, ?_⟩
      simp (maxSteps := 400000) (disch := omega) only [push_cast, ↓reduceIte, reduceCtorEq, Nat.reduceAdd, Nat.reduceSub, Nat.reduceEqDiff, Nat.reduceLeDiff, Nat.reduceLT, Nat.reduceBEq, Nat.reduceDiv, Nat.reduceMod, Nat.reducePow, Nat.reduceMul, Int.reduceToNat, Int.reduceLT, Int.reduceLE]
      refine ⟨_, le_frzR 47 [0, 2, 46] [0, 7, 9] 60 41 0 3 1 0 cI [2] rfl rfl rfl rfl, ?_⟩
      simp (maxSteps := 400000) (disch := omega) only [push_cast, ↓reduceIte, reduceCtorEq, Nat.reduceAdd, Nat.reduceSub, Nat.reduceEqDiff, Nat.reduceLeDiff, Nat.reduceLT, Nat.reduceBEq, Nat.reduceDiv, Nat.reduceMod, Nat.reducePow, Nat.reduceMul, Int.reduceToNat, Int.reduceLT, Int.reduceLE, chainP, List.take_succ_cons, List.take_zero, List.drop_succ_cons, List.drop_zero]
      refine ⟨rfl, trivial, Wrk, dW, cW, exM.ws, rfl, by omega, fun x _ => ⟨rfl, rfl⟩, rfl, ?_⟩
      simp (maxSteps := 400000) (disch := omega) only [push_cast, ↓reduceIte, reduceCtorEq, Nat.reduceAdd, Nat.reduceSub, Nat.reduceEqDiff, Nat.reduceLeDiff, Nat.reduceLT, Nat.reduceBEq, Nat.reduceDiv, Nat.reduceMod, Nat.reducePow, Nat.reduceMul, Int.reduceToNat, Int.reduceLT, Int.reduceLE]
      repeat' (first | refine WK_go ?_ | refine W_seqL ?_ | refine W_seq ?_ | refine W_block ?_ | refine W_scp ?_ | ((first | refine W_regL ?_ | refine W_skip ?_ | refine W_exit ?_); simp (maxSteps := 400000) (disch := omega) only [push_cast, ↓reduceIte, reduceCtorEq, Nat.reduceAdd, Nat.reduceSub, Nat.reduceEqDiff, Nat.reduceLeDiff, Nat.reduceLT, Nat.reduceBEq, Nat.reduceDiv, Nat.reduceMod, Nat.reducePow, Nat.reduceMul, Int.reduceToNat, Int.reduceLT, Int.reduceLE]) | refine And.intro (by omega) ?_ | refine And.intro (by intro hq; (try simp only [Bool.and_eq_true, Bool.or_eq_true, Bool.and_eq_false_iff, Bool.or_eq_false_iff, decide_eq_true_eq, decide_eq_false_iff_not, Bool.not_eq_true', Bool.not_eq_false', beq_iff_eq, beq_eq_false_iff_ne, ne_eq] at hq); omega) ?_ | fail)
      refine W_ret ⟨[_], ⟨⟨by simp, rfl⟩, rfl⟩, ?_⟩
      simp (maxSteps := 400000) (disch := omega) only [push_cast, ↓reduceIte, reduceCtorEq, Nat.reduceAdd, Nat.reduceSub, Nat.reduceEqDiff, Nat.reduceLeDiff, Nat.reduceLT, Nat.reduceBEq, Nat.reduceDiv, Nat.reduceMod, Nat.reducePow, Nat.reduceMul, Int.reduceToNat, Int.reduceLT, Int.reduceLE, pack]
      rfl
theorem exG : Gm exM := ⟨by decide, by decide, fun w hw => by
  have h : w = ⟨[1], 1, 4000, 4⟩ ∨ w = ⟨[2], 1, 4000, 12⟩ := by simpa [exM] using hw
  rcases h with rfl | rfl <;> decide⟩
def exF (k : Nat) : Int := if k = 1 then 4000 else 0
theorem ex_chV : chV exM exF 0 2 = some ([0], 24) := by kernel_rfl
theorem ex_chE : chE exM exF 0 2 = 0 := by kernel_rfl
theorem ex_way : wayS exM exF 0 2 [0] = [0, 1] := by kernel_rfl
theorem ex_min : minL exM [0, 1] = 120 := by kernel_rfl
theorem ex_arV : arV exM [0, 1] 500 = 1980 := by kernel_rfl
theorem ex_arE : arE exM [0, 1] 500 = 0 := by kernel_rfl
theorem fn14 : Sy.Fn Try.prog 14 [] (bv true) := by
  refine Fn_of_W mixed Xt14 rfl ?_
  have c15 := fn15 exM exF 0 2 exG
  have c34 := fn34 exM [0, 1] 500 exG (by decide)
  rw [ex_chV, ex_chE] at c15
  have e : rtC exM exF 0 2 (some ([0], 24)) = cRt [0, 1] [0] 24 120 := by
    show cRt (wayS exM exF 0 2 [0]) [0] 24 (minL exM (wayS exM exF 0 2 [0])) = _
    rw [ex_way, ex_min]
  rw [e] at c15
  unfold cRt at c15
  rw [ex_arV, ex_arE] at c34
  repeat' (first | refine WK_go ?_ | refine W_seqL ?_ | refine W_seq ?_ | refine W_block ?_ | refine W_scp ?_ | ((first | refine W_regL ?_ | refine W_skip ?_ | refine W_exit ?_ | refine CallC.now (fn51) ?_ | refine CallC.now (c15) ?_); simp (maxSteps := 400000) (disch := omega) only [push_cast, ↓reduceIte, reduceCtorEq, Nat.reduceAdd, Nat.reduceSub, Nat.reduceEqDiff, Nat.reduceLeDiff, Nat.reduceLT, Nat.reduceBEq, Nat.reduceDiv, Nat.reduceMod, Nat.reducePow, Nat.reduceMul, Int.reduceToNat, Int.reduceLT, Int.reduceLE]) | refine And.intro (by omega) ?_ | refine And.intro (by intro hq; (try simp only [Bool.and_eq_true, Bool.or_eq_true, Bool.and_eq_false_iff, Bool.or_eq_false_iff, decide_eq_true_eq, decide_eq_false_iff_not, Bool.not_eq_true', Bool.not_eq_false', beq_iff_eq, beq_eq_false_iff_ne, ne_eq] at hq); omega) ?_ | fail)
  repeat' (first | refine WK_go ?_ | refine W_seqL ?_ | refine W_seq ?_ | refine W_block ?_ | refine W_scp ?_ | ((first | refine W_regL ?_ | refine W_skip ?_ | refine W_exit ?_ | refine CallC.now (fn51) ?_); simp (maxSteps := 400000) (disch := omega) only [push_cast, ↓reduceIte, reduceCtorEq, Nat.reduceAdd, Nat.reduceSub, Nat.reduceEqDiff, Nat.reduceLeDiff, Nat.reduceLT, Nat.reduceBEq, Nat.reduceDiv, Nat.reduceMod, Nat.reducePow, Nat.reduceMul, Int.reduceToNat, Int.reduceLT, Int.reduceLE]) | refine And.intro (by omega) ?_ | refine And.intro (by intro hq; (try simp only [Bool.and_eq_true, Bool.or_eq_true, Bool.and_eq_false_iff, Bool.or_eq_false_iff, decide_eq_true_eq, decide_eq_false_iff_not, Bool.not_eq_true', Bool.not_eq_false', beq_iff_eq, beq_eq_false_iff_ne, ne_eq] at hq); omega) ?_ | fail)
  refine ⟨rfl, trivial, Int, 0, cI, [0, 1], rfl, by omega, fun x _ => ⟨rfl, rfl⟩, rfl, ?_⟩
  simp (maxSteps := 400000) (disch := omega) only [push_cast, ↓reduceIte, reduceCtorEq, Nat.reduceAdd, Nat.reduceSub, Nat.reduceEqDiff, Nat.reduceLeDiff, Nat.reduceLT, Nat.reduceBEq, Nat.reduceDiv, Nat.reduceMod, Nat.reducePow, Nat.reduceMul, Int.reduceToNat, Int.reduceLT, Int.reduceLE]
  repeat' (first | refine WK_go ?_ | refine W_seqL ?_ | refine W_seq ?_ | refine W_block ?_ | refine W_scp ?_ | ((first | refine W_regL ?_ | refine W_skip ?_ | refine W_exit ?_ | refine CallC.go _ (fun _ => ⟨trivial, c34⟩) rfl ?_); simp (maxSteps := 400000) (disch := omega) only [push_cast, ↓reduceIte, reduceCtorEq, Nat.reduceAdd, Nat.reduceSub, Nat.reduceEqDiff, Nat.reduceLeDiff, Nat.reduceLT, Nat.reduceBEq, Nat.reduceDiv, Nat.reduceMod, Nat.reducePow, Nat.reduceMul, Int.reduceToNat, Int.reduceLT, Int.reduceLE]) | refine And.intro (by omega) ?_ | refine And.intro (by intro hq; (try simp only [Bool.and_eq_true, Bool.or_eq_true, Bool.and_eq_false_iff, Bool.or_eq_false_iff, decide_eq_true_eq, decide_eq_false_iff_not, Bool.not_eq_true', Bool.not_eq_false', beq_iff_eq, beq_eq_false_iff_ne, ne_eq] at hq); omega) ?_ | fail)
  exact W_ret ⟨[_], ⟨rfl, rfl⟩, rfl⟩
end Go.Proofs.Ytfbdlmenhoagmaa

namespace Go.Proofs.Ytfbdlmenhoagmaa
open Go Sy
set_option linter.unusedVariables false
theorem mem_brn {n : Nat} : ∀ (d : Nat) (l : List Int) (i : Nat) (t : List Int), i + d = n → Srt n i t → t ≠ [] → l ++ t ∈ brn d l i
  | _, _, _, [], _, _, h => absurd rfl h
  | 0, l, i, x :: t, hi, hs, _ => by
    have := hs.1; have := hs.2.1; omega
  | d + 1, l, i, x :: t, hi, hs, _ => by
    obtain ⟨h1, h2, h3⟩ := hs
    simp only [brn, List.cons_append, List.mem_cons, List.mem_append]
    by_cases q : x = i
    · rw [q] at h3 ⊢
      cases t with
      | nil => exact .inl rfl
      | cons y t =>
        right; left
        have := mem_brn d (l ++ [(i : Int)]) (i + 1) (y :: t) (by omega) h3 (by simp)
        rwa [List.append_assoc] at this
    · right; right
      exact mem_brn d l (i + 1) (x :: t) (by omega) ⟨by omega, h2, h3⟩ (by simp)
theorem mem_sets {n : Nat} {l : List Int} (h : Srt n 0 l) : l ∈ setsM n := by
  cases l with
  | nil => exact List.mem_cons_self
  | cons x l =>
    refine List.mem_cons_of_mem _ ?_
    exact mem_brn n [] 0 (x :: l) (by omega) h (by simp)
theorem lstep_keep {g : List Int → Int} {ok : List Int → Bool} {x y : List Int} {n : Int} : ∃ z k, lstep g ok (some (y, n)) x = some (z, k) ∧ k ≤ n := by
  unfold lstep
  by_cases c : ok x = true
  · rw [if_pos c]
    dsimp only
    split
    · exact ⟨_, _, rfl, by omega⟩
    · exact ⟨_, _, rfl, Int.le_refl _⟩
  · rw [if_neg c]
    exact ⟨_, _, rfl, Int.le_refl _⟩
theorem leastL_keep {g : List Int → Int} {ok : List Int → Bool} : ∀ (l : List (List Int)) (y : List Int) (n : Int), ∃ z k, l.foldl (lstep g ok) (some (y, n)) = some (z, k) ∧ k ≤ n
  | [], y, n => ⟨y, n, rfl, Int.le_refl _⟩
  | x :: l, y, n => by
    obtain ⟨z, k, h1, h2⟩ := lstep_keep (g := g) (ok := ok) (x := x) (y := y) (n := n)
    obtain ⟨z2, k2, h3, h4⟩ := leastL_keep l z k
    refine ⟨z2, k2, ?_, by omega⟩
    rw [List.foldl_cons, h1, h3]
theorem leastL_le {g : List Int → Int} {ok : List Int → Bool} : ∀ (l : List (List Int)) (b : Option (List Int × Int)) (x : List Int), x ∈ l → ok x = true → ∃ z k, l.foldl (lstep g ok) b = some (z, k) ∧ k ≤ g x
  | [], b, x, h, _ => by cases h
  | y :: l, b, x, h, hx => by
    rcases List.mem_cons.1 h with rfl | h
    · have h1 : ∃ z k, lstep g ok b x = some (z, k) ∧ k ≤ g x := by
        unfold lstep
        rw [if_pos hx]
        cases b with
        | none => exact ⟨_, _, rfl, Int.le_refl _⟩
        | some p =>
          obtain ⟨y, n⟩ := p
          dsimp only
          split
          · exact ⟨_, _, rfl, Int.le_refl _⟩
          · exact ⟨_, _, rfl, by omega⟩
      obtain ⟨z, k, h2, h3⟩ := h1
      obtain ⟨z2, k2, h4, h5⟩ := leastL_keep (g := g) (ok := ok) l z k
      refine ⟨z2, k2, ?_, by omega⟩
      rw [List.foldl_cons, h2, h4]
    · exact leastL_le l (lstep g ok b y) x h hx
theorem best_le {m : Mp} {f : Nat → Int} {fr to : Int} {s : List Int} (hs : Srt m.ws.length 0 s) (ho : okS m f fr to s = true) : ∃ z k, bestS m f fr to = some (z, k) ∧ k ≤ cfS m f fr to s :=
  leastL_le _ none s (mem_sets hs) ho
theorem Srt.more {n n' : Int} (hn : n ≤ n') : ∀ {l : List Int} {lo : Int}, Srt n lo l → Srt n' lo l
  | [], _, _ => trivial
  | x :: l, lo, h => ⟨h.1, by have := h.2.1; omega, Srt.more hn h.2.2⟩
end Go.Proofs.Ytfbdlmenhoagmaa

namespace Go.Proofs.Ytfbdlmenhoagmaa
open Go Sy
set_option maxRecDepth 100000
set_option maxHeartbeats 4000000
set_option linter.unusedVariables false
set_option linter.unusedSimpArgs false
structure Big (m : Mp) : Prop where
  r : m.rs.length ≤ 140737488355328
  w : m.ws.length ≤ 140737488355328
  s : ∀ w ∈ m.ws, w.rs.length ≤ 140737488355328
structure Val (m : Mp) (f : Nat → Int) (fr to : Int) : Prop where
  g : greatB m = false
  c : chkM m = 0
  z : szE f = 0
  f : 0 ≤ fr ∧ fr < m.n
  t : 0 ≤ to ∧ to < m.n
theorem Val.ok {m : Mp} {f : Nat → Int} {fr to : Int} (h : Val m f fr to) : OkM m := chkM_ok h.c
theorem Val.op {m : Mp} {f : Nat → Int} {fr to : Int} (h : Val m f fr to) : opE m f = 0 := by unfold opE; rw [if_pos h.c]; exact h.z
theorem plB_of {n x : Int} (h : 0 ≤ x ∧ x < n) : plB n x = true := by unfold plB; rw [decide_eq_true h.1, decide_eq_true h.2]; rfl
theorem Val.cv {m : Mp} {f : Nat → Int} {fr to : Int} (h : Val m f fr to) : chV m f fr to = bestS m f fr to := by unfold chV; rw [if_pos h.op, if_pos ⟨plB_of h.f, plB_of h.t⟩]
end Go.Proofs.Ytfbdlmenhoagmaa

namespace Go.Proofs.Ytfbdlmenhoagmaa
open Go Sy
set_option maxRecDepth 100000
set_option linter.unusedVariables false
theorem i64_wf {n : Int} (h : (Lit.int .i64 n).wf = true) : -9223372036854775808 ≤ n ∧ n ≤ 9223372036854775807 := by
  simp [Lit.wf, IntKind.min, IntKind.max, IntKind.bits, IntKind.signed] at h
  omega
abbrev I64 (n : Int) : Prop := -9223372036854775808 ≤ n ∧ n ≤ 9223372036854775807
theorem y2 : Try.prog.cellsOf 2 = 1 := by kernel_rfl
theorem y3 : Try.prog.cellsOf 3 = 1 := by kernel_rfl
theorem y22 : Try.prog.cellsOf 22 = 1 := by kernel_rfl
theorem y23 : Try.prog.cellsOf 23 = 1 := by kernel_rfl
theorem y26 : Try.prog.cellsOf 26 = 6 := by kernel_rfl
theorem y27 : Try.prog.cellsOf 27 = 1 := by kernel_rfl
theorem y29 : Try.prog.cellsOf 29 = 4 := by kernel_rfl
theorem y67 : Try.prog.cellsOf 67 = 12 := by kernel_rfl
theorem b2 : Try.prog.bytesOf 2 = 8 := by kernel_rfl
theorem b3 : Try.prog.bytesOf 3 = 8 := by kernel_rfl
theorem b29 : Try.prog.bytesOf 29 = 48 := by kernel_rfl
theorem b67 : Try.prog.bytesOf 67 = 96 := by kernel_rfl
theorem k2 : Codec Try.prog 2 (fun n : Int => [iv n]) I64 := (Codec.int Try.underlying2).map id (fun _ => rfl) (fun _ h => i64_wf h)
theorem k3 : Codec Try.prog 3 (fun n : Int => [iv n]) I64 := (Codec.int Try.underlying3).map id (fun _ => rfl) (fun _ h => i64_wf h)
theorem k27 : Codec Try.prog 27 (fun l : List Int => [aI l]) (fun l => l.length * 8 ≤ 140737488351232) :=
  (Codec.slice Try.underlying27 (by rw [y3]; decide) y3 b3 0 k3).map id (fun _ => rfl) (fun _ h => h.1)
def szOf (x : Int × Int × Int × Int × Int × Int × Unit) : Nat → Int
  | 0 => x.1
  | 1 => x.2.1
  | 2 => x.2.2.1
  | 3 => x.2.2.2.1
  | 4 => x.2.2.2.2.1
  | _ => x.2.2.2.2.2.1
theorem k26 : Codec Try.prog 26 c6 (fun f => ∀ k, k < 6 → I64 (f k)) :=
  (Codec.array Try.underlying26 y2 (by kernel_rfl) (by kernel_rfl) (Parts.cons k2 y2 (Parts.cons k2 y2 (Parts.cons k2 y2 (Parts.cons k2 y2 (Parts.cons k2 y2 (Parts.cons k2 y2 Parts.nil))))))).map szOf (fun _ => rfl) (fun x h k hk => by
    obtain ⟨h0, h1, h2, h3, h4, h5, _⟩ := h
    have : k = 0 ∨ k = 1 ∨ k = 2 ∨ k = 3 ∨ k = 4 ∨ k = 5 := by omega
    rcases this with rfl | rfl | rfl | rfl | rfl | rfl <;> assumption)
theorem k67 : Codec Try.prog 67 cR (fun _ => True) :=
  (Codec.struct Try.underlying67 (by kernel_rfl) (by kernel_rfl) (Parts.cons k3 y3 (Parts.cons k3 y3 (Parts.cons k2 y2 (Parts.cons k2 y2 (Parts.cons k2 y2 (Parts.cons k2 y2 (Parts.cons k26 y26 Parts.nil)))))))).map
    (fun x => ⟨x.1, x.2.1, x.2.2.1, x.2.2.2.1, x.2.2.2.2.1, x.2.2.2.2.2.1, x.2.2.2.2.2.2.1 0, x.2.2.2.2.2.2.1 1, x.2.2.2.2.2.2.1 2, x.2.2.2.2.2.2.1 3, x.2.2.2.2.2.2.1 4, x.2.2.2.2.2.2.1 5⟩) (fun _ => rfl) (fun _ _ => trivial)
theorem k22 : Codec Try.prog 22 (fun l : List Rd => [aR l]) (fun l => l.length * 96 ≤ 140737488351232) :=
  (Codec.slice Try.underlying22 (by rw [y67]; decide) y67 b67 dR k67).map id (fun _ => rfl) (fun _ h => h.1)
abbrev OW (w : Wrk) : Prop := w.rs.length * 8 ≤ 140737488351232
theorem k29 : Codec Try.prog 29 cW OW :=
  (Codec.struct Try.underlying29 (by kernel_rfl) (by kernel_rfl) (Parts.cons k27 y27 (Parts.cons k3 y3 (Parts.cons k2 y2 (Parts.cons k2 y2 Parts.nil))))).map
    (fun x => ⟨x.1, x.2.1, x.2.2.1, x.2.2.2.1⟩) (fun _ => rfl) (fun _ h => h.1)
theorem k23 : Codec Try.prog 23 (fun l : List Wrk => [aW l]) (fun l => l.length * 48 ≤ 140737488351232 ∧ ∀ w ∈ l, OW w) :=
  (Codec.slice Try.underlying23 (by rw [y29]; decide) y29 b29 dW k29).map id (fun _ => rfl) (fun _ h => ⟨h.1, h.2.2⟩)
structure OM (m : Mp) : Prop where
  r : m.rs.length * 96 ≤ 140737488351232
  w : m.ws.length * 48 ≤ 140737488351232
  s : ∀ w ∈ m.ws, OW w
theorem k25 : Codec Try.prog 25 cM OM :=
  (Codec.struct Try.underlying25 (by kernel_rfl) (by kernel_rfl) (Parts.cons k3 y3 (Parts.cons k22 y22 (Parts.cons k23 y23 Parts.nil)))).map
    (fun x => ⟨x.1, x.2.1, x.2.2.1⟩) (fun _ => rfl) (fun _ h => ⟨h.2.1, h.2.2.1.1, h.2.2.1.2⟩)
theorem OM.big {m : Mp} (h : OM m) : Big m := ⟨by have := h.r; omega, by have := h.w; omega, fun w hw => by have := h.s w hw; omega⟩
end Go.Proofs.Ytfbdlmenhoagmaa

namespace Go.Proofs.Ytfbdlmenhoagmaa
open Go Sy
set_option linter.unusedVariables false
def evL (n : Nat) : List Int := (List.range n).map fun i : Nat => (i : Int)
theorem ev_mem {n : Nat} {x : Int} : x ∈ evL n ↔ 0 ≤ x ∧ x < n := by
  unfold evL
  rw [List.mem_map]
  constructor
  · rintro ⟨i, hi, rfl⟩
    have := List.mem_range.1 hi
    omega
  · rintro ⟨h1, h2⟩
    exact ⟨x.toNat, List.mem_range.2 (by omega), by omega⟩
theorem rng_srt {n : Nat} : ∀ (k lo : Nat), lo + k ≤ n → Srt n lo ((List.range' lo k).map fun i : Nat => (i : Int))
  | 0, lo, h => trivial
  | k + 1, lo, h => by
    rw [List.range'_succ, List.map_cons]
    refine ⟨Int.le_refl _, by omega, ?_⟩
    have := rng_srt (n := n) k (lo + 1) (by omega)
    exact this
theorem ev_srt (n : Nat) : Srt n 0 (evL n) := by
  have := rng_srt (n := n) n 0 (by omega)
  unfold evL
  rw [List.range_eq_range']
  exact this
theorem ev_succ (n : Nat) : evL (n + 1) = evL n ++ [(n : Int)] := by
  unfold evL
  rw [List.range_succ, List.map_append]; rfl
theorem ev_len (n : Nat) : (evL n).length = n := by simp [evL]
theorem msk_ev (n : Nat) : msk (evL n) = 2 ^ n - 1 := by
  apply Nat.eq_of_testBit_eq
  intro i
  rw [(msk_bits fun x hx => (ev_mem.1 hx).1).b, Nat.testBit_two_pow_sub_one]
  congr 1
  rw [ev_mem, eq_iff_iff]
  omega
theorem limL_iff {m : Mp} {road k : Nat} {b : Int} : ∀ {l : List Int} {a : Int}, l.foldl (fun n x => limS m road k n x.toNat) a ≤ b ↔ a ≤ b ∧ ∀ x ∈ l, ((gw m x.toNat).k = k ∧ (road : Int) ∈ (gw m x.toNat).rs) → (gw m x.toNat).l ≤ b
  | [], a => by simp
  | x :: l, a => by
    rw [List.foldl_cons, limL_iff]
    unfold limS
    constructor
    · rintro ⟨h1, h2⟩
      by_cases q : (gw m x.toNat).k = k ∧ (road : Int) ∈ (gw m x.toNat).rs
      · rw [if_pos q] at h1
        refine ⟨by omega, fun y hy hq => ?_⟩
        rcases List.mem_cons.1 hy with rfl | hy
        · omega
        · exact h2 y hy hq
      · rw [if_neg q] at h1
        refine ⟨h1, fun y hy hq => ?_⟩
        rcases List.mem_cons.1 hy with rfl | hy
        · exact absurd hq q
        · exact h2 y hy hq
    · rintro ⟨h1, h2⟩
      refine ⟨?_, fun y hy hq => h2 y (List.mem_cons_of_mem _ hy) hq⟩
      split
      · rename_i q
        have := h2 x List.mem_cons_self q
        omega
      · exact h1
theorem setB_at {l : List Int} {n : Int} (h : setB l n = true) : ∀ i, i < l.length → lastI l i < gi l i ∧ gi l i < n := fun i hi => by
  unfold setB at h
  rw [List.all_eq_true] at h
  have := h i (List.mem_range.2 hi)
  unfold okAt at this
  rwa [Bool.and_eq_true, decide_eq_true_eq, decide_eq_true_eq] at this
theorem srt_of {n : Int} : ∀ (l : List Int) (lo : Int), (∀ i, i < l.length → (if i = 0 then lo - 1 else gi l (i - 1)) < gi l i ∧ gi l i < n) → Srt n lo l
  | [], lo, _ => trivial
  | x :: l, lo, h => by
    have h0 := h 0 (by simp)
    rw [if_pos rfl] at h0
    have e0 : gi (x :: l) 0 = x := rfl
    rw [e0] at h0
    refine ⟨by omega, h0.2, srt_of l (x + 1) (fun i hi => ?_)⟩
    have h1 := h (i + 1) (by simpa using hi)
    rw [if_neg (by omega)] at h1
    have e1 : gi (x :: l) (i + 1) = gi l i := by simp [gi]
    rw [e1] at h1
    by_cases q : i = 0
    · rw [if_pos q]
      subst q
      have e2 : gi (x :: l) (0 + 1 - 1) = x := rfl
      rw [e2] at h1
      exact ⟨by omega, h1.2⟩
    · rw [if_neg q]
      have e2 : gi (x :: l) (i + 1 - 1) = gi l (i - 1) := by
        obtain ⟨j, rfl⟩ : ∃ j, i = j + 1 := ⟨i - 1, by omega⟩
        simp [gi]
      rw [e2] at h1
      exact h1
theorem setB_srt {l : List Int} {n : Int} (h : setB l n = true) : Srt n 0 l := srt_of l 0 (fun i hi => by
  have := setB_at h i hi
  unfold lastI at this
  split <;> rename_i q
  · rw [if_pos q] at this; omega
  · rw [if_neg q] at this; exact this)
theorem Wk.pre {es : List Edg} {e : Edg} (he : e ∈ es) (hc : 0 ≤ e.c) {y : Nat} {d : Int} (h : Wk es e.y y d) : Wk es e.x y (e.c + d) := by
  induction h with
  | nil => rw [show e.c + 0 = 0 + e.c by omega]; exact .snoc .nil he hc
  | snoc _ h2 h3 ih => rw [← Int.add_assoc]; exact .snoc ih h2 h3
theorem Wk.rev {m : Mp} {c : Nat → Int} {bk : Bool} {s y : Nat} {d : Int} (h : Wk (edgC m bk c) s y d) : Wk (edgC m (!bk) c) y s d := by
  induction h with
  | nil => exact .nil
  | snoc _ h2 h3 ih =>
    rename_i e d' _
    obtain ⟨i, hi, rfl⟩ := List.mem_map.1 h2
    have e1 : (edC m (!bk) c i).x = (edC m bk c i).y := by cases bk <;> rfl
    have e2 : (edC m (!bk) c i).y = (edC m bk c i).x := by cases bk <;> rfl
    have e3 : (edC m (!bk) c i).c = (edC m bk c i).c := by cases bk <;> rfl
    rw [← e2] at ih
    have := Wk.pre (List.mem_map.2 ⟨i, hi, rfl⟩) (by rw [e3]; exact h3) ih
    rw [e1, e3] at this
    rw [Int.add_comm]
    exact this
theorem dist_bound {es : List Edg} {s n : Nat} {os : List Int} (hr : ∀ e ∈ es, e.x < n ∧ e.y < n) (hp : ∀ e ∈ es, 0 ≤ e.c → 1 ≤ e.c ∧ e.c ≤ 1073741824) (h : Dst es s n os) (hf : Fix es os) : ∀ (k y : Nat), rk os n y ≤ k → y < n → gi os y < far → gi os y ≤ k * 1073741824
  | 0, y, hk, hy, hl => by
    rcases last_road hr h hf hy hl with rfl | ⟨e, he, h1, h2, h3⟩
    · rw [h.src]; omega
    · have := rk_lt (os := os) (x := e.x) (y := y) (hr e he).1 (by have := hp e he h2; omega)
      omega
  | k + 1, y, hk, hy, hl => by
    rcases last_road hr h hf hy hl with rfl | ⟨e, he, h1, h2, h3⟩
    · rw [h.src]; omega
    · have hc := hp e he h2
      have := rk_lt (os := os) (x := e.x) (y := y) (hr e he).1 (by omega)
      have := dist_bound hr hp h hf k e.x (by omega) (hr e he).1 (by omega)
      push_cast
      omega
theorem fin_iff {m : Mp} (h : OkM m) (f : Nat → Int) (s : List Int) (bk : Bool) {to : Int} (ht : 0 ≤ to ∧ to < m.n) {y : Nat} (hy : y < m.n.toNat) : (gi (dstC m bk (cU m f s) to) y < far → gi (dstC m bk (cU m f s) to) y ≤ 68719476736) := by
  obtain ⟨h1, h2⟩ := dL_dst h f s bk ht
  obtain ⟨k1, k2⟩ := edgC_ok h bk (c := cU m f s) (fun i hi => (cU_rng h f s hi).1)
  intro hl
  have hp : ∀ e ∈ edgC m bk (cU m f s), 0 ≤ e.c → 1 ≤ e.c ∧ e.c ≤ 1073741824 := fun e he hc => by
    obtain ⟨i, hi, rfl⟩ := List.mem_map.1 he
    have ec : (edC m bk (cU m f s) i).c = cU m f s i := by unfold edC; split <;> rfl
    have := cU_rng h f s (List.mem_range.1 hi)
    rw [ec] at hc ⊢
    omega
  have := dist_bound k1 hp h1 h2 m.n.toNat y (rk_le _ _ _) hy hl
  have := h.n
  have : (m.n.toNat : Int) * 1073741824 ≤ 64 * 1073741824 := by omega
  omega
theorem us_edge {m : Mp} {f : Nat → Int} {s : List Int} {bk : Bool} {i : Nat} (hi : i < m.rs.length) (hu : usB m f s i = true) : edC m bk (cU m f s) i ∈ edgC m bk (cU m f s) ∧ (edC m bk (cU m f s) i).c = (gr m i).c := by
  refine ⟨List.mem_map.2 ⟨i, List.mem_range.2 hi, rfl⟩, ?_⟩
  have ec : (edC m bk (cU m f s) i).c = cU m f s i := by unfold edC; split <;> rfl
  rw [ec]; unfold cU edB; simp [hu]
theorem edge_us {m : Mp} {f : Nat → Int} {s : List Int} {bk : Bool} {e : Edg} (he : e ∈ edgC m bk (cU m f s)) (hc : 0 ≤ e.c) : ∃ i, i < m.rs.length ∧ e = edC m bk (cU m f s) i ∧ usB m f s i = true := by
  obtain ⟨i, hi, rfl⟩ := List.mem_map.1 he
  refine ⟨i, List.mem_range.1 hi, rfl, ?_⟩
  have ec : (edC m bk (cU m f s) i).c = cU m f s i := by unfold edC; split <;> rfl
  rw [ec] at hc
  apply Classical.byContradiction
  intro z
  have : cU m f s i = -1 := by unfold cU edB; simp [z]
  omega
def rcP (m : Mp) (f : Nat → Int) (s : List Int) (a : Int) (i : Int) : Bool := decide (gi (dstC m false (cU m f s) a) i.toNat < 1125899906842624)
def rcL (m : Mp) (f : Nat → Int) (s : List Int) (a : Int) : List Int := (evL m.n.toNat).filter (rcP m f s a)
def cutB (m : Mp) (f : Nat → Int) (l : List Int) (i : Nat) : Bool := decide ((gr m i).f ∈ l) && !decide ((gr m i).t ∈ l) && usB m f (evL m.ws.length) i
def ctE (m : Mp) (f : Nat → Int) (fr to : Int) (l : List Int) : Int :=
  if opE m f = 0 then (if plB m.n fr = true ∧ plB m.n to = true then (if setB l m.n = true then (if fr ∈ l ∧ to ∉ l then (if (List.range m.rs.length).any (cutB m f l) = true then 16 else 0) else 16) else 3) else 3) else opE m f
end Go.Proofs.Ytfbdlmenhoagmaa

namespace Go.Proofs.Ytfbdlmenhoagmaa
open Go Sy
set_option maxRecDepth 100000
set_option maxHeartbeats 4000000
set_option linter.unusedVariables false
set_option linter.unusedSimpArgs false
theorem fn77 (m : Mp) (f : Nat → Int) (h : m.ws.length ≤ 10) : Sy.Fn Try.prog 77 [aAt m f] (uv (msk (evL m.ws.length))) := by
  refine Fn_of_W mixed Xt77 rfl ?_
  rw [msk_ev]
  obtain ⟨n, hn⟩ : ∃ n, n = m.ws.length := ⟨_, rfl⟩
  rw [← hn] at h ⊢
  have e : IntKind.u64.wrap (IntKind.u64.wrap (1 * 2 ^ min n IntKind.u64.bits) - 1) = ((2 ^ n - 1 : Nat) : Int) := by
    have : n = 0 ∨ n = 1 ∨ n = 2 ∨ n = 3 ∨ n = 4 ∨ n = 5 ∨ n = 6 ∨ n = 7 ∨ n = 8 ∨ n = 9 ∨ n = 10 := by omega
    rcases this with rfl | rfl | rfl | rfl | rfl | rfl | rfl | rfl | rfl | rfl | rfl <;> decide
  repeat' (first | refine WK_go ?_ | refine W_seqL ?_ | refine W_seq ?_ | refine W_block ?_ | refine W_scp ?_ | ((first | refine W_regL ?_ | refine W_skip ?_ | refine W_exit ?_); simp (maxSteps := 400000) (disch := omega) only [push_cast, ↓reduceIte, reduceCtorEq, Nat.reduceAdd, Nat.reduceSub, Nat.reduceEqDiff, Nat.reduceLeDiff, Nat.reduceLT, Nat.reduceBEq, Nat.reduceDiv, Nat.reduceMod, Nat.reducePow, Nat.reduceMul, Int.reduceToNat, Int.reduceLT, Int.reduceLE, ← hn, e]) | refine And.intro (by omega) ?_ | refine And.intro (by intro hq; (try simp only [Bool.and_eq_true, Bool.or_eq_true, Bool.and_eq_false_iff, Bool.or_eq_false_iff, decide_eq_true_eq, decide_eq_false_iff_not, Bool.not_eq_true', Bool.not_eq_false', beq_iff_eq, beq_eq_false_iff_ne, ne_eq] at hq); omega) ?_ | fail)
  exact W_ret ⟨[_], ⟨rfl, rfl⟩, rfl⟩
theorem fn76 (l : List Int) (n : Nat) (hn : n ≤ 10) (hs : Srt n 0 l) : Sy.Fn Try.prog 76 [aI l] (uv (msk l)) := by
  refine Fn_of_W mixed Xt76 rfl ?_
  have hl := hs.len (by omega)
  repeat' (first | refine WK_go ?_ | refine W_seqL ?_ | refine W_seq ?_ | refine W_block ?_ | refine W_scp ?_ | ((first | refine W_regL ?_ | refine W_skip ?_ | refine W_exit ?_); simp (maxSteps := 400000) (disch := omega) only [push_cast, ↓reduceIte, reduceCtorEq, Nat.reduceAdd, Nat.reduceSub, Nat.reduceEqDiff, Nat.reduceLeDiff, Nat.reduceLT, Nat.reduceBEq, Nat.reduceDiv, Nat.reduceMod, Nat.reducePow, Nat.reduceMul, Int.reduceToNat, Int.reduceLT, Int.reduceLE]) | refine And.intro (by omega) ?_ | refine And.intro (by intro hq; (try simp only [Bool.and_eq_true, Bool.or_eq_true, Bool.and_eq_false_iff, Bool.or_eq_false_iff, decide_eq_true_eq, decide_eq_false_iff_not, Bool.not_eq_true', Bool.not_eq_false', beq_iff_eq, beq_eq_false_iff_ne, ne_eq] at hq); omega) ?_ | fail)
  refine W_loopU (fun i : Nat => [(3, uv (msk (l.take i))), (8, iv i)]) (fun i => []) (fun i => i ≤ l.length) (fun i => l.length - i) 0 (by omega) (by rfl) (by rfl) (fun i hi => ?_)
  simp (maxSteps := 400000) (disch := omega) only [push_cast, ↓reduceIte, reduceCtorEq, Nat.reduceAdd, Nat.reduceSub, Nat.reduceEqDiff, Nat.reduceLeDiff, Nat.reduceLT, Nat.reduceBEq, Nat.reduceDiv, Nat.reduceMod, Nat.reducePow, Nat.reduceMul, Int.reduceToNat, Int.reduceLT, Int.reduceLE]
  repeat' (first | refine WK_go ?_ | refine W_seqL ?_ | refine W_seq ?_ | refine W_block ?_ | refine W_scp ?_ | ((first | refine W_regL ?_ | refine W_skip ?_ | refine W_exit ?_); simp (maxSteps := 400000) (disch := omega) only [push_cast, ↓reduceIte, reduceCtorEq, Nat.reduceAdd, Nat.reduceSub, Nat.reduceEqDiff, Nat.reduceLeDiff, Nat.reduceLT, Nat.reduceBEq, Nat.reduceDiv, Nat.reduceMod, Nat.reducePow, Nat.reduceMul, Int.reduceToNat, Int.reduceLT, Int.reduceLE]) | refine And.intro (by omega) ?_ | refine And.intro (by intro hq; (try simp only [Bool.and_eq_true, Bool.or_eq_true, Bool.and_eq_false_iff, Bool.or_eq_false_iff, decide_eq_true_eq, decide_eq_false_iff_not, Bool.not_eq_true', Bool.not_eq_false', beq_iff_eq, beq_eq_false_iff_ne, ne_eq] at hq); omega) ?_ | fail)
  refine W_condD (by rfl) (fun h5 => ?_) (fun h5 => ?_)
  · have hlt : i < l.length := by omega
    have hm := hs.mem _ (getD_mem 0 l i hlt)
    obtain ⟨j, hj⟩ : ∃ j : Nat, l.getD i 0 = j := ⟨(l.getD i 0).toNat, by omega⟩
    have htk : l.take (i + 1) = l.take i ++ [(j : Int)] := by rw [take_snoc hlt]; show _ = _; rw [← hj]
    have e5 := or_msk (x := l.take i) (j := j) (by
      have h1 : ∀ x ∈ l.take i, 0 ≤ x ∧ x < n := fun x hx => hs.mem x (List.mem_of_mem_take hx)
      have := bits_lt (n := 10) (msk_bits fun x hx => (h1 x hx).1) (fun x hx => by have := h1 x hx; omega)
      simpa using this) (by omega)
    rw [← htk] at e5
    repeat' (first | refine WK_go ?_ | refine W_seqL ?_ | refine W_seq ?_ | refine W_block ?_ | refine W_scp ?_ | ((first | refine W_regL ?_ | refine W_skip ?_ | refine W_exit ?_); simp (maxSteps := 400000) (disch := omega) only [push_cast, ↓reduceIte, reduceCtorEq, Nat.reduceAdd, Nat.reduceSub, Nat.reduceEqDiff, Nat.reduceLeDiff, Nat.reduceLT, Nat.reduceBEq, Nat.reduceDiv, Nat.reduceMod, Nat.reducePow, Nat.reduceMul, Int.reduceToNat, Int.reduceLT, Int.reduceLE, hj, e5, Int.toNat_natCast]) | refine And.intro (by omega) ?_ | refine And.intro (by intro hq; (try simp only [Bool.and_eq_true, Bool.or_eq_true, Bool.and_eq_false_iff, Bool.or_eq_false_iff, decide_eq_true_eq, decide_eq_false_iff_not, Bool.not_eq_true', Bool.not_eq_false', beq_iff_eq, beq_eq_false_iff_ne, ne_eq] at hq); omega) ?_ | fail)
    refine ⟨i + 1, by omega, by omega, by rfl, ?_⟩
    simp (maxSteps := 400000) (disch := omega) only [push_cast, ↓reduceIte, reduceCtorEq, Nat.reduceAdd, Nat.reduceSub, Nat.reduceEqDiff, Nat.reduceLeDiff, Nat.reduceLT, Nat.reduceBEq, Nat.reduceDiv, Nat.reduceMod, Nat.reducePow, Nat.reduceMul, Int.reduceToNat, Int.reduceLT, Int.reduceLE, S.mk.injEq, List.cons.injEq, Prod.mk.injEq, AV.v.injEq, Value.int.injEq, Value.bool.injEq, Blk.cells.injEq]
  · have hil : i = l.length := by omega
    subst hil
    rw [List.take_length]
    repeat' (first | refine WK_go ?_ | refine W_seqL ?_ | refine W_seq ?_ | refine W_block ?_ | refine W_scp ?_ | ((first | refine W_regL ?_ | refine W_skip ?_ | refine W_exit ?_); simp (maxSteps := 400000) (disch := omega) only [push_cast, ↓reduceIte, reduceCtorEq, Nat.reduceAdd, Nat.reduceSub, Nat.reduceEqDiff, Nat.reduceLeDiff, Nat.reduceLT, Nat.reduceBEq, Nat.reduceDiv, Nat.reduceMod, Nat.reducePow, Nat.reduceMul, Int.reduceToNat, Int.reduceLT, Int.reduceLE]) | refine And.intro (by omega) ?_ | refine And.intro (by intro hq; (try simp only [Bool.and_eq_true, Bool.or_eq_true, Bool.and_eq_false_iff, Bool.or_eq_false_iff, decide_eq_true_eq, decide_eq_false_iff_not, Bool.not_eq_true', Bool.not_eq_false', beq_iff_eq, beq_eq_false_iff_ne, ne_eq] at hq); omega) ?_ | fail)
    exact W_ret ⟨[_], ⟨rfl, rfl⟩, rfl⟩
def rcE (m : Mp) (f : Nat → Int) (s : List Int) (a : Int) : Int := if opE m f = 0 then (if setB s m.ws.length = true then (if plB m.n a = true then 0 else 3) else 3) else opE m f
def rcV (m : Mp) (f : Nat → Int) (s : List Int) (a : Int) : List Int := if rcE m f s a = 0 then rcL m f s a else []
theorem fil_succ (p : Int → Bool) (i : Nat) : (evL (i + 1)).filter p = (evL i).filter p ++ (if p i = true then [(i : Int)] else []) := by
  rw [ev_succ, List.filter_append]
  congr 1
  cases h : p (i : Int) <;> simp [List.filter, h]
theorem fn24 (m : Mp) (f : Nat → Int) (s : List Int) (a : Int) (hm : Gm m) (hl : s.length ≤ 1000000) : Sy.Fn Try.prog 24 [aM m, .agg (c6 f), aI s, iv a] (.tup [aI (rcV m f s a), iv (rcE m f s a)]) := by
  refine Fn_of_W mixed Xt24 rfl ?_
  have c52 := fn52 m f hm
  by_cases h0 : opE m f = 0
  rotate_left
  · have e1 : rcE m f s a = opE m f := by unfold rcE; rw [if_neg h0]
    have e2 : rcV m f s a = [] := by unfold rcV; rw [e1, if_neg h0]
    rw [e1, e2]
    have hv : opV m f = cAt m f ∨ opV m f = zAt := by
      unfold opV
      split
      · exact .inl rfl
      · exact .inr rfl
    generalize opE m f = e at *
    rcases hv with hv | hv
    all_goals
      rw [hv] at c52
      try unfold zAt at c52
      repeat' (first | refine WK_go ?_ | refine W_seqL ?_ | refine W_seq ?_ | refine W_block ?_ | refine W_scp ?_ | ((first | refine W_regL ?_ | refine W_skip ?_ | refine W_exit ?_ | refine CallC.now (c52) ?_); simp (maxSteps := 400000) (disch := omega) only [push_cast, ↓reduceIte, reduceCtorEq, Nat.reduceAdd, Nat.reduceSub, Nat.reduceEqDiff, Nat.reduceLeDiff, Nat.reduceLT, Nat.reduceBEq, Nat.reduceDiv, Nat.reduceMod, Nat.reducePow, Nat.reduceMul, Int.reduceToNat, Int.reduceLT, Int.reduceLE]) | refine And.intro (by omega) ?_ | refine And.intro (by intro hq; (try simp only [Bool.and_eq_true, Bool.or_eq_true, Bool.and_eq_false_iff, Bool.or_eq_false_iff, decide_eq_true_eq, decide_eq_false_iff_not, Bool.not_eq_true', Bool.not_eq_false', beq_iff_eq, beq_eq_false_iff_ne, ne_eq] at hq); omega) ?_ | fail)
      refine W_cond (by rfl) (fun h => ?_) (fun h => ?_)
      · repeat' (first | refine WK_go ?_ | refine W_seqL ?_ | refine W_seq ?_ | refine W_block ?_ | refine W_scp ?_ | ((first | refine W_regL ?_ | refine W_skip ?_ | refine W_exit ?_); simp (maxSteps := 400000) (disch := omega) only [push_cast, ↓reduceIte, reduceCtorEq, Nat.reduceAdd, Nat.reduceSub, Nat.reduceEqDiff, Nat.reduceLeDiff, Nat.reduceLT, Nat.reduceBEq, Nat.reduceDiv, Nat.reduceMod, Nat.reducePow, Nat.reduceMul, Int.reduceToNat, Int.reduceLT, Int.reduceLE]) | refine And.intro (by omega) ?_ | refine And.intro (by intro hq; (try simp only [Bool.and_eq_true, Bool.or_eq_true, Bool.and_eq_false_iff, Bool.or_eq_false_iff, decide_eq_true_eq, decide_eq_false_iff_not, Bool.not_eq_true', Bool.not_eq_false', beq_iff_eq, beq_eq_false_iff_ne, ne_eq] at hq); omega) ?_ | fail)
        refine W_le (le_nil 8 1 0 cI rfl) ?_
        exact W_ret ⟨[_, _], ⟨rfl, rfl, rfl⟩, rfl⟩
      · exact absurd (by simpa using h) h0
  have hchk : chkM m = 0 ∧ szE f = 0 := by
    unfold opE at h0
    by_cases q : chkM m = 0
    · rw [if_pos q] at h0; exact ⟨q, h0⟩
    · rw [if_neg q] at h0; exact absurd h0 q
  have hv : opV m f = cAt m f := by unfold opV; rw [if_pos hchk.1]
  have hok := chkM_ok hchk.1
  rw [hv, h0] at c52
  repeat' (first | refine WK_go ?_ | refine W_seqL ?_ | refine W_seq ?_ | refine W_block ?_ | refine W_scp ?_ | ((first | refine W_regL ?_ | refine W_skip ?_ | refine W_exit ?_ | refine CallC.now (c52) ?_); simp (maxSteps := 400000) (disch := omega) only [push_cast, ↓reduceIte, reduceCtorEq, Nat.reduceAdd, Nat.reduceSub, Nat.reduceEqDiff, Nat.reduceLeDiff, Nat.reduceLT, Nat.reduceBEq, Nat.reduceDiv, Nat.reduceMod, Nat.reducePow, Nat.reduceMul, Int.reduceToNat, Int.reduceLT, Int.reduceLE]) | refine And.intro (by omega) ?_ | refine And.intro (by intro hq; (try simp only [Bool.and_eq_true, Bool.or_eq_true, Bool.and_eq_false_iff, Bool.or_eq_false_iff, decide_eq_true_eq, decide_eq_false_iff_not, Bool.not_eq_true', Bool.not_eq_false', beq_iff_eq, beq_eq_false_iff_ne, ne_eq] at hq); omega) ?_ | fail)
  refine W_cond (by rfl) (fun h => by cases h) (fun h => ?_)
  have c73 := fn73 s m.ws.length (by omega)
  by_cases h1 : setB s m.ws.length = true
  rotate_left
  · have e1 : rcE m f s a = 3 := by unfold rcE; rw [if_pos h0, if_neg h1]
    have e2 : rcV m f s a = [] := by unfold rcV; rw [e1]; rfl
    rw [Bool.not_eq_true] at h1
    rw [h1] at c73
    rw [e1, e2]
    repeat' (first | refine WK_go ?_ | refine W_seqL ?_ | refine W_seq ?_ | refine W_block ?_ | refine W_scp ?_ | ((first | refine W_regL ?_ | refine W_skip ?_ | refine W_exit ?_ | refine CallC.now (c73) ?_); simp (maxSteps := 400000) (disch := omega) only [push_cast, ↓reduceIte, reduceCtorEq, Nat.reduceAdd, Nat.reduceSub, Nat.reduceEqDiff, Nat.reduceLeDiff, Nat.reduceLT, Nat.reduceBEq, Nat.reduceDiv, Nat.reduceMod, Nat.reducePow, Nat.reduceMul, Int.reduceToNat, Int.reduceLT, Int.reduceLE]) | refine And.intro (by omega) ?_ | refine And.intro (by intro hq; (try simp only [Bool.and_eq_true, Bool.or_eq_true, Bool.and_eq_false_iff, Bool.or_eq_false_iff, decide_eq_true_eq, decide_eq_false_iff_not, Bool.not_eq_true', Bool.not_eq_false', beq_iff_eq, beq_eq_false_iff_ne, ne_eq] at hq); omega) ?_ | fail)
    refine W_cond (by rfl) (fun h => ?_) (fun h => by cases h)
    repeat' (first | refine WK_go ?_ | refine W_seqL ?_ | refine W_seq ?_ | refine W_block ?_ | refine W_scp ?_ | ((first | refine W_regL ?_ | refine W_skip ?_ | refine W_exit ?_); simp (maxSteps := 400000) (disch := omega) only [push_cast, ↓reduceIte, reduceCtorEq, Nat.reduceAdd, Nat.reduceSub, Nat.reduceEqDiff, Nat.reduceLeDiff, Nat.reduceLT, Nat.reduceBEq, Nat.reduceDiv, Nat.reduceMod, Nat.reducePow, Nat.reduceMul, Int.reduceToNat, Int.reduceLT, Int.reduceLE]) | refine And.intro (by omega) ?_ | refine And.intro (by intro hq; (try simp only [Bool.and_eq_true, Bool.or_eq_true, Bool.and_eq_false_iff, Bool.or_eq_false_iff, decide_eq_true_eq, decide_eq_false_iff_not, Bool.not_eq_true', Bool.not_eq_false', beq_iff_eq, beq_eq_false_iff_ne, ne_eq] at hq); omega) ?_ | fail)
    refine W_le (le_nil 8 1 0 cI rfl) ?_
    exact W_ret ⟨[_, _], ⟨rfl, rfl, rfl⟩, rfl⟩
  rw [h1] at c73
  have hss := setB_srt h1
  repeat' (first | refine WK_go ?_ | refine W_seqL ?_ | refine W_seq ?_ | refine W_block ?_ | refine W_scp ?_ | ((first | refine W_regL ?_ | refine W_skip ?_ | refine W_exit ?_ | refine CallC.now (c73) ?_); simp (maxSteps := 400000) (disch := omega) only [push_cast, ↓reduceIte, reduceCtorEq, Nat.reduceAdd, Nat.reduceSub, Nat.reduceEqDiff, Nat.reduceLeDiff, Nat.reduceLT, Nat.reduceBEq, Nat.reduceDiv, Nat.reduceMod, Nat.reducePow, Nat.reduceMul, Int.reduceToNat, Int.reduceLT, Int.reduceLE]) | refine And.intro (by omega) ?_ | refine And.intro (by intro hq; (try simp only [Bool.and_eq_true, Bool.or_eq_true, Bool.and_eq_false_iff, Bool.or_eq_false_iff, decide_eq_true_eq, decide_eq_false_iff_not, Bool.not_eq_true', Bool.not_eq_false', beq_iff_eq, beq_eq_false_iff_ne, ne_eq] at hq); omega) ?_ | fail)
  refine W_cond (by rfl) (fun h => by cases h) (fun h => ?_)
  have c53 := fn53 m [a] (by simp)
  have hpl : plsB m [a] = plB m.n a := by simp [plsB]
  rw [hpl] at c53
  by_cases h2 : plB m.n a = true
  rotate_left
  · have e1 : rcE m f s a = 3 := by unfold rcE; rw [if_pos h0, if_pos h1, if_neg h2]
    have e2 : rcV m f s a = [] := by unfold rcV; rw [e1]; rfl
    rw [Bool.not_eq_true] at h2
    rw [h2] at c53
    rw [e1, e2]
    repeat' (first | refine WK_go ?_ | refine W_seqL ?_ | refine W_seq ?_ | refine W_block ?_ | refine W_scp ?_ | ((first | refine W_regL ?_ | refine W_skip ?_ | refine W_exit ?_); simp (maxSteps := 400000) (disch := omega) only [push_cast, ↓reduceIte, reduceCtorEq, Nat.reduceAdd, Nat.reduceSub, Nat.reduceEqDiff, Nat.reduceLeDiff, Nat.reduceLT, Nat.reduceBEq, Nat.reduceDiv, Nat.reduceMod, Nat.reducePow, Nat.reduceMul, Int.reduceToNat, Int.reduceLT, Int.reduceLE]) | refine And.intro (by omega) ?_ | refine And.intro (by intro hq; (try simp only [Bool.and_eq_true, Bool.or_eq_true, Bool.and_eq_false_iff, Bool.or_eq_false_iff, decide_eq_true_eq, decide_eq_false_iff_not, Bool.not_eq_true', Bool.not_eq_false', beq_iff_eq, beq_eq_false_iff_ne, ne_eq] at hq); omega) ?_ | fail)
    refine ⟨rfl, trivial, Int, 0, cI, [a], rfl, by omega, fun x _ => ⟨rfl, rfl⟩, rfl, ?_⟩
    simp (maxSteps := 400000) (disch := omega) only [push_cast, ↓reduceIte, reduceCtorEq, Nat.reduceAdd, Nat.reduceSub, Nat.reduceEqDiff, Nat.reduceLeDiff, Nat.reduceLT, Nat.reduceBEq, Nat.reduceDiv, Nat.reduceMod, Nat.reducePow, Nat.reduceMul, Int.reduceToNat, Int.reduceLT, Int.reduceLE]
    repeat' (first | refine WK_go ?_ | refine W_seqL ?_ | refine W_seq ?_ | refine W_block ?_ | refine W_scp ?_ | ((first | refine W_regL ?_ | refine W_skip ?_ | refine W_exit ?_ | refine CallC.go _ (fun _ => ⟨trivial, c53⟩) rfl ?_); simp (maxSteps := 400000) (disch := omega) only [push_cast, ↓reduceIte, reduceCtorEq, Nat.reduceAdd, Nat.reduceSub, Nat.reduceEqDiff, Nat.reduceLeDiff, Nat.reduceLT, Nat.reduceBEq, Nat.reduceDiv, Nat.reduceMod, Nat.reducePow, Nat.reduceMul, Int.reduceToNat, Int.reduceLT, Int.reduceLE]) | refine And.intro (by omega) ?_ | refine And.intro (by intro hq; (try simp only [Bool.and_eq_true, Bool.or_eq_true, Bool.and_eq_false_iff, Bool.or_eq_false_iff, decide_eq_true_eq, decide_eq_false_iff_not, Bool.not_eq_true', Bool.not_eq_false', beq_iff_eq, beq_eq_false_iff_ne, ne_eq] at hq); omega) ?_ | fail)
    refine W_cond (by rfl) (fun h => ?_) (fun h => by cases h)
    repeat' (first | refine WK_go ?_ | refine W_seqL ?_ | refine W_seq ?_ | refine W_block ?_ | refine W_scp ?_ | ((first | refine W_regL ?_ | refine W_skip ?_ | refine W_exit ?_); simp (maxSteps := 400000) (disch := omega) only [push_cast, ↓reduceIte, reduceCtorEq, Nat.reduceAdd, Nat.reduceSub, Nat.reduceEqDiff, Nat.reduceLeDiff, Nat.reduceLT, Nat.reduceBEq, Nat.reduceDiv, Nat.reduceMod, Nat.reducePow, Nat.reduceMul, Int.reduceToNat, Int.reduceLT, Int.reduceLE]) | refine And.intro (by omega) ?_ | refine And.intro (by intro hq; (try simp only [Bool.and_eq_true, Bool.or_eq_true, Bool.and_eq_false_iff, Bool.or_eq_false_iff, decide_eq_true_eq, decide_eq_false_iff_not, Bool.not_eq_true', Bool.not_eq_false', beq_iff_eq, beq_eq_false_iff_ne, ne_eq] at hq); omega) ?_ | fail)
    refine W_le (le_nil 8 1 0 cI rfl) ?_
    exact W_ret ⟨[_, _], ⟨rfl, rfl, rfl⟩, rfl⟩
  rw [h2] at c53
  have ha : 0 ≤ a ∧ a < m.n := by unfold plB at h2; simpa using h2
  have e1 : rcE m f s a = 0 := by unfold rcE; rw [if_pos h0, if_pos h1, if_pos h2]
  have e2 : rcV m f s a = rcL m f s a := by unfold rcV; rw [if_pos e1]
  rw [e1, e2]
  repeat' (first | refine WK_go ?_ | refine W_seqL ?_ | refine W_seq ?_ | refine W_block ?_ | refine W_scp ?_ | ((first | refine W_regL ?_ | refine W_skip ?_ | refine W_exit ?_); simp (maxSteps := 400000) (disch := omega) only [push_cast, ↓reduceIte, reduceCtorEq, Nat.reduceAdd, Nat.reduceSub, Nat.reduceEqDiff, Nat.reduceLeDiff, Nat.reduceLT, Nat.reduceBEq, Nat.reduceDiv, Nat.reduceMod, Nat.reducePow, Nat.reduceMul, Int.reduceToNat, Int.reduceLT, Int.reduceLE]) | refine And.intro (by omega) ?_ | refine And.intro (by intro hq; (try simp only [Bool.and_eq_true, Bool.or_eq_true, Bool.and_eq_false_iff, Bool.or_eq_false_iff, decide_eq_true_eq, decide_eq_false_iff_not, Bool.not_eq_true', Bool.not_eq_false', beq_iff_eq, beq_eq_false_iff_ne, ne_eq] at hq); omega) ?_ | fail)
  refine ⟨rfl, trivial, Int, 0, cI, [a], rfl, by omega, fun x _ => ⟨rfl, rfl⟩, rfl, ?_⟩
  simp (maxSteps := 400000) (disch := omega) only [push_cast, ↓reduceIte, reduceCtorEq, Nat.reduceAdd, Nat.reduceSub, Nat.reduceEqDiff, Nat.reduceLeDiff, Nat.reduceLT, Nat.reduceBEq, Nat.reduceDiv, Nat.reduceMod, Nat.reducePow, Nat.reduceMul, Int.reduceToNat, Int.reduceLT, Int.reduceLE]
  repeat' (first | refine WK_go ?_ | refine W_seqL ?_ | refine W_seq ?_ | refine W_block ?_ | refine W_scp ?_ | ((first | refine W_regL ?_ | refine W_skip ?_ | refine W_exit ?_ | refine CallC.go _ (fun _ => ⟨trivial, c53⟩) rfl ?_); simp (maxSteps := 400000) (disch := omega) only [push_cast, ↓reduceIte, reduceCtorEq, Nat.reduceAdd, Nat.reduceSub, Nat.reduceEqDiff, Nat.reduceLeDiff, Nat.reduceLT, Nat.reduceBEq, Nat.reduceDiv, Nat.reduceMod, Nat.reducePow, Nat.reduceMul, Int.reduceToNat, Int.reduceLT, Int.reduceLE]) | refine And.intro (by omega) ?_ | refine And.intro (by intro hq; (try simp only [Bool.and_eq_true, Bool.or_eq_true, Bool.and_eq_false_iff, Bool.or_eq_false_iff, decide_eq_true_eq, decide_eq_false_iff_not, Bool.not_eq_true', Bool.not_eq_false', beq_iff_eq, beq_eq_false_iff_ne, ne_eq] at hq); omega) ?_ | fail)
  refine W_cond (by rfl) (fun h => by cases h) (fun h => ?_)
  have c57 := dL_fn m f s a false hok hss ha
  have hdl := dL_len hok f s false ha
  have hp : rcP m f s a = fun i => decide (gi (dstC m false (cU m f s) a) i.toNat < 1125899906842624) := rfl
  unfold rcL
  rw [hp]
  clear hp
  generalize dstC m false (cU m f s) a = D at *
  have hn := hok.n
  obtain ⟨n, hnn⟩ : ∃ n : Nat, n = m.n.toNat := ⟨_, rfl⟩
  rw [← hnn] at hdl ⊢
  repeat' (first | refine WK_go ?_ | refine W_seqL ?_ | refine W_seq ?_ | refine W_block ?_ | refine W_scp ?_ | ((first | refine W_regL ?_ | refine W_skip ?_ | refine W_exit ?_ | refine CallC.now (fn76 s m.ws.length hok.nw hss) ?_ | refine CallC.now (fn58 m f (msk s)) ?_ | refine CallC.now (c57) ?_); simp (maxSteps := 400000) (disch := omega) only [push_cast, ↓reduceIte, reduceCtorEq, Nat.reduceAdd, Nat.reduceSub, Nat.reduceEqDiff, Nat.reduceLeDiff, Nat.reduceLT, Nat.reduceBEq, Nat.reduceDiv, Nat.reduceMod, Nat.reducePow, Nat.reduceMul, Int.reduceToNat, Int.reduceLT, Int.reduceLE]) | refine And.intro (by omega) ?_ | refine And.intro (by intro hq; (try simp only [Bool.and_eq_true, Bool.or_eq_true, Bool.and_eq_false_iff, Bool.or_eq_false_iff, decide_eq_true_eq, decide_eq_false_iff_not, Bool.not_eq_true', Bool.not_eq_false', beq_iff_eq, beq_eq_false_iff_ne, ne_eq] at hq); omega) ?_ | fail)
  refine W_le (le_adopt 13 3 1 (0 : Int) cI (by omega) rfl) ?_
  simp (maxSteps := 400000) (disch := omega) only [push_cast, ↓reduceIte, reduceCtorEq, Nat.reduceAdd, Nat.reduceSub, Nat.reduceEqDiff, Nat.reduceLeDiff, Nat.reduceLT, Nat.reduceBEq, Nat.reduceDiv, Nat.reduceMod, Nat.reducePow, Nat.reduceMul, Int.reduceToNat, Int.reduceLT, Int.reduceLE]
  obtain ⟨p, hp⟩ : ∃ p : Int → Bool, p = fun i => decide (gi D i.toNat < 1125899906842624) := ⟨_, rfl⟩
  rw [← hp]
  refine W_loopU (fun i : Nat => [(13, .row 38 ((evL i).filter p).length), (46, iv i)]) (fun i => [(38, .row ((evL i).filter p).length 3 1 0 cI ((evL i).filter p))]) (fun i => i ≤ n) (fun i => n - i) 0 (by omega) (by rfl) (by rfl) (fun i hi => ?_)
  have gI : ∀ (l : List Int) i, l.getD i 0 = gi l i := fun _ _ => rfl
  have hfl : ((evL i).filter p).length ≤ i := by have := List.length_filter_le p (evL i); rw [ev_len] at this; exact this
  have hfs := fil_succ p i
  have hpi : p (i : Int) = decide (gi D i < 1125899906842624) := by rw [hp]; rfl
  simp (maxSteps := 400000) (disch := omega) only [push_cast, ↓reduceIte, reduceCtorEq, Nat.reduceAdd, Nat.reduceSub, Nat.reduceEqDiff, Nat.reduceLeDiff, Nat.reduceLT, Nat.reduceBEq, Nat.reduceDiv, Nat.reduceMod, Nat.reducePow, Nat.reduceMul, Int.reduceToNat, Int.reduceLT, Int.reduceLE]
  repeat' (first | refine WK_go ?_ | refine W_seqL ?_ | refine W_seq ?_ | refine W_block ?_ | refine W_scp ?_ | ((first | refine W_regL ?_ | refine W_skip ?_ | refine W_exit ?_); simp (maxSteps := 400000) (disch := omega) only [push_cast, ↓reduceIte, reduceCtorEq, Nat.reduceAdd, Nat.reduceSub, Nat.reduceEqDiff, Nat.reduceLeDiff, Nat.reduceLT, Nat.reduceBEq, Nat.reduceDiv, Nat.reduceMod, Nat.reducePow, Nat.reduceMul, Int.reduceToNat, Int.reduceLT, Int.reduceLE]) | refine And.intro (by omega) ?_ | refine And.intro (by intro hq; (try simp only [Bool.and_eq_true, Bool.or_eq_true, Bool.and_eq_false_iff, Bool.or_eq_false_iff, decide_eq_true_eq, decide_eq_false_iff_not, Bool.not_eq_true', Bool.not_eq_false', beq_iff_eq, beq_eq_false_iff_ne, ne_eq] at hq); omega) ?_ | fail)
  refine W_condD (by rfl) (fun h5 => ?_) (fun h5 => ?_)
  · have hlt : i < n := by omega
    repeat' (first | refine WK_go ?_ | refine W_seqL ?_ | refine W_seq ?_ | refine W_block ?_ | refine W_scp ?_ | ((first | refine W_regL ?_ | refine W_skip ?_ | refine W_exit ?_); simp (maxSteps := 400000) (disch := omega) only [push_cast, ↓reduceIte, reduceCtorEq, Nat.reduceAdd, Nat.reduceSub, Nat.reduceEqDiff, Nat.reduceLeDiff, Nat.reduceLT, Nat.reduceBEq, Nat.reduceDiv, Nat.reduceMod, Nat.reducePow, Nat.reduceMul, Int.reduceToNat, Int.reduceLT, Int.reduceLE, gI]) | refine And.intro (by omega) ?_ | refine And.intro (by intro hq; (try simp only [Bool.and_eq_true, Bool.or_eq_true, Bool.and_eq_false_iff, Bool.or_eq_false_iff, decide_eq_true_eq, decide_eq_false_iff_not, Bool.not_eq_true', Bool.not_eq_false', beq_iff_eq, beq_eq_false_iff_ne, ne_eq] at hq); omega) ?_ | fail)
    refine W_cond (by rfl) (fun h6 => ?_) (fun h6 => ?_)
    · rw [hpi, h6, if_pos rfl] at hfs
      repeat' (first | refine WK_go ?_ | refine W_seqL ?_ | refine W_seq ?_ | refine W_block ?_ | refine W_scp ?_ | ((first | refine W_regL ?_ | refine W_skip ?_ | refine W_exit ?_); simp (maxSteps := 400000) (disch := omega) only [push_cast, ↓reduceIte, reduceCtorEq, Nat.reduceAdd, Nat.reduceSub, Nat.reduceEqDiff, Nat.reduceLeDiff, Nat.reduceLT, Nat.reduceBEq, Nat.reduceDiv, Nat.reduceMod, Nat.reducePow, Nat.reduceMul, Int.reduceToNat, Int.reduceLT, Int.reduceLE]) | refine And.intro (by omega) ?_ | refine And.intro (by intro hq; (try simp only [Bool.and_eq_true, Bool.or_eq_true, Bool.and_eq_false_iff, Bool.or_eq_false_iff, decide_eq_true_eq, decide_eq_false_iff_not, Bool.not_eq_true', Bool.not_eq_false', beq_iff_eq, beq_eq_false_iff_ne, ne_eq] at hq); omega) ?_ | fail)
      refine ⟨rfl, trivial, Int, 0, cI, [(i : Int)], rfl, by omega, fun x _ => ⟨rfl, rfl⟩, rfl, ?_⟩
      simp (maxSteps := 400000) (disch := omega) only [push_cast, ↓reduceIte, reduceCtorEq, Nat.reduceAdd, Nat.reduceSub, Nat.reduceEqDiff, Nat.reduceLeDiff, Nat.reduceLT, Nat.reduceBEq, Nat.reduceDiv, Nat.reduceMod, Nat.reducePow, Nat.reduceMul, Int.reduceToNat, Int.reduceLT, Int.reduceLE]
      refine ⟨rfl, ⟨Nat.le_of_ble_eq_true rfl, rfl⟩, trivial, [(i : Int)], rfl, by first | omega | (simp; omega), by first | omega | (simp; omega), ?_⟩
      simp (maxSteps := 400000) (disch := omega) only [push_cast, ↓reduceIte, reduceCtorEq, Nat.reduceAdd, Nat.reduceSub, Nat.reduceEqDiff, Nat.reduceLeDiff, Nat.reduceLT, Nat.reduceBEq, Nat.reduceDiv, Nat.reduceMod, Nat.reducePow, Nat.reduceMul, Int.reduceToNat, Int.reduceLT, Int.reduceLE]
      repeat' (first | refine WK_go ?_ | refine W_seqL ?_ | refine W_seq ?_ | refine W_block ?_ | refine W_scp ?_ | ((first | refine W_regL ?_ | refine W_skip ?_ | refine W_exit ?_); simp (maxSteps := 400000) (disch := omega) only [push_cast, ↓reduceIte, reduceCtorEq, Nat.reduceAdd, Nat.reduceSub, Nat.reduceEqDiff, Nat.reduceLeDiff, Nat.reduceLT, Nat.reduceBEq, Nat.reduceDiv, Nat.reduceMod, Nat.reducePow, Nat.reduceMul, Int.reduceToNat, Int.reduceLT, Int.reduceLE]) | refine And.intro (by omega) ?_ | refine And.intro (by intro hq; (try simp only [Bool.and_eq_true, Bool.or_eq_true, Bool.and_eq_false_iff, Bool.or_eq_false_iff, decide_eq_true_eq, decide_eq_false_iff_not, Bool.not_eq_true', Bool.not_eq_false', beq_iff_eq, beq_eq_false_iff_ne, ne_eq] at hq); omega) ?_ | fail)
      refine ⟨i + 1, by omega, by omega, by rfl, ?_⟩
      rw [hfs, List.length_append]
      simp (maxSteps := 400000) (disch := omega) only [push_cast, ↓reduceIte, reduceCtorEq, Nat.reduceAdd, Nat.reduceSub, Nat.reduceEqDiff, Nat.reduceLeDiff, Nat.reduceLT, Nat.reduceBEq, Nat.reduceDiv, Nat.reduceMod, Nat.reducePow, Nat.reduceMul, Int.reduceToNat, Int.reduceLT, Int.reduceLE, S.mk.injEq, List.cons.injEq, Prod.mk.injEq, AV.v.injEq, Value.int.injEq, Value.bool.injEq, Blk.cells.injEq]
    · rw [hpi, h6, if_neg (by decide), List.append_nil] at hfs
      repeat' (first | refine WK_go ?_ | refine W_seqL ?_ | refine W_seq ?_ | refine W_block ?_ | refine W_scp ?_ | ((first | refine W_regL ?_ | refine W_skip ?_ | refine W_exit ?_); simp (maxSteps := 400000) (disch := omega) only [push_cast, ↓reduceIte, reduceCtorEq, Nat.reduceAdd, Nat.reduceSub, Nat.reduceEqDiff, Nat.reduceLeDiff, Nat.reduceLT, Nat.reduceBEq, Nat.reduceDiv, Nat.reduceMod, Nat.reducePow, Nat.reduceMul, Int.reduceToNat, Int.reduceLT, Int.reduceLE]) | refine And.intro (by omega) ?_ | refine And.intro (by intro hq; (try simp only [Bool.and_eq_true, Bool.or_eq_true, Bool.and_eq_false_iff, Bool.or_eq_false_iff, decide_eq_true_eq, decide_eq_false_iff_not, Bool.not_eq_true', Bool.not_eq_false', beq_iff_eq, beq_eq_false_iff_ne, ne_eq] at hq); omega) ?_ | fail)
      refine ⟨i + 1, by omega, by omega, by rfl, ?_⟩
      rw [hfs]
      simp (maxSteps := 400000) (disch := omega) only [push_cast, ↓reduceIte, reduceCtorEq, Nat.reduceAdd, Nat.reduceSub, Nat.reduceEqDiff, Nat.reduceLeDiff, Nat.reduceLT, Nat.reduceBEq, Nat.reduceDiv, Nat.reduceMod, Nat.reducePow, Nat.reduceMul, Int.reduceToNat, Int.reduceLT, Int.reduceLE, S.mk.injEq, List.cons.injEq, Prod.mk.injEq, AV.v.injEq, Value.int.injEq, Value.bool.injEq, Blk.cells.injEq]
  · have hin : i = n := by omega
    rw [hin]
    repeat' (first | refine WK_go ?_ | refine W_seqL ?_ | refine W_seq ?_ | refine W_block ?_ | refine W_scp ?_ | ((first | refine W_regL ?_ | refine W_skip ?_ | refine W_exit ?_); simp (maxSteps := 400000) (disch := omega) only [push_cast, ↓reduceIte, reduceCtorEq, Nat.reduceAdd, Nat.reduceSub, Nat.reduceEqDiff, Nat.reduceLeDiff, Nat.reduceLT, Nat.reduceBEq, Nat.reduceDiv, Nat.reduceMod, Nat.reducePow, Nat.reduceMul, Int.reduceToNat, Int.reduceLT, Int.reduceLE]) | refine And.intro (by omega) ?_ | refine And.intro (by intro hq; (try simp only [Bool.and_eq_true, Bool.or_eq_true, Bool.and_eq_false_iff, Bool.or_eq_false_iff, decide_eq_true_eq, decide_eq_false_iff_not, Bool.not_eq_true', Bool.not_eq_false', beq_iff_eq, beq_eq_false_iff_ne, ne_eq] at hq); omega) ?_ | fail)
    refine W_ret ⟨[_, _], ⟨rfl, rfl, rfl⟩, ?_⟩
    simp (maxSteps := 400000) (disch := omega) only [push_cast, ↓reduceIte, reduceCtorEq, Nat.reduceAdd, Nat.reduceSub, Nat.reduceEqDiff, Nat.reduceLeDiff, Nat.reduceLT, Nat.reduceBEq, Nat.reduceDiv, Nat.reduceMod, Nat.reducePow, Nat.reduceMul, Int.reduceToNat, Int.reduceLT, Int.reduceLE, pack]
end Go.Proofs.Ytfbdlmenhoagmaa

namespace Go.Proofs.Ytfbdlmenhoagmaa
open Go Sy
set_option maxRecDepth 100000
set_option maxHeartbeats 4000000
set_option linter.unusedVariables false
set_option linter.unusedSimpArgs false
theorem range_any {p : Nat → Bool} {n i : Nat} (hi : i < n) (h : p i = true) : (List.range n).any p = true := List.any_eq_true.2 ⟨i, by simpa using hi, h⟩
theorem range_none {p : Nat → Bool} {n : Nat} (h : ∀ j, j < n → p j = false) : (List.range n).any p = false := by
  rw [← Bool.not_eq_true, List.any_eq_true]
  rintro ⟨x, hx, hp⟩
  rw [h x (List.mem_range.1 hx)] at hp
  cases hp
def cB (x : Bool) : List AV := [bv x]
theorem nB (x : Bool) : nth (cB x) 0 = bv x := rfl
theorem lB (x : Bool) : (cB x).length = 1 := rfl
theorem frB (x : Bool) : frzAll (cB x) = true := rfl
theorem tB (x : Bool) : List.take 1 (List.drop 0 (cB x)) = cB x := rfl
attribute [push_cast] nB lB frB tB
def tbB (n : Nat) (g : Nat → Bool) : List Bool := (List.range n).map g
theorem tbB_len (n : Nat) (g : Nat → Bool) : (tbB n g).length = n := by simp [tbB]
theorem tbB_at {n j : Nat} (g : Nat → Bool) (h : j < n) : (tbB n g).getD j false = g j := by simp [tbB, List.getD, h]
theorem tbB_set {n j : Nat} {g h : Nat → Bool} {v : Bool} (hj : h j = v) (hh : ∀ i, i < n → i ≠ j → g i = h i) : (tbB n g).set j v = tbB n h := by
  apply List.ext_getElem (by rw [List.length_set, tbB_len, tbB_len])
  intro i h1 h2
  rw [tbB_len] at h2
  rw [List.getElem_set]
  split
  · rename_i q; subst q; rw [← hj]; simp [tbB]
  · rename_i q
    simp only [tbB, List.getElem_map, List.getElem_range]
    exact hh i h2 (fun e => q e.symm)
theorem tbB_rep (n : Nat) (v : Bool) : tbB n (fun _ => v) = List.replicate n v := by
  unfold tbB
  rw [List.eq_replicate_iff]
  refine ⟨by simp, fun b hb => ?_⟩
  obtain ⟨i, _, rfl⟩ := List.mem_map.1 hb
  rfl
def inT (l : List Int) (i : Nat) : Bool := decide ((i : Int) ∈ l)
theorem inT_snoc {n : Nat} {l : List Int} {i : Nat} (h : i < l.length) (hr : 0 ≤ gi l i ∧ gi l i < n) : (tbB n (inT (l.take i))).set (gi l i).toNat true = tbB n (inT (l.take (i + 1))) := by
  rw [take_snoc h]
  refine tbB_set ?_ (fun j hj hne => ?_)
  · unfold inT
    rw [decide_eq_true_eq, List.mem_append]
    right
    rw [List.mem_singleton]; omega
  · unfold inT
    congr 1
    rw [List.mem_append, List.mem_singleton, eq_iff_iff]
    constructor
    · exact .inl
    · rintro (q | q)
      · exact q
      · omega
theorem fn23 (m : Mp) (f : Nat → Int) (fr to : Int) (l : List Int) (hm : Gm m) (hl : l.length ≤ 1000000) : Sy.Fn Try.prog 23 [aM m, .agg (c6 f), iv fr, iv to, aI l] (iv (ctE m f fr to l)) := by
  refine Fn_of_W mixed Xt23 rfl ?_
  have c52 := fn52 m f hm
  by_cases h0 : opE m f = 0
  rotate_left
  · have e1 : ctE m f fr to l = opE m f := by unfold ctE; rw [if_neg h0]
    rw [e1]
    have hv : opV m f = cAt m f ∨ opV m f = zAt := by
      unfold opV
      split
      · exact .inl rfl
      · exact .inr rfl
    generalize opE m f = e at *
    rcases hv with hv | hv
    all_goals
      rw [hv] at c52
      try unfold zAt at c52
      repeat' (first | refine WK_go ?_ | refine W_seqL ?_ | refine W_seq ?_ | refine W_block ?_ | refine W_scp ?_ | ((first | refine W_regL ?_ | refine W_skip ?_ | refine W_exit ?_ | refine CallC.now (c52) ?_); simp (maxSteps := 400000) (disch := omega) only [push_cast, ↓reduceIte, reduceCtorEq, Nat.reduceAdd, Nat.reduceSub, Nat.reduceEqDiff, Nat.reduceLeDiff, Nat.reduceLT, Nat.reduceBEq, Nat.reduceDiv, Nat.reduceMod, Nat.reducePow, Nat.reduceMul, Int.reduceToNat, Int.reduceLT, Int.reduceLE]) | refine And.intro (by omega) ?_ | refine And.intro (by intro hq; (try simp only [Bool.and_eq_true, Bool.or_eq_true, Bool.and_eq_false_iff, Bool.or_eq_false_iff, decide_eq_true_eq, decide_eq_false_iff_not, Bool.not_eq_true', Bool.not_eq_false', beq_iff_eq, beq_eq_false_iff_ne, ne_eq] at hq); omega) ?_ | fail)
      refine W_cond (by rfl) (fun h => ?_) (fun h => ?_)
      · repeat' (first | refine WK_go ?_ | refine W_seqL ?_ | refine W_seq ?_ | refine W_block ?_ | refine W_scp ?_ | ((first | refine W_regL ?_ | refine W_skip ?_ | refine W_exit ?_); simp (maxSteps := 400000) (disch := omega) only [push_cast, ↓reduceIte, reduceCtorEq, Nat.reduceAdd, Nat.reduceSub, Nat.reduceEqDiff, Nat.reduceLeDiff, Nat.reduceLT, Nat.reduceBEq, Nat.reduceDiv, Nat.reduceMod, Nat.reducePow, Nat.reduceMul, Int.reduceToNat, Int.reduceLT, Int.reduceLE]) | refine And.intro (by omega) ?_ | refine And.intro (by intro hq; (try simp only [Bool.and_eq_true, Bool.or_eq_true, Bool.and_eq_false_iff, Bool.or_eq_false_iff, decide_eq_true_eq, decide_eq_false_iff_not, Bool.not_eq_true', Bool.not_eq_false', beq_iff_eq, beq_eq_false_iff_ne, ne_eq] at hq); omega) ?_ | fail)
        exact W_ret ⟨[_], ⟨rfl, rfl⟩, rfl⟩
      · exact absurd (by simpa using h) h0
  have hchk : chkM m = 0 ∧ szE f = 0 := by
    unfold opE at h0
    by_cases q : chkM m = 0
    · rw [if_pos q] at h0; exact ⟨q, h0⟩
    · rw [if_neg q] at h0; exact absurd h0 q
  have hv : opV m f = cAt m f := by unfold opV; rw [if_pos hchk.1]
  have hok := chkM_ok hchk.1
  have hn := hok.n
  have hnr := hok.nr
  rw [hv, h0] at c52
  repeat' (first | refine WK_go ?_ | refine W_seqL ?_ | refine W_seq ?_ | refine W_block ?_ | refine W_scp ?_ | ((first | refine W_regL ?_ | refine W_skip ?_ | refine W_exit ?_ | refine CallC.now (c52) ?_); simp (maxSteps := 400000) (disch := omega) only [push_cast, ↓reduceIte, reduceCtorEq, Nat.reduceAdd, Nat.reduceSub, Nat.reduceEqDiff, Nat.reduceLeDiff, Nat.reduceLT, Nat.reduceBEq, Nat.reduceDiv, Nat.reduceMod, Nat.reducePow, Nat.reduceMul, Int.reduceToNat, Int.reduceLT, Int.reduceLE]) | refine And.intro (by omega) ?_ | refine And.intro (by intro hq; (try simp only [Bool.and_eq_true, Bool.or_eq_true, Bool.and_eq_false_iff, Bool.or_eq_false_iff, decide_eq_true_eq, decide_eq_false_iff_not, Bool.not_eq_true', Bool.not_eq_false', beq_iff_eq, beq_eq_false_iff_ne, ne_eq] at hq); omega) ?_ | fail)
  refine W_cond (by rfl) (fun h => by cases h) (fun h => ?_)
  have c53 := fn53 m [fr, to] (by simp)
  have hpl : plsB m [fr, to] = (plB m.n fr && plB m.n to) := by simp [plsB]
  rw [hpl] at c53
  repeat' (first | refine WK_go ?_ | refine W_seqL ?_ | refine W_seq ?_ | refine W_block ?_ | refine W_scp ?_ | ((first | refine W_regL ?_ | refine W_skip ?_ | refine W_exit ?_); simp (maxSteps := 400000) (disch := omega) only [push_cast, ↓reduceIte, reduceCtorEq, Nat.reduceAdd, Nat.reduceSub, Nat.reduceEqDiff, Nat.reduceLeDiff, Nat.reduceLT, Nat.reduceBEq, Nat.reduceDiv, Nat.reduceMod, Nat.reducePow, Nat.reduceMul, Int.reduceToNat, Int.reduceLT, Int.reduceLE]) | refine And.intro (by omega) ?_ | refine And.intro (by intro hq; (try simp only [Bool.and_eq_true, Bool.or_eq_true, Bool.and_eq_false_iff, Bool.or_eq_false_iff, decide_eq_true_eq, decide_eq_false_iff_not, Bool.not_eq_true', Bool.not_eq_false', beq_iff_eq, beq_eq_false_iff_ne, ne_eq] at hq); omega) ?_ | fail)
  refine ⟨rfl, trivial, Int, 0, cI, [fr, to], rfl, by omega, fun x _ => ⟨rfl, rfl⟩, rfl, ?_⟩
  simp (maxSteps := 400000) (disch := omega) only [push_cast, ↓reduceIte, reduceCtorEq, Nat.reduceAdd, Nat.reduceSub, Nat.reduceEqDiff, Nat.reduceLeDiff, Nat.reduceLT, Nat.reduceBEq, Nat.reduceDiv, Nat.reduceMod, Nat.reducePow, Nat.reduceMul, Int.reduceToNat, Int.reduceLT, Int.reduceLE]
  by_cases hp : plB m.n fr = true ∧ plB m.n to = true
  rotate_left
  · have e1 : ctE m f fr to l = 3 := by unfold ctE; rw [if_pos h0, if_neg hp]
    have e3 : (plB m.n fr && plB m.n to) = false := by rw [← Bool.not_eq_true, Bool.and_eq_true]; exact hp
    rw [e3] at c53
    rw [e1]
    repeat' (first | refine WK_go ?_ | refine W_seqL ?_ | refine W_seq ?_ | refine W_block ?_ | refine W_scp ?_ | ((first | refine W_regL ?_ | refine W_skip ?_ | refine W_exit ?_ | refine CallC.go _ (fun _ => ⟨trivial, c53⟩) rfl ?_); simp (maxSteps := 400000) (disch := omega) only [push_cast, ↓reduceIte, reduceCtorEq, Nat.reduceAdd, Nat.reduceSub, Nat.reduceEqDiff, Nat.reduceLeDiff, Nat.reduceLT, Nat.reduceBEq, Nat.reduceDiv, Nat.reduceMod, Nat.reducePow, Nat.reduceMul, Int.reduceToNat, Int.reduceLT, Int.reduceLE]) | refine And.intro (by omega) ?_ | refine And.intro (by intro hq; (try simp only [Bool.and_eq_true, Bool.or_eq_true, Bool.and_eq_false_iff, Bool.or_eq_false_iff, decide_eq_true_eq, decide_eq_false_iff_not, Bool.not_eq_true', Bool.not_eq_false', beq_iff_eq, beq_eq_false_iff_ne, ne_eq] at hq); omega) ?_ | fail)
    refine W_cond (by rfl) (fun h => ?_) (fun h => by cases h)
    repeat' (first | refine WK_go ?_ | refine W_seqL ?_ | refine W_seq ?_ | refine W_block ?_ | refine W_scp ?_ | ((first | refine W_regL ?_ | refine W_skip ?_ | refine W_exit ?_); simp (maxSteps := 400000) (disch := omega) only [push_cast, ↓reduceIte, reduceCtorEq, Nat.reduceAdd, Nat.reduceSub, Nat.reduceEqDiff, Nat.reduceLeDiff, Nat.reduceLT, Nat.reduceBEq, Nat.reduceDiv, Nat.reduceMod, Nat.reducePow, Nat.reduceMul, Int.reduceToNat, Int.reduceLT, Int.reduceLE]) | refine And.intro (by omega) ?_ | refine And.intro (by intro hq; (try simp only [Bool.and_eq_true, Bool.or_eq_true, Bool.and_eq_false_iff, Bool.or_eq_false_iff, decide_eq_true_eq, decide_eq_false_iff_not, Bool.not_eq_true', Bool.not_eq_false', beq_iff_eq, beq_eq_false_iff_ne, ne_eq] at hq); omega) ?_ | fail)
    exact W_ret ⟨[_], ⟨rfl, rfl⟩, rfl⟩
  have hp1 : (0 ≤ fr ∧ fr < m.n) ∧ (0 ≤ to ∧ to < m.n) := by
    have := hp.1; have := hp.2
    unfold plB at *
    simp only [Bool.and_eq_true, decide_eq_true_eq] at *
    omega
  have e3 : (plB m.n fr && plB m.n to) = true := by rw [hp.1, hp.2]; rfl
  rw [e3] at c53
  repeat' (first | refine WK_go ?_ | refine W_seqL ?_ | refine W_seq ?_ | refine W_block ?_ | refine W_scp ?_ | ((first | refine W_regL ?_ | refine W_skip ?_ | refine W_exit ?_ | refine CallC.go _ (fun _ => ⟨trivial, c53⟩) rfl ?_); simp (maxSteps := 400000) (disch := omega) only [push_cast, ↓reduceIte, reduceCtorEq, Nat.reduceAdd, Nat.reduceSub, Nat.reduceEqDiff, Nat.reduceLeDiff, Nat.reduceLT, Nat.reduceBEq, Nat.reduceDiv, Nat.reduceMod, Nat.reducePow, Nat.reduceMul, Int.reduceToNat, Int.reduceLT, Int.reduceLE]) | refine And.intro (by omega) ?_ | refine And.intro (by intro hq; (try simp only [Bool.and_eq_true, Bool.or_eq_true, Bool.and_eq_false_iff, Bool.or_eq_false_iff, decide_eq_true_eq, decide_eq_false_iff_not, Bool.not_eq_true', Bool.not_eq_false', beq_iff_eq, beq_eq_false_iff_ne, ne_eq] at hq); omega) ?_ | fail)
  refine W_cond (by rfl) (fun h => by cases h) (fun h => ?_)
  have c73 := fn73 l m.n (by omega)
  by_cases h1 : setB l m.n = true
  rotate_left
  · have e1 : ctE m f fr to l = 3 := by unfold ctE; rw [if_pos h0, if_pos hp, if_neg h1]
    rw [Bool.not_eq_true] at h1
    rw [h1] at c73
    rw [e1]
    repeat' (first | refine WK_go ?_ | refine W_seqL ?_ | refine W_seq ?_ | refine W_block ?_ | refine W_scp ?_ | ((first | refine W_regL ?_ | refine W_skip ?_ | refine W_exit ?_ | refine CallC.now (c73) ?_); simp (maxSteps := 400000) (disch := omega) only [push_cast, ↓reduceIte, reduceCtorEq, Nat.reduceAdd, Nat.reduceSub, Nat.reduceEqDiff, Nat.reduceLeDiff, Nat.reduceLT, Nat.reduceBEq, Nat.reduceDiv, Nat.reduceMod, Nat.reducePow, Nat.reduceMul, Int.reduceToNat, Int.reduceLT, Int.reduceLE]) | refine And.intro (by omega) ?_ | refine And.intro (by intro hq; (try simp only [Bool.and_eq_true, Bool.or_eq_true, Bool.and_eq_false_iff, Bool.or_eq_false_iff, decide_eq_true_eq, decide_eq_false_iff_not, Bool.not_eq_true', Bool.not_eq_false', beq_iff_eq, beq_eq_false_iff_ne, ne_eq] at hq); omega) ?_ | fail)
    refine W_cond (by rfl) (fun h => ?_) (fun h => by cases h)
    repeat' (first | refine WK_go ?_ | refine W_seqL ?_ | refine W_seq ?_ | refine W_block ?_ | refine W_scp ?_ | ((first | refine W_regL ?_ | refine W_skip ?_ | refine W_exit ?_); simp (maxSteps := 400000) (disch := omega) only [push_cast, ↓reduceIte, reduceCtorEq, Nat.reduceAdd, Nat.reduceSub, Nat.reduceEqDiff, Nat.reduceLeDiff, Nat.reduceLT, Nat.reduceBEq, Nat.reduceDiv, Nat.reduceMod, Nat.reducePow, Nat.reduceMul, Int.reduceToNat, Int.reduceLT, Int.reduceLE]) | refine And.intro (by omega) ?_ | refine And.intro (by intro hq; (try simp only [Bool.and_eq_true, Bool.or_eq_true, Bool.and_eq_false_iff, Bool.or_eq_false_iff, decide_eq_true_eq, decide_eq_false_iff_not, Bool.not_eq_true', Bool.not_eq_false', beq_iff_eq, beq_eq_false_iff_ne, ne_eq] at hq); omega) ?_ | fail)
    exact W_ret ⟨[_], ⟨rfl, rfl⟩, rfl⟩
  rw [h1] at c73
  have hss := setB_srt h1
  repeat' (first | refine WK_go ?_ | refine W_seqL ?_ | refine W_seq ?_ | refine W_block ?_ | refine W_scp ?_ | ((first | refine W_regL ?_ | refine W_skip ?_ | refine W_exit ?_ | refine CallC.now (c73) ?_); simp (maxSteps := 400000) (disch := omega) only [push_cast, ↓reduceIte, reduceCtorEq, Nat.reduceAdd, Nat.reduceSub, Nat.reduceEqDiff, Nat.reduceLeDiff, Nat.reduceLT, Nat.reduceBEq, Nat.reduceDiv, Nat.reduceMod, Nat.reducePow, Nat.reduceMul, Int.reduceToNat, Int.reduceLT, Int.reduceLE]) | refine And.intro (by omega) ?_ | refine And.intro (by intro hq; (try simp only [Bool.and_eq_true, Bool.or_eq_true, Bool.and_eq_false_iff, Bool.or_eq_false_iff, decide_eq_true_eq, decide_eq_false_iff_not, Bool.not_eq_true', Bool.not_eq_false', beq_iff_eq, beq_eq_false_iff_ne, ne_eq] at hq); omega) ?_ | fail)
  refine W_cond (by rfl) (fun h => by cases h) (fun h => ?_)
  have e4 : ctE m f fr to l = if fr ∈ l ∧ to ∉ l then (if (List.range m.rs.length).any (cutB m f l) = true then 16 else 0) else 16 := by unfold ctE; rw [if_pos h0, if_pos hp, if_pos h1]
  obtain ⟨n, hnn⟩ : ∃ n : Nat, m.n = n := ⟨m.n.toNat, by omega⟩
  rw [hnn] at hss hp1 hn
  repeat' (first | refine WK_go ?_ | refine W_seqL ?_ | refine W_seq ?_ | refine W_block ?_ | refine W_scp ?_ | ((first | refine W_regL ?_ | refine W_skip ?_ | refine W_exit ?_); simp (maxSteps := 400000) (disch := omega) only [push_cast, ↓reduceIte, reduceCtorEq, Nat.reduceAdd, Nat.reduceSub, Nat.reduceEqDiff, Nat.reduceLeDiff, Nat.reduceLT, Nat.reduceBEq, Nat.reduceDiv, Nat.reduceMod, Nat.reducePow, Nat.reduceMul, Int.reduceToNat, Int.reduceLT, Int.reduceLE, hnn]) | refine And.intro (by omega) ?_ | refine And.intro (by intro hq; (try simp only [Bool.and_eq_true, Bool.or_eq_true, Bool.and_eq_false_iff, Bool.or_eq_false_iff, decide_eq_true_eq, decide_eq_false_iff_not, Bool.not_eq_true', Bool.not_eq_false', beq_iff_eq, beq_eq_false_iff_ne, ne_eq] at hq); omega) ?_ | fail)
  refine ⟨rfl, ⟨by omega, by omega, by omega⟩, Bool, false, cB, false, rfl, rfl, by omega, rfl, ?_⟩
  simp (maxSteps := 400000) (disch := omega) only [push_cast, ↓reduceIte, reduceCtorEq, Nat.reduceAdd, Nat.reduceSub, Nat.reduceEqDiff, Nat.reduceLeDiff, Nat.reduceLT, Nat.reduceBEq, Nat.reduceDiv, Nat.reduceMod, Nat.reducePow, Nat.reduceMul, Int.reduceToNat, Int.reduceLT, Int.reduceLE, Int.toNat_natCast]
  repeat' (first | refine WK_go ?_ | refine W_seqL ?_ | refine W_seq ?_ | refine W_block ?_ | refine W_scp ?_ | ((first | refine W_regL ?_ | refine W_skip ?_ | refine W_exit ?_); simp (maxSteps := 400000) (disch := omega) only [push_cast, ↓reduceIte, reduceCtorEq, Nat.reduceAdd, Nat.reduceSub, Nat.reduceEqDiff, Nat.reduceLeDiff, Nat.reduceLT, Nat.reduceBEq, Nat.reduceDiv, Nat.reduceMod, Nat.reducePow, Nat.reduceMul, Int.reduceToNat, Int.reduceLT, Int.reduceLE, List.length_replicate]) | refine And.intro (by omega) ?_ | refine And.intro (by intro hq; (try simp only [Bool.and_eq_true, Bool.or_eq_true, Bool.and_eq_false_iff, Bool.or_eq_false_iff, decide_eq_true_eq, decide_eq_false_iff_not, Bool.not_eq_true', Bool.not_eq_false', beq_iff_eq, beq_eq_false_iff_ne, ne_eq] at hq); omega) ?_ | fail)
  refine W_loopU (fun i : Nat => [(46, iv i)]) (fun i => [(29, .row 0 4 1 false cB (tbB n (inT (l.take i))))]) (fun i => i ≤ l.length) (fun i => l.length - i) 0 (by omega) (by rfl) (by rw [← tbB_rep]; rfl) (fun i hi => ?_)
  simp (maxSteps := 400000) (disch := omega) only [push_cast, ↓reduceIte, reduceCtorEq, Nat.reduceAdd, Nat.reduceSub, Nat.reduceEqDiff, Nat.reduceLeDiff, Nat.reduceLT, Nat.reduceBEq, Nat.reduceDiv, Nat.reduceMod, Nat.reducePow, Nat.reduceMul, Int.reduceToNat, Int.reduceLT, Int.reduceLE]
  repeat' (first | refine WK_go ?_ | refine W_seqL ?_ | refine W_seq ?_ | refine W_block ?_ | refine W_scp ?_ | ((first | refine W_regL ?_ | refine W_skip ?_ | refine W_exit ?_); simp (maxSteps := 400000) (disch := omega) only [push_cast, ↓reduceIte, reduceCtorEq, Nat.reduceAdd, Nat.reduceSub, Nat.reduceEqDiff, Nat.reduceLeDiff, Nat.reduceLT, Nat.reduceBEq, Nat.reduceDiv, Nat.reduceMod, Nat.reducePow, Nat.reduceMul, Int.reduceToNat, Int.reduceLT, Int.reduceLE]) | refine And.intro (by omega) ?_ | refine And.intro (by intro hq; (try simp only [Bool.and_eq_true, Bool.or_eq_true, Bool.and_eq_false_iff, Bool.or_eq_false_iff, decide_eq_true_eq, decide_eq_false_iff_not, Bool.not_eq_true', Bool.not_eq_false', beq_iff_eq, beq_eq_false_iff_ne, ne_eq] at hq); omega) ?_ | fail)
  refine W_condD (by rfl) (fun h5 => ?_) (fun h5 => ?_)
  · have hlt : i < l.length := by omega
    have hme := hss.mem _ (getD_mem 0 l i hlt)
    have e5 := inT_snoc (n := n) hlt hme
    repeat' (first | refine WK_go ?_ | refine W_seqL ?_ | refine W_seq ?_ | refine W_block ?_ | refine W_scp ?_ | ((first | refine W_regL ?_ | refine W_skip ?_ | refine W_exit ?_); simp (maxSteps := 400000) (disch := omega) only [push_cast, ↓reduceIte, reduceCtorEq, Nat.reduceAdd, Nat.reduceSub, Nat.reduceEqDiff, Nat.reduceLeDiff, Nat.reduceLT, Nat.reduceBEq, Nat.reduceDiv, Nat.reduceMod, Nat.reducePow, Nat.reduceMul, Int.reduceToNat, Int.reduceLT, Int.reduceLE, tbB_len]) | refine And.intro (by omega) ?_ | refine And.intro (by intro hq; (try simp only [Bool.and_eq_true, Bool.or_eq_true, Bool.and_eq_false_iff, Bool.or_eq_false_iff, decide_eq_true_eq, decide_eq_false_iff_not, Bool.not_eq_true', Bool.not_eq_false', beq_iff_eq, beq_eq_false_iff_ne, ne_eq] at hq); omega) ?_ | fail)
    refine ⟨rfl, ⟨Nat.le_of_ble_eq_true rfl, rfl⟩, by omega, true, rfl, rfl, ?_⟩
    have gI : ∀ (l : List Int) i, l.getD i 0 = gi l i := fun _ _ => rfl
    rw [gI, e5]
    simp (maxSteps := 400000) (disch := omega) only [push_cast, ↓reduceIte, reduceCtorEq, Nat.reduceAdd, Nat.reduceSub, Nat.reduceEqDiff, Nat.reduceLeDiff, Nat.reduceLT, Nat.reduceBEq, Nat.reduceDiv, Nat.reduceMod, Nat.reducePow, Nat.reduceMul, Int.reduceToNat, Int.reduceLT, Int.reduceLE]
    repeat' (first | refine WK_go ?_ | refine W_seqL ?_ | refine W_seq ?_ | refine W_block ?_ | refine W_scp ?_ | ((first | refine W_regL ?_ | refine W_skip ?_ | refine W_exit ?_); simp (maxSteps := 400000) (disch := omega) only [push_cast, ↓reduceIte, reduceCtorEq, Nat.reduceAdd, Nat.reduceSub, Nat.reduceEqDiff, Nat.reduceLeDiff, Nat.reduceLT, Nat.reduceBEq, Nat.reduceDiv, Nat.reduceMod, Nat.reducePow, Nat.reduceMul, Int.reduceToNat, Int.reduceLT, Int.reduceLE]) | refine And.intro (by omega) ?_ | refine And.intro (by intro hq; (try simp only [Bool.and_eq_true, Bool.or_eq_true, Bool.and_eq_false_iff, Bool.or_eq_false_iff, decide_eq_true_eq, decide_eq_false_iff_not, Bool.not_eq_true', Bool.not_eq_false', beq_iff_eq, beq_eq_false_iff_ne, ne_eq] at hq); omega) ?_ | fail)
    refine ⟨i + 1, by omega, by omega, by rfl, ?_⟩
    simp (maxSteps := 400000) (disch := omega) only [push_cast, ↓reduceIte, reduceCtorEq, Nat.reduceAdd, Nat.reduceSub, Nat.reduceEqDiff, Nat.reduceLeDiff, Nat.reduceLT, Nat.reduceBEq, Nat.reduceDiv, Nat.reduceMod, Nat.reducePow, Nat.reduceMul, Int.reduceToNat, Int.reduceLT, Int.reduceLE, S.mk.injEq, List.cons.injEq, Prod.mk.injEq, AV.v.injEq, Value.int.injEq, Value.bool.injEq, Blk.cells.injEq]
  have hil : i = l.length := by omega
  subst hil
  rw [List.take_length]
  clear h5 hi
  have tl := tbB_len n (inT l)
  have at1 : (tbB n (inT l)).getD fr.toNat false = decide (fr ∈ l) := by
    rw [tbB_at _ (by omega)]; unfold inT; rw [show ((fr.toNat : Nat) : Int) = fr by omega]
  have at2 : (tbB n (inT l)).getD to.toNat false = decide (to ∈ l) := by
    rw [tbB_at _ (by omega)]; unfold inT; rw [show ((to.toNat : Nat) : Int) = to by omega]
  repeat' (first | refine WK_go ?_ | refine W_seqL ?_ | refine W_seq ?_ | refine W_block ?_ | refine W_scp ?_ | ((first | refine W_regL ?_ | refine W_skip ?_ | refine W_exit ?_); simp (maxSteps := 400000) (disch := omega) only [push_cast, ↓reduceIte, reduceCtorEq, Nat.reduceAdd, Nat.reduceSub, Nat.reduceEqDiff, Nat.reduceLeDiff, Nat.reduceLT, Nat.reduceBEq, Nat.reduceDiv, Nat.reduceMod, Nat.reducePow, Nat.reduceMul, Int.reduceToNat, Int.reduceLT, Int.reduceLE, tl, at1, at2]) | refine And.intro (by omega) ?_ | refine And.intro (by intro hq; (try simp only [Bool.and_eq_true, Bool.or_eq_true, Bool.and_eq_false_iff, Bool.or_eq_false_iff, decide_eq_true_eq, decide_eq_false_iff_not, Bool.not_eq_true', Bool.not_eq_false', beq_iff_eq, beq_eq_false_iff_ne, ne_eq] at hq); omega) ?_ | fail)
  refine W_cond (by rfl) (fun h6 => ?_) (fun h6 => ?_)
  · have e5 : ctE m f fr to l = 16 := by
      rw [e4, if_neg]
      rintro ⟨q1, q2⟩
      rw [decide_eq_true q1, decide_eq_false q2] at h6
      cases h6
    rw [e5]
    repeat' (first | refine WK_go ?_ | refine W_seqL ?_ | refine W_seq ?_ | refine W_block ?_ | refine W_scp ?_ | ((first | refine W_regL ?_ | refine W_skip ?_ | refine W_exit ?_); simp (maxSteps := 400000) (disch := omega) only [push_cast, ↓reduceIte, reduceCtorEq, Nat.reduceAdd, Nat.reduceSub, Nat.reduceEqDiff, Nat.reduceLeDiff, Nat.reduceLT, Nat.reduceBEq, Nat.reduceDiv, Nat.reduceMod, Nat.reducePow, Nat.reduceMul, Int.reduceToNat, Int.reduceLT, Int.reduceLE]) | refine And.intro (by omega) ?_ | refine And.intro (by intro hq; (try simp only [Bool.and_eq_true, Bool.or_eq_true, Bool.and_eq_false_iff, Bool.or_eq_false_iff, decide_eq_true_eq, decide_eq_false_iff_not, Bool.not_eq_true', Bool.not_eq_false', beq_iff_eq, beq_eq_false_iff_ne, ne_eq] at hq); omega) ?_ | fail)
    exact W_ret ⟨[_], ⟨rfl, rfl⟩, rfl⟩
  rw [Bool.or_eq_false_iff, Bool.not_eq_false', decide_eq_true_eq, decide_eq_false_iff_not] at h6
  rw [if_pos h6] at e4
  repeat' (first | refine WK_go ?_ | refine W_seqL ?_ | refine W_seq ?_ | refine W_block ?_ | refine W_scp ?_ | ((first | refine W_regL ?_ | refine W_skip ?_ | refine W_exit ?_); simp (maxSteps := 400000) (disch := omega) only [push_cast, ↓reduceIte, reduceCtorEq, Nat.reduceAdd, Nat.reduceSub, Nat.reduceEqDiff, Nat.reduceLeDiff, Nat.reduceLT, Nat.reduceBEq, Nat.reduceDiv, Nat.reduceMod, Nat.reducePow, Nat.reduceMul, Int.reduceToNat, Int.reduceLT, Int.reduceLE]) | refine And.intro (by omega) ?_ | refine And.intro (by intro hq; (try simp only [Bool.and_eq_true, Bool.or_eq_true, Bool.and_eq_false_iff, Bool.or_eq_false_iff, decide_eq_true_eq, decide_eq_false_iff_not, Bool.not_eq_true', Bool.not_eq_false', beq_iff_eq, beq_eq_false_iff_ne, ne_eq] at hq); omega) ?_ | fail)
  refine W_loopU (fun i : Nat => [(68, iv i)]) (fun i => []) (fun i => i ≤ m.rs.length ∧ ∀ j, j < i → cutB m f l j = false) (fun i => m.rs.length - i) 0 ⟨by omega, fun j hj => by omega⟩ (by rfl) (by rfl) (fun i hi => ?_)
  obtain ⟨hi, hall⟩ := hi
  simp (maxSteps := 400000) (disch := omega) only [push_cast, ↓reduceIte, reduceCtorEq, Nat.reduceAdd, Nat.reduceSub, Nat.reduceEqDiff, Nat.reduceLeDiff, Nat.reduceLT, Nat.reduceBEq, Nat.reduceDiv, Nat.reduceMod, Nat.reducePow, Nat.reduceMul, Int.reduceToNat, Int.reduceLT, Int.reduceLE]
  repeat' (first | refine WK_go ?_ | refine W_seqL ?_ | refine W_seq ?_ | refine W_block ?_ | refine W_scp ?_ | ((first | refine W_regL ?_ | refine W_skip ?_ | refine W_exit ?_); simp (maxSteps := 400000) (disch := omega) only [push_cast, ↓reduceIte, reduceCtorEq, Nat.reduceAdd, Nat.reduceSub, Nat.reduceEqDiff, Nat.reduceLeDiff, Nat.reduceLT, Nat.reduceBEq, Nat.reduceDiv, Nat.reduceMod, Nat.reducePow, Nat.reduceMul, Int.reduceToNat, Int.reduceLT, Int.reduceLE]) | refine And.intro (by omega) ?_ | refine And.intro (by intro hq; (try simp only [Bool.and_eq_true, Bool.or_eq_true, Bool.and_eq_false_iff, Bool.or_eq_false_iff, decide_eq_true_eq, decide_eq_false_iff_not, Bool.not_eq_true', Bool.not_eq_false', beq_iff_eq, beq_eq_false_iff_ne, ne_eq] at hq); omega) ?_ | fail)
  refine W_condD (by rfl) (fun h5 => ?_) (fun h5 => ?_)
  · have hlt : i < m.rs.length := by omega
    have ok := roadB_ok (hok.r i hlt)
    have ofr := ok.f; have otr := ok.t
    rw [hnn] at ofr otr
    have gR : m.rs.getD i dR = gr m i := rfl
    have at3 : (tbB n (inT l)).getD (gr m i).f.toNat false = decide ((gr m i).f ∈ l) := by
      rw [tbB_at _ (by omega)]; unfold inT; rw [show (((gr m i).f.toNat : Nat) : Int) = (gr m i).f by omega]
    have at4 : (tbB n (inT l)).getD (gr m i).t.toNat false = decide ((gr m i).t ∈ l) := by
      rw [tbB_at _ (by omega)]; unfold inT; rw [show (((gr m i).t.toNat : Nat) : Int) = (gr m i).t by omega]
    have c77 := fn77 m f hok.nw
    have c64 := fn64 m f (evL m.ws.length) (msk (evL m.ws.length)) i hok (setW_msk (ev_srt _)) hlt
    have ecut : cutB m f l i = (decide ((gr m i).f ∈ l) && !decide ((gr m i).t ∈ l) && usB m f (evL m.ws.length) i) := rfl
    generalize usB m f (evL m.ws.length) i = U at *
    generalize msk (evL m.ws.length) = M at *
    generalize gr m i = r at *
    repeat' (first | refine WK_go ?_ | refine W_seqL ?_ | refine W_seq ?_ | refine W_block ?_ | refine W_scp ?_ | ((first | refine W_regL ?_ | refine W_skip ?_ | refine W_exit ?_ | refine CallC.go _ (fun _ => ⟨trivial, c77⟩) rfl ?_ | refine CallC.go _ (fun _ => ⟨trivial, c64⟩) rfl ?_); simp (maxSteps := 400000) (disch := omega) only [push_cast, ↓reduceIte, reduceCtorEq, Nat.reduceAdd, Nat.reduceSub, Nat.reduceEqDiff, Nat.reduceLeDiff, Nat.reduceLT, Nat.reduceBEq, Nat.reduceDiv, Nat.reduceMod, Nat.reducePow, Nat.reduceMul, Int.reduceToNat, Int.reduceLT, Int.reduceLE, gR, tl, at3, at4]) | refine And.intro (by omega) ?_ | refine And.intro (by intro hq; (try simp only [Bool.and_eq_true, Bool.or_eq_true, Bool.and_eq_false_iff, Bool.or_eq_false_iff, decide_eq_true_eq, decide_eq_false_iff_not, Bool.not_eq_true', Bool.not_eq_false', beq_iff_eq, beq_eq_false_iff_ne, ne_eq] at hq); omega) ?_ | fail)
    rw [← ecut]
    refine W_cond (by rfl) (fun h7 => ?_) (fun h7 => ?_)
    · rw [if_pos (range_any hlt h7)] at e4
      rw [e4]
      repeat' (first | refine WK_go ?_ | refine W_seqL ?_ | refine W_seq ?_ | refine W_block ?_ | refine W_scp ?_ | ((first | refine W_regL ?_ | refine W_skip ?_ | refine W_exit ?_); simp (maxSteps := 400000) (disch := omega) only [push_cast, ↓reduceIte, reduceCtorEq, Nat.reduceAdd, Nat.reduceSub, Nat.reduceEqDiff, Nat.reduceLeDiff, Nat.reduceLT, Nat.reduceBEq, Nat.reduceDiv, Nat.reduceMod, Nat.reducePow, Nat.reduceMul, Int.reduceToNat, Int.reduceLT, Int.reduceLE]) | refine And.intro (by omega) ?_ | refine And.intro (by intro hq; (try simp only [Bool.and_eq_true, Bool.or_eq_true, Bool.and_eq_false_iff, Bool.or_eq_false_iff, decide_eq_true_eq, decide_eq_false_iff_not, Bool.not_eq_true', Bool.not_eq_false', beq_iff_eq, beq_eq_false_iff_ne, ne_eq] at hq); omega) ?_ | fail)
      exact W_ret ⟨[_], ⟨rfl, rfl⟩, rfl⟩
    · repeat' (first | refine WK_go ?_ | refine W_seqL ?_ | refine W_seq ?_ | refine W_block ?_ | refine W_scp ?_ | ((first | refine W_regL ?_ | refine W_skip ?_ | refine W_exit ?_); simp (maxSteps := 400000) (disch := omega) only [push_cast, ↓reduceIte, reduceCtorEq, Nat.reduceAdd, Nat.reduceSub, Nat.reduceEqDiff, Nat.reduceLeDiff, Nat.reduceLT, Nat.reduceBEq, Nat.reduceDiv, Nat.reduceMod, Nat.reducePow, Nat.reduceMul, Int.reduceToNat, Int.reduceLT, Int.reduceLE]) | refine And.intro (by omega) ?_ | refine And.intro (by intro hq; (try simp only [Bool.and_eq_true, Bool.or_eq_true, Bool.and_eq_false_iff, Bool.or_eq_false_iff, decide_eq_true_eq, decide_eq_false_iff_not, Bool.not_eq_true', Bool.not_eq_false', beq_iff_eq, beq_eq_false_iff_ne, ne_eq] at hq); omega) ?_ | fail)
      refine ⟨i + 1, ⟨by omega, up_all hall h7⟩, by omega, by rfl, ?_⟩
      simp (maxSteps := 400000) (disch := omega) only [push_cast, ↓reduceIte, reduceCtorEq, Nat.reduceAdd, Nat.reduceSub, Nat.reduceEqDiff, Nat.reduceLeDiff, Nat.reduceLT, Nat.reduceBEq, Nat.reduceDiv, Nat.reduceMod, Nat.reducePow, Nat.reduceMul, Int.reduceToNat, Int.reduceLT, Int.reduceLE, S.mk.injEq, List.cons.injEq, Prod.mk.injEq, AV.v.injEq, Value.int.injEq, Value.bool.injEq, Blk.cells.injEq]
  · have hil : i = m.rs.length := by omega
    subst hil
    rw [if_neg (by rw [range_none hall]; decide)] at e4
    rw [e4]
    repeat' (first | refine WK_go ?_ | refine W_seqL ?_ | refine W_seq ?_ | refine W_block ?_ | refine W_scp ?_ | ((first | refine W_regL ?_ | refine W_skip ?_ | refine W_exit ?_); simp (maxSteps := 400000) (disch := omega) only [push_cast, ↓reduceIte, reduceCtorEq, Nat.reduceAdd, Nat.reduceSub, Nat.reduceEqDiff, Nat.reduceLeDiff, Nat.reduceLT, Nat.reduceBEq, Nat.reduceDiv, Nat.reduceMod, Nat.reducePow, Nat.reduceMul, Int.reduceToNat, Int.reduceLT, Int.reduceLE]) | refine And.intro (by omega) ?_ | refine And.intro (by intro hq; (try simp only [Bool.and_eq_true, Bool.or_eq_true, Bool.and_eq_false_iff, Bool.or_eq_false_iff, decide_eq_true_eq, decide_eq_false_iff_not, Bool.not_eq_true', Bool.not_eq_false', beq_iff_eq, beq_eq_false_iff_ne, ne_eq] at hq); omega) ?_ | fail)
    exact W_ret ⟨[_], ⟨rfl, rfl⟩, rfl⟩
end Go.Proofs.Ytfbdlmenhoagmaa

namespace Go.Proofs.Ytfbdlmenhoagmaa
open Go Sy
set_option maxRecDepth 100000
set_option maxHeartbeats 4000000
set_option linter.unusedVariables false
set_option linter.unusedSimpArgs false
structure Cs where
  r : Int
  k : Int
  l : Int
  n : Int
def dC : Cs := ⟨0, 0, 0, 0⟩
def cC (c : Cs) : List AV := [iv c.r, iv c.k, iv c.l, iv c.n]
theorem lC (c : Cs) : (cC c).length = 4 := rfl
theorem frC (c : Cs) : frzAll (cC c) = true := rfl
theorem tC (c : Cs) : List.take 4 (List.drop 0 (cC c)) = cC c := rfl
theorem tC2 (c : Cs) : List.take 4 (cC c) = cC c := rfl
theorem iC {m : Nat → Option Blk} {n : Nat} (c : Cs) : List.flatMap (ids m n) (cC c) = [] := flat_frz n _ (frC c)
theorem vC {m : Nat → Option Blk} {n : Nat} (c : Cs) : List.map (view m n) (cC c) = cC c := viewL_frz n _ (frC c)
attribute [push_cast] lC frC tC tC2 iC vC
abbrev aC (l : List Cs) : AV := .sl 4 dC cC l
def cz1 (m : Mp) (f : Nat → Int) (s : List Int) (road k : Nat) : List Cs := if limL m s road k < f k then [⟨road, k, limL m s road k, f k⟩] else []
def czK (m : Mp) (f : Nat → Int) (s : List Int) (road n : Nat) : List Cs := (List.range n).flatMap (cz1 m f s road)
def czR (m : Mp) (f : Nat → Int) (s : List Int) (rs : List Int) : List Cs := rs.flatMap fun r => czK m f s r.toNat 6
theorem czK_succ (m : Mp) (f : Nat → Int) (s : List Int) (road n : Nat) : czK m f s road (n + 1) = czK m f s road n ++ cz1 m f s road n := by
  unfold czK
  rw [List.range_succ, List.flatMap_append]
  simp
theorem czR_snoc (m : Mp) (f : Nat → Int) (s : List Int) (rs : List Int) (r : Int) : czR m f s (rs ++ [r]) = czR m f s rs ++ czK m f s r.toNat 6 := by
  unfold czR
  rw [List.flatMap_append]
  simp
theorem czK_len (m : Mp) (f : Nat → Int) (s : List Int) (road : Nat) : ∀ n, (czK m f s road n).length ≤ n
  | 0 => by simp [czK]
  | n + 1 => by
    rw [czK_succ, List.length_append]
    have := czK_len m f s road n
    have : (cz1 m f s road n).length ≤ 1 := by unfold cz1; split <;> simp
    omega
theorem czR_len (m : Mp) (f : Nat → Int) (s : List Int) : ∀ rs : List Int, (czR m f s rs).length ≤ 6 * rs.length
  | [] => by simp [czR]
  | r :: rs => by
    have h1 := czR_len m f s rs
    have h2 := czK_len m f s r.toNat 6
    have e : czR m f s (r :: rs) = czK m f s r.toNat 6 ++ czR m f s rs := rfl
    rw [e, List.length_append, List.length_cons]
    omega
end Go.Proofs.Ytfbdlmenhoagmaa

namespace Go.Proofs.Ytfbdlmenhoagmaa
open Go Sy
set_option maxRecDepth 100000
set_option maxHeartbeats 4000000
set_option linter.unusedVariables false
set_option linter.unusedSimpArgs false
def allU (m : Mp) (f : Nat → Int) (rs : List Int) (s : List Int) : Bool := !(rs.any fun x => !usB m f s x.toNat)
def cL (l : List Int) : List AV := [aI l]
theorem nL (l : List Int) : nth (cL l) 0 = aI l := rfl
theorem lL (l : List Int) : (cL l).length = 1 := rfl
theorem frL (l : List Int) : frzAll (cL l) = true := rfl
theorem tL (l : List Int) : List.take 1 (List.drop 0 (cL l)) = cL l := rfl
attribute [push_cast] nL lL frL tL
abbrev aL (l : List (List Int)) : AV := .sl 1 [] cL l
theorem brn_len : ∀ (d : Nat) (l : List Int) (i : Nat), (brn d l i).length + 1 = 2 ^ d
  | 0, l, i => rfl
  | d + 1, l, i => by
    have h1 := brn_len d (l ++ [(i : Int)]) (i + 1)
    have h2 := brn_len d l (i + 1)
    simp only [brn, List.cons_append, List.length_cons, List.length_append]
    rw [Nat.pow_succ]
    omega
theorem fn72 (n : Nat) (hn : n ≤ 20) : ∀ (d i : Nat) (l : List Int), i + d = n → l.length ≤ i → Sy.Fn Try.prog 72 [aI l, iv i, iv n] (aL (l :: brn d l i)) := by
  intro d
  induction d using Nat.strongRecOn with
  | _ d ih =>
  intro i l hi hl
  refine Fn_of_W mixed Xt72 rfl ?_
  have hp : 2 ^ d ≤ 2 ^ 20 := Nat.pow_le_pow_right (by omega) (by omega)
  repeat' (first | refine WK_go ?_ | refine W_seqL ?_ | refine W_seq ?_ | refine W_block ?_ | refine W_scp ?_ | ((first | refine W_regL ?_ | refine W_skip ?_ | refine W_exit ?_); simp (maxSteps := 400000) (disch := omega) only [push_cast, ↓reduceIte, reduceCtorEq, Nat.reduceAdd, Nat.reduceSub, Nat.reduceEqDiff, Nat.reduceLeDiff, Nat.reduceLT, Nat.reduceBEq, Nat.reduceDiv, Nat.reduceMod, Nat.reducePow, Nat.reduceMul, Int.reduceToNat, Int.reduceLT, Int.reduceLE]) | refine And.intro (by omega) ?_ | refine And.intro (by intro hq; (try simp only [Bool.and_eq_true, Bool.or_eq_true, Bool.and_eq_false_iff, Bool.or_eq_false_iff, decide_eq_true_eq, decide_eq_false_iff_not, Bool.not_eq_true', Bool.not_eq_false', beq_iff_eq, beq_eq_false_iff_ne, ne_eq] at hq); omega) ?_ | fail)
  refine ⟨rfl, trivial, (List Int), [], cL, [l], rfl, by omega, fun x _ => ⟨rfl, rfl⟩, rfl, ?_⟩
  simp (maxSteps := 400000) (disch := omega) only [push_cast, ↓reduceIte, reduceCtorEq, Nat.reduceAdd, Nat.reduceSub, Nat.reduceEqDiff, Nat.reduceLeDiff, Nat.reduceLT, Nat.reduceBEq, Nat.reduceDiv, Nat.reduceMod, Nat.reducePow, Nat.reduceMul, Int.reduceToNat, Int.reduceLT, Int.reduceLE]
  repeat' (first | refine WK_go ?_ | refine W_seqL ?_ | refine W_seq ?_ | refine W_block ?_ | refine W_scp ?_ | ((first | refine W_regL ?_ | refine W_skip ?_ | refine W_exit ?_); simp (maxSteps := 400000) (disch := omega) only [push_cast, ↓reduceIte, reduceCtorEq, Nat.reduceAdd, Nat.reduceSub, Nat.reduceEqDiff, Nat.reduceLeDiff, Nat.reduceLT, Nat.reduceBEq, Nat.reduceDiv, Nat.reduceMod, Nat.reducePow, Nat.reduceMul, Int.reduceToNat, Int.reduceLT, Int.reduceLE]) | refine And.intro (by omega) ?_ | refine And.intro (by intro hq; (try simp only [Bool.and_eq_true, Bool.or_eq_true, Bool.and_eq_false_iff, Bool.or_eq_false_iff, decide_eq_true_eq, decide_eq_false_iff_not, Bool.not_eq_true', Bool.not_eq_false', beq_iff_eq, beq_eq_false_iff_ne, ne_eq] at hq); omega) ?_ | fail)
  refine W_loopU (fun u : Nat × List (List Int) => [(7, .row 2 (u.1 - i)), (8, iv u.1)]) (fun u => [(2, .row (u.1 - i) 27 1 [] cL u.2)]) (fun u => i ≤ u.1 ∧ u.1 ≤ n ∧ u.2 ++ brn (n - u.1) l u.1 = l :: brn d l i) (fun u => n - u.1) (i, [l]) ⟨Nat.le_refl _, by dsimp only; omega, by dsimp only; rw [show n - i = d by omega]; rfl⟩ (by rfl) (by simp only [Nat.sub_self]; rfl) (fun u hu => ?_)
  obtain ⟨j, L⟩ := u
  obtain ⟨h1, h2, h3⟩ := hu
  dsimp only at h1 h2 h3 ⊢
  have hbl := brn_len d l i
  have hLl : L.length + (brn (n - j) l j).length = (brn d l i).length + 1 := by
    have := congrArg List.length h3
    rw [List.length_append, List.length_cons] at this
    exact this
  simp (maxSteps := 400000) (disch := omega) only [push_cast, ↓reduceIte, reduceCtorEq, Nat.reduceAdd, Nat.reduceSub, Nat.reduceEqDiff, Nat.reduceLeDiff, Nat.reduceLT, Nat.reduceBEq, Nat.reduceDiv, Nat.reduceMod, Nat.reducePow, Nat.reduceMul, Int.reduceToNat, Int.reduceLT, Int.reduceLE]
  repeat' (first | refine WK_go ?_ | refine W_seqL ?_ | refine W_seq ?_ | refine W_block ?_ | refine W_scp ?_ | ((first | refine W_regL ?_ | refine W_skip ?_ | refine W_exit ?_); simp (maxSteps := 400000) (disch := omega) only [push_cast, ↓reduceIte, reduceCtorEq, Nat.reduceAdd, Nat.reduceSub, Nat.reduceEqDiff, Nat.reduceLeDiff, Nat.reduceLT, Nat.reduceBEq, Nat.reduceDiv, Nat.reduceMod, Nat.reducePow, Nat.reduceMul, Int.reduceToNat, Int.reduceLT, Int.reduceLE]) | refine And.intro (by omega) ?_ | refine And.intro (by intro hq; (try simp only [Bool.and_eq_true, Bool.or_eq_true, Bool.and_eq_false_iff, Bool.or_eq_false_iff, decide_eq_true_eq, decide_eq_false_iff_not, Bool.not_eq_true', Bool.not_eq_false', beq_iff_eq, beq_eq_false_iff_ne, ne_eq] at hq); omega) ?_ | fail)
  refine W_condD (by rfl) (fun h5 => ?_) (fun h5 => ?_)
  rotate_left
  · have hj : n - j = 0 := by omega
    rw [hj] at h3
    have h3 : L ++ [] = l :: brn d l i := h3
    rw [List.append_nil] at h3
    rw [← h3]
    repeat' (first | refine WK_go ?_ | refine W_seqL ?_ | refine W_seq ?_ | refine W_block ?_ | refine W_scp ?_ | ((first | refine W_regL ?_ | refine W_skip ?_ | refine W_exit ?_); simp (maxSteps := 400000) (disch := omega) only [push_cast, ↓reduceIte, reduceCtorEq, Nat.reduceAdd, Nat.reduceSub, Nat.reduceEqDiff, Nat.reduceLeDiff, Nat.reduceLT, Nat.reduceBEq, Nat.reduceDiv, Nat.reduceMod, Nat.reducePow, Nat.reduceMul, Int.reduceToNat, Int.reduceLT, Int.reduceLE]) | refine And.intro (by omega) ?_ | refine And.intro (by intro hq; (try simp only [Bool.and_eq_true, Bool.or_eq_true, Bool.and_eq_false_iff, Bool.or_eq_false_iff, decide_eq_true_eq, decide_eq_false_iff_not, Bool.not_eq_true', Bool.not_eq_false', beq_iff_eq, beq_eq_false_iff_ne, ne_eq] at hq); omega) ?_ | fail)
    refine W_ret ⟨[_], ⟨rfl, rfl⟩, ?_⟩
    simp (maxSteps := 400000) (disch := omega) only [push_cast, ↓reduceIte, reduceCtorEq, Nat.reduceAdd, Nat.reduceSub, Nat.reduceEqDiff, Nat.reduceLeDiff, Nat.reduceLT, Nat.reduceBEq, Nat.reduceDiv, Nat.reduceMod, Nat.reducePow, Nat.reduceMul, Int.reduceToNat, Int.reduceLT, Int.reduceLE, pack]
  obtain ⟨d', hd'⟩ : ∃ d', n - j = d' + 1 := ⟨n - j - 1, by omega⟩
  have hI := ih d' (by omega) (j + 1) (l ++ [(j : Int)]) (by omega) (by rw [List.length_append]; simp; omega)
  rw [show ((j + 1 : Nat) : Int) = (j : Int) + 1 by omega] at hI
  have hnx : (L ++ ((l ++ [(j : Int)]) :: brn d' (l ++ [(j : Int)]) (j + 1))) ++ brn (n - (j + 1)) l (j + 1) = l :: brn d l i := by
    rw [← h3, hd', show n - (j + 1) = d' by omega]
    simp only [brn, List.append_assoc]
  have hLb : (L ++ ((l ++ [(j : Int)]) :: brn d' (l ++ [(j : Int)]) (j + 1))).length ≤ 1048576 := by
    have := congrArg List.length hnx
    rw [List.length_append, List.length_cons] at this
    omega
  rw [List.length_append] at hLb
  generalize hA : (l ++ [(j : Int)]) :: brn d' (l ++ [(j : Int)]) (j + 1) = A at *
  refine W_skip ?_
  simp (maxSteps := 400000) (disch := omega) only [push_cast, ↓reduceIte, reduceCtorEq, Nat.reduceAdd, Nat.reduceSub, Nat.reduceEqDiff, Nat.reduceLeDiff, Nat.reduceLT, Nat.reduceBEq, Nat.reduceDiv, Nat.reduceMod, Nat.reducePow, Nat.reduceMul, Int.reduceToNat, Int.reduceLT, Int.reduceLE]
  repeat (first | refine WK_go ?_ | refine W_seqL ?_ | refine W_seq ?_ | refine W_block ?_)
  refine W_regP [7] (by decide) ?_
  simp (maxSteps := 400000) (disch := omega) only [push_cast, ↓reduceIte, reduceCtorEq, Nat.reduceAdd, Nat.reduceSub, Nat.reduceEqDiff, Nat.reduceLeDiff, Nat.reduceLT, Nat.reduceBEq, Nat.reduceDiv, Nat.reduceMod, Nat.reducePow, Nat.reduceMul, Int.reduceToNat, Int.reduceLT, Int.reduceLE, chainP, List.take_succ_cons, List.take_zero, List.drop_succ_cons, List.drop_zero]
  refine ⟨rfl, trivial, Int, 0, cI, [], rfl, by omega, fun x _ => ⟨rfl, rfl⟩, rfl, ?_⟩
  simp (maxSteps := 400000) (disch := omega) only [push_cast, ↓reduceIte, reduceCtorEq, Nat.reduceAdd, Nat.reduceSub, Nat.reduceEqDiff, Nat.reduceLeDiff, Nat.reduceLT, Nat.reduceBEq, Nat.reduceDiv, Nat.reduceMod, Nat.reducePow, Nat.reduceMul, Int.reduceToNat, Int.reduceLT, Int.reduceLE]
  refine ⟨rfl, ⟨Nat.le_of_ble_eq_true rfl, rfl⟩, trivial, l, rfl, by first | omega | (simp; omega), by first | omega | (simp; omega), ?_⟩
  simp (maxSteps := 400000) (disch := omega) only [push_cast, ↓reduceIte, reduceCtorEq, Nat.reduceAdd, Nat.reduceSub, Nat.reduceEqDiff, Nat.reduceLeDiff, Nat.reduceLT, Nat.reduceBEq, Nat.reduceDiv, Nat.reduceMod, Nat.reducePow, Nat.reduceMul, Int.reduceToNat, Int.reduceLT, Int.reduceLE, List.nil_append]
  refine ⟨rfl, trivial, Int, 0, cI, [(j : Int)], rfl, by omega, fun x _ => ⟨rfl, rfl⟩, rfl, ?_⟩
  simp (maxSteps := 400000) (disch := omega) only [push_cast, ↓reduceIte, reduceCtorEq, Nat.reduceAdd, Nat.reduceSub, Nat.reduceEqDiff, Nat.reduceLeDiff, Nat.reduceLT, Nat.reduceBEq, Nat.reduceDiv, Nat.reduceMod, Nat.reducePow, Nat.reduceMul, Int.reduceToNat, Int.reduceLT, Int.reduceLE]
  refine ⟨rfl, ⟨Nat.le_of_ble_eq_true rfl, rfl⟩, trivial, [(j : Int)], rfl, by first | omega | (simp; omega), by first | omega | (simp; omega), ?_⟩
  simp (maxSteps := 400000) (disch := omega) only [push_cast, ↓reduceIte, reduceCtorEq, Nat.reduceAdd, Nat.reduceSub, Nat.reduceEqDiff, Nat.reduceLeDiff, Nat.reduceLT, Nat.reduceBEq, Nat.reduceDiv, Nat.reduceMod, Nat.reducePow, Nat.reduceMul, Int.reduceToNat, Int.reduceLT, Int.reduceLE]
  refine ⟨_, le_frzR 23 [0, 2, 7, 8, 17] [2] 20 10 2 3 1 0 cI (l ++ [(j : Int)]) rfl rfl rfl rfl, ?_⟩
  simp (maxSteps := 400000) (disch := omega) only [push_cast, ↓reduceIte, reduceCtorEq, Nat.reduceAdd, Nat.reduceSub, Nat.reduceEqDiff, Nat.reduceLeDiff, Nat.reduceLT, Nat.reduceBEq, Nat.reduceDiv, Nat.reduceMod, Nat.reducePow, Nat.reduceMul, Int.reduceToNat, Int.reduceLT, Int.reduceLE, chainP, List.take_succ_cons, List.take_zero, List.drop_succ_cons, List.drop_zero]
  repeat (refine And.intro (by omega) ?_)
  refine CallC.now hI ?_
  simp (maxSteps := 400000) (disch := omega) only [push_cast, ↓reduceIte, reduceCtorEq, Nat.reduceAdd, Nat.reduceSub, Nat.reduceEqDiff, Nat.reduceLeDiff, Nat.reduceLT, Nat.reduceBEq, Nat.reduceDiv, Nat.reduceMod, Nat.reducePow, Nat.reduceMul, Int.reduceToNat, Int.reduceLT, Int.reduceLE]
  refine ⟨rfl, ⟨Nat.le_of_ble_eq_true rfl, rfl⟩, trivial, A, rfl, by first | omega | (simp; omega), by first | omega | (simp; omega), ?_⟩
  simp (maxSteps := 400000) (disch := omega) only [push_cast, ↓reduceIte, reduceCtorEq, Nat.reduceAdd, Nat.reduceSub, Nat.reduceEqDiff, Nat.reduceLeDiff, Nat.reduceLT, Nat.reduceBEq, Nat.reduceDiv, Nat.reduceMod, Nat.reducePow, Nat.reduceMul, Int.reduceToNat, Int.reduceLT, Int.reduceLE]
  repeat' (first | refine WK_go ?_ | refine W_seqL ?_ | refine W_seq ?_ | refine W_block ?_ | refine W_scp ?_ | ((first | refine W_regL ?_ | refine W_skip ?_ | refine W_exit ?_); simp (maxSteps := 400000) (disch := omega) only [push_cast, ↓reduceIte, reduceCtorEq, Nat.reduceAdd, Nat.reduceSub, Nat.reduceEqDiff, Nat.reduceLeDiff, Nat.reduceLT, Nat.reduceBEq, Nat.reduceDiv, Nat.reduceMod, Nat.reducePow, Nat.reduceMul, Int.reduceToNat, Int.reduceLT, Int.reduceLE]) | refine And.intro (by omega) ?_ | refine And.intro (by intro hq; (try simp only [Bool.and_eq_true, Bool.or_eq_true, Bool.and_eq_false_iff, Bool.or_eq_false_iff, decide_eq_true_eq, decide_eq_false_iff_not, Bool.not_eq_true', Bool.not_eq_false', beq_iff_eq, beq_eq_false_iff_ne, ne_eq] at hq); omega) ?_ | fail)
  have est : j + 1 - i = j - i + 1 := by omega
  refine ⟨(j + 1, L ++ A), ⟨by dsimp only; omega, by dsimp only; omega, hnx⟩, by dsimp only; omega, by rfl, ?_⟩
  dsimp only
  rw [est]
  simp (maxSteps := 400000) (disch := omega) only [push_cast, ↓reduceIte, reduceCtorEq, Nat.reduceAdd, Nat.reduceSub, Nat.reduceEqDiff, Nat.reduceLeDiff, Nat.reduceLT, Nat.reduceBEq, Nat.reduceDiv, Nat.reduceMod, Nat.reducePow, Nat.reduceMul, Int.reduceToNat, Int.reduceLT, Int.reduceLE, S.mk.injEq, List.cons.injEq, Prod.mk.injEq, AV.v.injEq, Value.int.injEq, Value.bool.injEq, Blk.cells.injEq]
theorem fn19 (m : Mp) (h : m.ws.length ≤ 20) : Sy.Fn Try.prog 19 [aM m] (aL (setsM m.ws.length)) := by
  refine Fn_of_W mixed Xt19 rfl ?_
  have c72 := fn72 m.ws.length h m.ws.length 0 [] (by omega) (by simp)
  have c72 := Fn_nil (pre := []) c72
  repeat' (first | refine WK_go ?_ | refine W_seqL ?_ | refine W_seq ?_ | refine W_block ?_ | refine W_scp ?_ | ((first | refine W_regL ?_ | refine W_skip ?_ | refine W_exit ?_ | refine CallC.now (c72) ?_); simp (maxSteps := 400000) (disch := omega) only [push_cast, ↓reduceIte, reduceCtorEq, Nat.reduceAdd, Nat.reduceSub, Nat.reduceEqDiff, Nat.reduceLeDiff, Nat.reduceLT, Nat.reduceBEq, Nat.reduceDiv, Nat.reduceMod, Nat.reducePow, Nat.reduceMul, Int.reduceToNat, Int.reduceLT, Int.reduceLE]) | refine And.intro (by omega) ?_ | refine And.intro (by intro hq; (try simp only [Bool.and_eq_true, Bool.or_eq_true, Bool.and_eq_false_iff, Bool.or_eq_false_iff, decide_eq_true_eq, decide_eq_false_iff_not, Bool.not_eq_true', Bool.not_eq_false', beq_iff_eq, beq_eq_false_iff_ne, ne_eq] at hq); omega) ?_ | fail)
  exact W_ret ⟨[_], ⟨rfl, rfl⟩, rfl⟩
end Go.Proofs.Ytfbdlmenhoagmaa

namespace Go.Proofs.Ytfbdlmenhoagmaa
open Go Sy
set_option maxRecDepth 100000
set_option maxHeartbeats 4000000
set_option linter.unusedVariables false
set_option linter.unusedSimpArgs false
theorem czK_nil {m : Mp} {f : Nat → Int} {s : List Int} {road : Nat} : czK m f s road 6 = [] ↔ usB m f s road = true := by
  unfold czK
  rw [List.flatMap_eq_nil_iff, usN_iff]
  constructor
  · intro h k hk
    have := h k (List.mem_range.2 hk)
    unfold cz1 at this
    by_cases q : limL m s road k < f k
    · rw [if_pos q] at this; cases this
    · omega
  · intro h k hk
    have := h k (List.mem_range.1 hk)
    unfold cz1
    rw [if_neg (by omega)]
theorem czR_nil {m : Mp} {f : Nat → Int} {s rs : List Int} : (czR m f s rs).length = 0 ↔ allU m f rs s = true := by
  rw [List.length_eq_zero_iff]
  unfold czR allU
  rw [List.flatMap_eq_nil_iff, Bool.not_eq_true', ← Bool.not_eq_true, List.any_eq_true]
  constructor
  · rintro h ⟨x, hx, hq⟩
    have := czK_nil.1 (h x hx)
    rw [this] at hq; cases hq
  · intro h x hx
    rw [czK_nil]
    apply Classical.byContradiction
    intro q
    exact h ⟨x, hx, by simpa using q⟩
def del (l : List Int) (i : Nat) : List Int := l.take i ++ l.drop (i + 1)
theorem del_srt {n : Int} : ∀ (l : List Int) (lo : Int) (i : Nat), Srt n lo l → Srt n lo (del l i)
  | [], _, i, _ => by simp [del]; trivial
  | x :: l, lo, 0, h => by
    have : del (x :: l) 0 = l := by simp [del]
    rw [this]
    exact h.2.2.weak (by have := h.1; omega)
  | x :: l, lo, i + 1, h => by
    have : del (x :: l) (i + 1) = x :: del l i := by simp [del]
    rw [this]
    exact ⟨h.1, h.2.1, del_srt l (x + 1) i h.2.2⟩
theorem costL_from (m : Mp) : ∀ (l : List Int) (a : Int), l.foldl (fun n x => n + (gw m x.toNat).c) a = a + costL m l
  | [], a => by simp [costL]
  | x :: l, a => by
    have h1 := costL_from m l (a + (gw m x.toNat).c)
    have h2 := costL_from m l (0 + (gw m x.toNat).c)
    unfold costL
    rw [List.foldl_cons, List.foldl_cons, h1, h2]
    omega
theorem costL_app (m : Mp) (a b : List Int) : costL m (a ++ b) = costL m a + costL m b := by
  have := costL_from m b (costL m a)
  unfold costL at this ⊢
  rw [List.foldl_append]
  exact this
theorem del_cost (m : Mp) {l : List Int} {i : Nat} (h : i < l.length) : costL m l = costL m (del l i) + (gw m (gi l i).toNat).c := by
  have e : l = l.take (i + 1) ++ l.drop (i + 1) := (List.take_append_drop _ _).symm
  have e2 : costL m l = costL m (l.take (i + 1) ++ l.drop (i + 1)) := by rw [← e]
  rw [e2, take_snoc h, costL_app, costL_snoc]
  unfold del
  rw [costL_app]
  omega
def sumR (m : Mp) (l : List Int) : Int := l.foldl (fun n x => n + (gr m x.toNat).c) 0
theorem sumR_snoc (m : Mp) (l : List Int) (x : Int) : sumR m (l ++ [x]) = sumR m l + (gr m x.toNat).c := by
  unfold sumR; rw [List.foldl_append]; rfl
theorem sumR_aux {m : Mp} (h : OkM m) : ∀ (l : List Int) (a : Int), (∀ x ∈ l, 0 ≤ x ∧ x < m.rs.length) → a ≤ l.foldl (fun n x => n + (gr m x.toNat).c) a ∧ l.foldl (fun n x => n + (gr m x.toNat).c) a ≤ a + l.length * 1073741824
  | [], a, _ => by simp
  | x :: l, a, hx => by
    have h1 := sumR_aux h l (a + (gr m x.toNat).c) (fun y hy => hx y (List.mem_cons_of_mem _ hy))
    have h2 := hx x List.mem_cons_self
    have h3 := (roadB_ok (h.r x.toNat (by omega))).c
    simp only [List.foldl_cons, List.length_cons]
    omega
theorem sumR_rng {m : Mp} (h : OkM m) {l : List Int} (hx : ∀ x ∈ l, 0 ≤ x ∧ x < m.rs.length) : 0 ≤ sumR m l ∧ sumR m l ≤ l.length * 1073741824 := by
  have := sumR_aux h l 0 hx
  unfold sumR
  omega
end Go.Proofs.Ytfbdlmenhoagmaa

namespace Go.Proofs.Ytfbdlmenhoagmaa
open Go Sy
set_option maxRecDepth 100000
set_option maxHeartbeats 4000000
set_option linter.unusedVariables false
set_option linter.unusedSimpArgs false
theorem setsM_len (n : Nat) : (setsM n).length = 2 ^ n := by
  unfold setsM
  rw [List.length_cons, brn_len]
theorem getD_memL {l : List (List Int)} {i : Nat} (h : i < l.length) : l.getD i [] ∈ l := getD_mem' [] l i h
end Go.Proofs.Ytfbdlmenhoagmaa

namespace Go.Proofs.Ytfbdlmenhoagmaa
open Go Sy
set_option maxRecDepth 100000
set_option maxHeartbeats 4000000
set_option linter.unusedVariables false
set_option linter.unusedSimpArgs false
def atP (m : Mp) (fr : Int) (l : List Int) (i : Nat) : Int := if i = 0 then fr else (gr m (gi l (i - 1)).toNat).t
end Go.Proofs.Ytfbdlmenhoagmaa

namespace Go.Proofs.Ytfbdlmenhoagmaa
open Go Sy
set_option maxRecDepth 100000
set_option maxHeartbeats 4000000
set_option linter.unusedVariables false
set_option linter.unusedSimpArgs false
theorem eq_of_gi {l k : List Int} (h : l.length = k.length) (he : ∀ j, j < l.length → gi l j = gi k j) : l = k := by
  apply List.ext_getElem h
  intro i h1 h2
  have := he i h1
  simpa [gi, List.getD, h1, h2] using this
theorem fn33 (l k : List Int) (hl : l.length ≤ 1000000) (hk : k.length ≤ 1000000) : Sy.Fn Try.prog 33 [aI l, aI k] (bv (decide (l = k))) := by
  refine Fn_of_W mixed Xt33 rfl ?_
  repeat' (first | refine WK_go ?_ | refine W_seqL ?_ | refine W_seq ?_ | refine W_block ?_ | refine W_scp ?_ | ((first | refine W_regL ?_ | refine W_skip ?_ | refine W_exit ?_); simp (maxSteps := 400000) (disch := omega) only [push_cast, ↓reduceIte, reduceCtorEq, Nat.reduceAdd, Nat.reduceSub, Nat.reduceEqDiff, Nat.reduceLeDiff, Nat.reduceLT, Nat.reduceBEq, Nat.reduceDiv, Nat.reduceMod, Nat.reducePow, Nat.reduceMul, Int.reduceToNat, Int.reduceLT, Int.reduceLE]) | refine And.intro (by omega) ?_ | refine And.intro (by intro hq; (try simp only [Bool.and_eq_true, Bool.or_eq_true, Bool.and_eq_false_iff, Bool.or_eq_false_iff, decide_eq_true_eq, decide_eq_false_iff_not, Bool.not_eq_true', Bool.not_eq_false', beq_iff_eq, beq_eq_false_iff_ne, ne_eq] at hq); omega) ?_ | fail)
  refine W_cond (by rfl) (fun h => ?_) (fun h => ?_)
  · rw [bne_iff_ne] at h
    rw [decide_eq_false (fun q => h (by rw [q]))]
    repeat' (first | refine WK_go ?_ | refine W_seqL ?_ | refine W_seq ?_ | refine W_block ?_ | refine W_scp ?_ | ((first | refine W_regL ?_ | refine W_skip ?_ | refine W_exit ?_); simp (maxSteps := 400000) (disch := omega) only [push_cast, ↓reduceIte, reduceCtorEq, Nat.reduceAdd, Nat.reduceSub, Nat.reduceEqDiff, Nat.reduceLeDiff, Nat.reduceLT, Nat.reduceBEq, Nat.reduceDiv, Nat.reduceMod, Nat.reducePow, Nat.reduceMul, Int.reduceToNat, Int.reduceLT, Int.reduceLE]) | refine And.intro (by omega) ?_ | refine And.intro (by intro hq; (try simp only [Bool.and_eq_true, Bool.or_eq_true, Bool.and_eq_false_iff, Bool.or_eq_false_iff, decide_eq_true_eq, decide_eq_false_iff_not, Bool.not_eq_true', Bool.not_eq_false', beq_iff_eq, beq_eq_false_iff_ne, ne_eq] at hq); omega) ?_ | fail)
    exact W_ret ⟨[_], ⟨rfl, rfl⟩, rfl⟩
  rw [bne_eq_false_iff_eq] at h
  have hlen : l.length = k.length := by omega
  repeat' (first | refine WK_go ?_ | refine W_seqL ?_ | refine W_seq ?_ | refine W_block ?_ | refine W_scp ?_ | ((first | refine W_regL ?_ | refine W_skip ?_ | refine W_exit ?_); simp (maxSteps := 400000) (disch := omega) only [push_cast, ↓reduceIte, reduceCtorEq, Nat.reduceAdd, Nat.reduceSub, Nat.reduceEqDiff, Nat.reduceLeDiff, Nat.reduceLT, Nat.reduceBEq, Nat.reduceDiv, Nat.reduceMod, Nat.reducePow, Nat.reduceMul, Int.reduceToNat, Int.reduceLT, Int.reduceLE]) | refine And.intro (by omega) ?_ | refine And.intro (by intro hq; (try simp only [Bool.and_eq_true, Bool.or_eq_true, Bool.and_eq_false_iff, Bool.or_eq_false_iff, decide_eq_true_eq, decide_eq_false_iff_not, Bool.not_eq_true', Bool.not_eq_false', beq_iff_eq, beq_eq_false_iff_ne, ne_eq] at hq); omega) ?_ | fail)
  refine W_loopU (fun i : Nat => [(5, iv i)]) (fun i => []) (fun i => i ≤ l.length ∧ ∀ j, j < i → gi l j = gi k j) (fun i => l.length - i) 0 ⟨by omega, fun j hj => by omega⟩ (by rfl) (by rfl) (fun i hi => ?_)
  obtain ⟨hi, hp⟩ := hi
  simp (maxSteps := 400000) (disch := omega) only [push_cast, ↓reduceIte, reduceCtorEq, Nat.reduceAdd, Nat.reduceSub, Nat.reduceEqDiff, Nat.reduceLeDiff, Nat.reduceLT, Nat.reduceBEq, Nat.reduceDiv, Nat.reduceMod, Nat.reducePow, Nat.reduceMul, Int.reduceToNat, Int.reduceLT, Int.reduceLE]
  repeat' (first | refine WK_go ?_ | refine W_seqL ?_ | refine W_seq ?_ | refine W_block ?_ | refine W_scp ?_ | ((first | refine W_regL ?_ | refine W_skip ?_ | refine W_exit ?_); simp (maxSteps := 400000) (disch := omega) only [push_cast, ↓reduceIte, reduceCtorEq, Nat.reduceAdd, Nat.reduceSub, Nat.reduceEqDiff, Nat.reduceLeDiff, Nat.reduceLT, Nat.reduceBEq, Nat.reduceDiv, Nat.reduceMod, Nat.reducePow, Nat.reduceMul, Int.reduceToNat, Int.reduceLT, Int.reduceLE]) | refine And.intro (by omega) ?_ | refine And.intro (by intro hq; (try simp only [Bool.and_eq_true, Bool.or_eq_true, Bool.and_eq_false_iff, Bool.or_eq_false_iff, decide_eq_true_eq, decide_eq_false_iff_not, Bool.not_eq_true', Bool.not_eq_false', beq_iff_eq, beq_eq_false_iff_ne, ne_eq] at hq); omega) ?_ | fail)
  refine W_condD (by rfl) (fun h5 => ?_) (fun h5 => ?_)
  · have hlt : i < l.length := by omega
    have h1 : l.getD i 0 = gi l i := rfl
    have h2 : k.getD i 0 = gi k i := rfl
    repeat' (first | refine WK_go ?_ | refine W_seqL ?_ | refine W_seq ?_ | refine W_block ?_ | refine W_scp ?_ | ((first | refine W_regL ?_ | refine W_skip ?_ | refine W_exit ?_); simp (maxSteps := 400000) (disch := omega) only [push_cast, ↓reduceIte, reduceCtorEq, Nat.reduceAdd, Nat.reduceSub, Nat.reduceEqDiff, Nat.reduceLeDiff, Nat.reduceLT, Nat.reduceBEq, Nat.reduceDiv, Nat.reduceMod, Nat.reducePow, Nat.reduceMul, Int.reduceToNat, Int.reduceLT, Int.reduceLE, h1, h2]) | refine And.intro (by omega) ?_ | refine And.intro (by intro hq; (try simp only [Bool.and_eq_true, Bool.or_eq_true, Bool.and_eq_false_iff, Bool.or_eq_false_iff, decide_eq_true_eq, decide_eq_false_iff_not, Bool.not_eq_true', Bool.not_eq_false', beq_iff_eq, beq_eq_false_iff_ne, ne_eq] at hq); omega) ?_ | fail)
    refine W_cond (by rfl) (fun h => ?_) (fun h => ?_)
    · rw [bne_iff_ne] at h
      rw [decide_eq_false (fun q => h (by rw [q]))]
      repeat' (first | refine WK_go ?_ | refine W_seqL ?_ | refine W_seq ?_ | refine W_block ?_ | refine W_scp ?_ | ((first | refine W_regL ?_ | refine W_skip ?_ | refine W_exit ?_); simp (maxSteps := 400000) (disch := omega) only [push_cast, ↓reduceIte, reduceCtorEq, Nat.reduceAdd, Nat.reduceSub, Nat.reduceEqDiff, Nat.reduceLeDiff, Nat.reduceLT, Nat.reduceBEq, Nat.reduceDiv, Nat.reduceMod, Nat.reducePow, Nat.reduceMul, Int.reduceToNat, Int.reduceLT, Int.reduceLE]) | refine And.intro (by omega) ?_ | refine And.intro (by intro hq; (try simp only [Bool.and_eq_true, Bool.or_eq_true, Bool.and_eq_false_iff, Bool.or_eq_false_iff, decide_eq_true_eq, decide_eq_false_iff_not, Bool.not_eq_true', Bool.not_eq_false', beq_iff_eq, beq_eq_false_iff_ne, ne_eq] at hq); omega) ?_ | fail)
      exact W_ret ⟨[_], ⟨rfl, rfl⟩, rfl⟩
    · rw [bne_eq_false_iff_eq] at h
      repeat' (first | refine WK_go ?_ | refine W_seqL ?_ | refine W_seq ?_ | refine W_block ?_ | refine W_scp ?_ | ((first | refine W_regL ?_ | refine W_skip ?_ | refine W_exit ?_); simp (maxSteps := 400000) (disch := omega) only [push_cast, ↓reduceIte, reduceCtorEq, Nat.reduceAdd, Nat.reduceSub, Nat.reduceEqDiff, Nat.reduceLeDiff, Nat.reduceLT, Nat.reduceBEq, Nat.reduceDiv, Nat.reduceMod, Nat.reducePow, Nat.reduceMul, Int.reduceToNat, Int.reduceLT, Int.reduceLE]) | refine And.intro (by omega) ?_ | refine And.intro (by intro hq; (try simp only [Bool.and_eq_true, Bool.or_eq_true, Bool.and_eq_false_iff, Bool.or_eq_false_iff, decide_eq_true_eq, decide_eq_false_iff_not, Bool.not_eq_true', Bool.not_eq_false', beq_iff_eq, beq_eq_false_iff_ne, ne_eq] at hq); omega) ?_ | fail)
      refine ⟨i + 1, ⟨by omega, fun j hj => ?_⟩, by omega, by rfl, ?_⟩
      · rcases Nat.lt_or_ge j i with q | q
        · exact hp j q
        · rw [show j = i by omega]; exact h
      simp (maxSteps := 400000) (disch := omega) only [push_cast, ↓reduceIte, reduceCtorEq, Nat.reduceAdd, Nat.reduceSub, Nat.reduceEqDiff, Nat.reduceLeDiff, Nat.reduceLT, Nat.reduceBEq, Nat.reduceDiv, Nat.reduceMod, Nat.reducePow, Nat.reduceMul, Int.reduceToNat, Int.reduceLT, Int.reduceLE, S.mk.injEq, List.cons.injEq, Prod.mk.injEq, AV.v.injEq, Value.int.injEq, Value.bool.injEq, Blk.cells.injEq]
  · rw [decide_eq_true (eq_of_gi hlen (fun j hj => hp j (by omega)))]
    repeat' (first | refine WK_go ?_ | refine W_seqL ?_ | refine W_seq ?_ | refine W_block ?_ | refine W_scp ?_ | ((first | refine W_regL ?_ | refine W_skip ?_ | refine W_exit ?_); simp (maxSteps := 400000) (disch := omega) only [push_cast, ↓reduceIte, reduceCtorEq, Nat.reduceAdd, Nat.reduceSub, Nat.reduceEqDiff, Nat.reduceLeDiff, Nat.reduceLT, Nat.reduceBEq, Nat.reduceDiv, Nat.reduceMod, Nat.reducePow, Nat.reduceMul, Int.reduceToNat, Int.reduceLT, Int.reduceLE]) | refine And.intro (by omega) ?_ | refine And.intro (by intro hq; (try simp only [Bool.and_eq_true, Bool.or_eq_true, Bool.and_eq_false_iff, Bool.or_eq_false_iff, decide_eq_true_eq, decide_eq_false_iff_not, Bool.not_eq_true', Bool.not_eq_false', beq_iff_eq, beq_eq_false_iff_ne, ne_eq] at hq); omega) ?_ | fail)
    exact W_ret ⟨[_], ⟨rfl, rfl⟩, rfl⟩
theorem set_gi {n : Int} {s : List Int} (hs : Srt n 0 s) {i : Nat} (h : i < s.length) : ∃ x : Nat, gi s i = x ∧ (x : Int) < n := by
  have h1 := hs.mem (gi s i) (by unfold gi; exact getD_mem' 0 s i h)
  exact ⟨(gi s i).toNat, by omega, by omega⟩
theorem fn123 (m : Mp) (s : List Int) (road k : Nat) (h : OkM m) (hs : Srt m.ws.length 0 s) (hr : road < m.rs.length) (hk : k < 6) : Sy.Fn Try.prog 123 [aM m, aI s, iv road, iv k] (iv (limL m s road k)) := by
  refine Fn_of_W mixed Xt123 rfl ?_
  have hw := h.nw
  have hlim : nth (cR (gr m road)) (6 + k) = iv ((gr m road).lim k) := by
    rcases k with _ | _ | _ | _ | _ | _ | k <;> first | rfl | omega
  have hgr : m.rs.getD road dR = gr m road := rfl
  have hsl := hs.len (by omega)
  repeat' (first | refine WK_go ?_ | refine W_seqL ?_ | refine W_seq ?_ | refine W_block ?_ | refine W_scp ?_ | ((first | refine W_regL ?_ | refine W_skip ?_ | refine W_exit ?_); simp (maxSteps := 400000) (disch := omega) only [push_cast, ↓reduceIte, reduceCtorEq, Nat.reduceAdd, Nat.reduceSub, Nat.reduceEqDiff, Nat.reduceLeDiff, Nat.reduceLT, Nat.reduceBEq, Nat.reduceDiv, Nat.reduceMod, Nat.reducePow, Nat.reduceMul, Int.reduceToNat, Int.reduceLT, Int.reduceLE, hgr, hlim, Nat.mul_one, Nat.add_assoc]) | refine And.intro (by omega) ?_ | refine And.intro (by intro hq; (try simp only [Bool.and_eq_true, Bool.or_eq_true, Bool.and_eq_false_iff, Bool.or_eq_false_iff, decide_eq_true_eq, decide_eq_false_iff_not, Bool.not_eq_true', Bool.not_eq_false', beq_iff_eq, beq_eq_false_iff_ne, ne_eq] at hq); omega) ?_ | fail)
  refine W_loopU (fun i : Nat => [(9, iv (limL m (s.take i) road k)), (10, iv i)]) (fun i => []) (fun i => i ≤ s.length) (fun i => s.length - i) 0 (by omega) (by rfl) (by rfl) (fun i hi => ?_)
  simp (maxSteps := 400000) (disch := omega) only [push_cast, ↓reduceIte, reduceCtorEq, Nat.reduceAdd, Nat.reduceSub, Nat.reduceEqDiff, Nat.reduceLeDiff, Nat.reduceLT, Nat.reduceBEq, Nat.reduceDiv, Nat.reduceMod, Nat.reducePow, Nat.reduceMul, Int.reduceToNat, Int.reduceLT, Int.reduceLE]
  repeat' (first | refine WK_go ?_ | refine W_seqL ?_ | refine W_seq ?_ | refine W_block ?_ | refine W_scp ?_ | ((first | refine W_regL ?_ | refine W_skip ?_ | refine W_exit ?_); simp (maxSteps := 400000) (disch := omega) only [push_cast, ↓reduceIte, reduceCtorEq, Nat.reduceAdd, Nat.reduceSub, Nat.reduceEqDiff, Nat.reduceLeDiff, Nat.reduceLT, Nat.reduceBEq, Nat.reduceDiv, Nat.reduceMod, Nat.reducePow, Nat.reduceMul, Int.reduceToNat, Int.reduceLT, Int.reduceLE]) | refine And.intro (by omega) ?_ | refine And.intro (by intro hq; (try simp only [Bool.and_eq_true, Bool.or_eq_true, Bool.and_eq_false_iff, Bool.or_eq_false_iff, decide_eq_true_eq, decide_eq_false_iff_not, Bool.not_eq_true', Bool.not_eq_false', beq_iff_eq, beq_eq_false_iff_ne, ne_eq] at hq); omega) ?_ | fail)
  refine W_condD (by rfl) (fun h5 => ?_) (fun h5 => ?_)
  · have hlt : i < s.length := by omega
    obtain ⟨x, hx, hxn⟩ := set_gi hs hlt
    have hx2 : s.getD i 0 = (x : Int) := hx
    have ec : limL m (s.take (i + 1)) road k = limS m road k (limL m (s.take i) road k) x := by rw [take_snoc hlt, hx, limL_snoc]
    have es : ∀ n : Int, limS m road k n x = if (gw m x).k = k ∧ (road : Int) ∈ (gw m x).rs then max n (gw m x).l else n := fun _ => rfl
    have hgw : m.ws.getD x dW = gw m x := rfl
    have hwl := h.s x (by omega)
    have c107 := fn107 (gw m x).rs (road : Int) (by omega)
    rw [es] at ec
    generalize limL m (s.take i) road k = C at *
    generalize gw m x = w at *
    repeat' (first | refine WK_go ?_ | refine W_seqL ?_ | refine W_seq ?_ | refine W_block ?_ | refine W_scp ?_ | ((first | refine W_regL ?_ | refine W_skip ?_ | refine W_exit ?_ | refine CallC.go _ (fun _ => ⟨trivial, c107⟩) rfl ?_); simp (maxSteps := 400000) (disch := omega) only [push_cast, ↓reduceIte, reduceCtorEq, Nat.reduceAdd, Nat.reduceSub, Nat.reduceEqDiff, Nat.reduceLeDiff, Nat.reduceLT, Nat.reduceBEq, Nat.reduceDiv, Nat.reduceMod, Nat.reducePow, Nat.reduceMul, Int.reduceToNat, Int.reduceLT, Int.reduceLE, hx2, hgw]) | refine And.intro (by omega) ?_ | refine And.intro (by intro hq; (try simp only [Bool.and_eq_true, Bool.or_eq_true, Bool.and_eq_false_iff, Bool.or_eq_false_iff, decide_eq_true_eq, decide_eq_false_iff_not, Bool.not_eq_true', Bool.not_eq_false', beq_iff_eq, beq_eq_false_iff_ne, ne_eq] at hq); omega) ?_ | fail)
    refine W_cond (by rfl) (fun hz => ?_) (fun hz => ?_)
    · rw [Bool.and_eq_true, beq_iff_eq, decide_eq_true_eq] at hz
      rw [if_pos hz] at ec
      repeat' (first | refine WK_go ?_ | refine W_seqL ?_ | refine W_seq ?_ | refine W_block ?_ | refine W_scp ?_ | ((first | refine W_regL ?_ | refine W_skip ?_ | refine W_exit ?_); simp (maxSteps := 400000) (disch := omega) only [push_cast, ↓reduceIte, reduceCtorEq, Nat.reduceAdd, Nat.reduceSub, Nat.reduceEqDiff, Nat.reduceLeDiff, Nat.reduceLT, Nat.reduceBEq, Nat.reduceDiv, Nat.reduceMod, Nat.reducePow, Nat.reduceMul, Int.reduceToNat, Int.reduceLT, Int.reduceLE]) | refine And.intro (by omega) ?_ | refine And.intro (by intro hq; (try simp only [Bool.and_eq_true, Bool.or_eq_true, Bool.and_eq_false_iff, Bool.or_eq_false_iff, decide_eq_true_eq, decide_eq_false_iff_not, Bool.not_eq_true', Bool.not_eq_false', beq_iff_eq, beq_eq_false_iff_ne, ne_eq] at hq); omega) ?_ | fail)
      refine ⟨i + 1, by omega, by omega, by rfl, ?_⟩
      rw [ec]
      simp (maxSteps := 400000) (disch := omega) only [push_cast, ↓reduceIte, reduceCtorEq, Nat.reduceAdd, Nat.reduceSub, Nat.reduceEqDiff, Nat.reduceLeDiff, Nat.reduceLT, Nat.reduceBEq, Nat.reduceDiv, Nat.reduceMod, Nat.reducePow, Nat.reduceMul, Int.reduceToNat, Int.reduceLT, Int.reduceLE, S.mk.injEq, List.cons.injEq, Prod.mk.injEq, AV.v.injEq, Value.int.injEq, Value.bool.injEq, Blk.cells.injEq]
    · have hz : ¬ (w.k = k ∧ (road : Int) ∈ w.rs) := by
        rintro ⟨z1, z2⟩
        rw [z1, decide_eq_true z2] at hz
        simp at hz
      rw [if_neg hz] at ec
      repeat' (first | refine WK_go ?_ | refine W_seqL ?_ | refine W_seq ?_ | refine W_block ?_ | refine W_scp ?_ | ((first | refine W_regL ?_ | refine W_skip ?_ | refine W_exit ?_); simp (maxSteps := 400000) (disch := omega) only [push_cast, ↓reduceIte, reduceCtorEq, Nat.reduceAdd, Nat.reduceSub, Nat.reduceEqDiff, Nat.reduceLeDiff, Nat.reduceLT, Nat.reduceBEq, Nat.reduceDiv, Nat.reduceMod, Nat.reducePow, Nat.reduceMul, Int.reduceToNat, Int.reduceLT, Int.reduceLE]) | refine And.intro (by omega) ?_ | refine And.intro (by intro hq; (try simp only [Bool.and_eq_true, Bool.or_eq_true, Bool.and_eq_false_iff, Bool.or_eq_false_iff, decide_eq_true_eq, decide_eq_false_iff_not, Bool.not_eq_true', Bool.not_eq_false', beq_iff_eq, beq_eq_false_iff_ne, ne_eq] at hq); omega) ?_ | fail)
      refine ⟨i + 1, by omega, by omega, by rfl, ?_⟩
      rw [ec]
      simp (maxSteps := 400000) (disch := omega) only [push_cast, ↓reduceIte, reduceCtorEq, Nat.reduceAdd, Nat.reduceSub, Nat.reduceEqDiff, Nat.reduceLeDiff, Nat.reduceLT, Nat.reduceBEq, Nat.reduceDiv, Nat.reduceMod, Nat.reducePow, Nat.reduceMul, Int.reduceToNat, Int.reduceLT, Int.reduceLE, S.mk.injEq, List.cons.injEq, Prod.mk.injEq, AV.v.injEq, Value.int.injEq, Value.bool.injEq, Blk.cells.injEq]
  · have hil : i = s.length := by omega
    rw [hil, List.take_length]
    repeat' (first | refine WK_go ?_ | refine W_seqL ?_ | refine W_seq ?_ | refine W_block ?_ | refine W_scp ?_ | ((first | refine W_regL ?_ | refine W_skip ?_ | refine W_exit ?_); simp (maxSteps := 400000) (disch := omega) only [push_cast, ↓reduceIte, reduceCtorEq, Nat.reduceAdd, Nat.reduceSub, Nat.reduceEqDiff, Nat.reduceLeDiff, Nat.reduceLT, Nat.reduceBEq, Nat.reduceDiv, Nat.reduceMod, Nat.reducePow, Nat.reduceMul, Int.reduceToNat, Int.reduceLT, Int.reduceLE]) | refine And.intro (by omega) ?_ | refine And.intro (by intro hq; (try simp only [Bool.and_eq_true, Bool.or_eq_true, Bool.and_eq_false_iff, Bool.or_eq_false_iff, decide_eq_true_eq, decide_eq_false_iff_not, Bool.not_eq_true', Bool.not_eq_false', beq_iff_eq, beq_eq_false_iff_ne, ne_eq] at hq); omega) ?_ | fail)
    exact W_ret ⟨[_], ⟨rfl, rfl⟩, rfl⟩
theorem srt_take {n : Int} : ∀ (l : List Int) (lo : Int) (i : Nat), Srt n lo l → Srt n lo (l.take i)
  | [], _, i, _ => by simp; trivial
  | x :: l, lo, 0, h => by simp; trivial
  | x :: l, lo, i + 1, h => by
    rw [List.take_succ_cons]
    exact ⟨h.1, h.2.1, srt_take l (x + 1) i h.2.2⟩
theorem fn92 (m : Mp) (s : List Int) (h : OkM m) (hs : Srt m.ws.length 0 s) : Sy.Fn Try.prog 92 [aM m, aI s] (iv (costL m s)) := by
  refine Fn_of_W mixed Xt92 rfl ?_
  have hw := h.nw
  have hsl := hs.len (by omega)
  repeat' (first | refine WK_go ?_ | refine W_seqL ?_ | refine W_seq ?_ | refine W_block ?_ | refine W_scp ?_ | ((first | refine W_regL ?_ | refine W_skip ?_ | refine W_exit ?_); simp (maxSteps := 400000) (disch := omega) only [push_cast, ↓reduceIte, reduceCtorEq, Nat.reduceAdd, Nat.reduceSub, Nat.reduceEqDiff, Nat.reduceLeDiff, Nat.reduceLT, Nat.reduceBEq, Nat.reduceDiv, Nat.reduceMod, Nat.reducePow, Nat.reduceMul, Int.reduceToNat, Int.reduceLT, Int.reduceLE]) | refine And.intro (by omega) ?_ | refine And.intro (by intro hq; (try simp only [Bool.and_eq_true, Bool.or_eq_true, Bool.and_eq_false_iff, Bool.or_eq_false_iff, decide_eq_true_eq, decide_eq_false_iff_not, Bool.not_eq_true', Bool.not_eq_false', beq_iff_eq, beq_eq_false_iff_ne, ne_eq] at hq); omega) ?_ | fail)
  refine W_loopU (fun i : Nat => [(5, iv (costL m (s.take i))), (6, iv i)]) (fun i => []) (fun i => i ≤ s.length) (fun i => s.length - i) 0 (by omega) (by rfl) (by rfl) (fun i hi => ?_)
  simp (maxSteps := 400000) (disch := omega) only [push_cast, ↓reduceIte, reduceCtorEq, Nat.reduceAdd, Nat.reduceSub, Nat.reduceEqDiff, Nat.reduceLeDiff, Nat.reduceLT, Nat.reduceBEq, Nat.reduceDiv, Nat.reduceMod, Nat.reducePow, Nat.reduceMul, Int.reduceToNat, Int.reduceLT, Int.reduceLE]
  repeat' (first | refine WK_go ?_ | refine W_seqL ?_ | refine W_seq ?_ | refine W_block ?_ | refine W_scp ?_ | ((first | refine W_regL ?_ | refine W_skip ?_ | refine W_exit ?_); simp (maxSteps := 400000) (disch := omega) only [push_cast, ↓reduceIte, reduceCtorEq, Nat.reduceAdd, Nat.reduceSub, Nat.reduceEqDiff, Nat.reduceLeDiff, Nat.reduceLT, Nat.reduceBEq, Nat.reduceDiv, Nat.reduceMod, Nat.reducePow, Nat.reduceMul, Int.reduceToNat, Int.reduceLT, Int.reduceLE]) | refine And.intro (by omega) ?_ | refine And.intro (by intro hq; (try simp only [Bool.and_eq_true, Bool.or_eq_true, Bool.and_eq_false_iff, Bool.or_eq_false_iff, decide_eq_true_eq, decide_eq_false_iff_not, Bool.not_eq_true', Bool.not_eq_false', beq_iff_eq, beq_eq_false_iff_ne, ne_eq] at hq); omega) ?_ | fail)
  refine W_condD (by rfl) (fun h5 => ?_) (fun h5 => ?_)
  · have hlt : i < s.length := by omega
    obtain ⟨x, hx, hxn⟩ := set_gi hs hlt
    have hx2 : s.getD i 0 = (x : Int) := hx
    have ec : costL m (s.take (i + 1)) = costL m (s.take i) + (gw m x).c := by rw [take_snoc hlt, hx, costL_snoc]; rfl
    have hgw : m.ws.getD x dW = gw m x := rfl
    have b1 := costL_set h (srt_take s 0 i hs)
    have b2 := costL_set h (srt_take s 0 (i + 1) hs)
    rw [ec] at b2
    generalize costL m (s.take i) = C at *
    repeat' (first | refine WK_go ?_ | refine W_seqL ?_ | refine W_seq ?_ | refine W_block ?_ | refine W_scp ?_ | ((first | refine W_regL ?_ | refine W_skip ?_ | refine W_exit ?_); simp (maxSteps := 400000) (disch := omega) only [push_cast, ↓reduceIte, reduceCtorEq, Nat.reduceAdd, Nat.reduceSub, Nat.reduceEqDiff, Nat.reduceLeDiff, Nat.reduceLT, Nat.reduceBEq, Nat.reduceDiv, Nat.reduceMod, Nat.reducePow, Nat.reduceMul, Int.reduceToNat, Int.reduceLT, Int.reduceLE, hx2, hgw]) | refine And.intro (by omega) ?_ | refine And.intro (by intro hq; (try simp only [Bool.and_eq_true, Bool.or_eq_true, Bool.and_eq_false_iff, Bool.or_eq_false_iff, decide_eq_true_eq, decide_eq_false_iff_not, Bool.not_eq_true', Bool.not_eq_false', beq_iff_eq, beq_eq_false_iff_ne, ne_eq] at hq); omega) ?_ | fail)
    refine ⟨i + 1, by omega, by omega, by rfl, ?_⟩
    rw [ec]
    simp (maxSteps := 400000) (disch := omega) only [push_cast, ↓reduceIte, reduceCtorEq, Nat.reduceAdd, Nat.reduceSub, Nat.reduceEqDiff, Nat.reduceLeDiff, Nat.reduceLT, Nat.reduceBEq, Nat.reduceDiv, Nat.reduceMod, Nat.reducePow, Nat.reduceMul, Int.reduceToNat, Int.reduceLT, Int.reduceLE, S.mk.injEq, List.cons.injEq, Prod.mk.injEq, AV.v.injEq, Value.int.injEq, Value.bool.injEq, Blk.cells.injEq]
  · have hil : i = s.length := by omega
    rw [hil, List.take_length]
    repeat' (first | refine WK_go ?_ | refine W_seqL ?_ | refine W_seq ?_ | refine W_block ?_ | refine W_scp ?_ | ((first | refine W_regL ?_ | refine W_skip ?_ | refine W_exit ?_); simp (maxSteps := 400000) (disch := omega) only [push_cast, ↓reduceIte, reduceCtorEq, Nat.reduceAdd, Nat.reduceSub, Nat.reduceEqDiff, Nat.reduceLeDiff, Nat.reduceLT, Nat.reduceBEq, Nat.reduceDiv, Nat.reduceMod, Nat.reducePow, Nat.reduceMul, Int.reduceToNat, Int.reduceLT, Int.reduceLE]) | refine And.intro (by omega) ?_ | refine And.intro (by intro hq; (try simp only [Bool.and_eq_true, Bool.or_eq_true, Bool.and_eq_false_iff, Bool.or_eq_false_iff, decide_eq_true_eq, decide_eq_false_iff_not, Bool.not_eq_true', Bool.not_eq_false', beq_iff_eq, beq_eq_false_iff_ne, ne_eq] at hq); omega) ?_ | fail)
    exact W_ret ⟨[_], ⟨rfl, rfl⟩, rfl⟩
end Go.Proofs.Ytfbdlmenhoagmaa

namespace Go.Proofs.Ytfbdlmenhoagmaa
open Go Sy
set_option maxRecDepth 100000
set_option maxHeartbeats 4000000
set_option linter.unusedVariables false
set_option linter.unusedSimpArgs false
theorem fn80 (m : Mp) (f : Nat → Int) (s rs : List Int) (h : OkM m) (hs : Srt m.ws.length 0 s) (hr : rdE m rs = 0) : Sy.Fn Try.prog 80 [aM m, .agg (c6 f), aI s, aI rs] (aC (czR m f s rs)) := by
  refine Fn_of_W mixed Xt80 rfl ?_
  obtain ⟨hl3, hlr⟩ := rdE_ok hr
  repeat' (first | refine WK_go ?_ | refine W_seqL ?_ | refine W_seq ?_ | refine W_block ?_ | refine W_scp ?_ | ((first | refine W_regL ?_ | refine W_skip ?_ | refine W_exit ?_); simp (maxSteps := 400000) (disch := omega) only [push_cast, ↓reduceIte, reduceCtorEq, Nat.reduceAdd, Nat.reduceSub, Nat.reduceEqDiff, Nat.reduceLeDiff, Nat.reduceLT, Nat.reduceBEq, Nat.reduceDiv, Nat.reduceMod, Nat.reducePow, Nat.reduceMul, Int.reduceToNat, Int.reduceLT, Int.reduceLE]) | refine And.intro (by omega) ?_ | refine And.intro (by intro hq; (try simp only [Bool.and_eq_true, Bool.or_eq_true, Bool.and_eq_false_iff, Bool.or_eq_false_iff, decide_eq_true_eq, decide_eq_false_iff_not, Bool.not_eq_true', Bool.not_eq_false', beq_iff_eq, beq_eq_false_iff_ne, ne_eq] at hq); omega) ?_ | fail)
  refine W_le (le_adopt 9 57 4 dC cC (by omega) rfl) ?_
  simp (maxSteps := 400000) (disch := omega) only [push_cast, ↓reduceIte, reduceCtorEq, Nat.reduceAdd, Nat.reduceSub, Nat.reduceEqDiff, Nat.reduceLeDiff, Nat.reduceLT, Nat.reduceBEq, Nat.reduceDiv, Nat.reduceMod, Nat.reducePow, Nat.reduceMul, Int.reduceToNat, Int.reduceLT, Int.reduceLE]
  refine W_loopU (fun i : Nat => [(9, .row 5 (czR m f s (rs.take i)).length), (10, iv i)]) (fun i => [(5, .row (czR m f s (rs.take i)).length 57 4 dC cC (czR m f s (rs.take i)))]) (fun i => i ≤ rs.length) (fun i => rs.length - i) 0 (by omega) (by rfl) (by rfl) (fun i hi => ?_)
  have hcl := czR_len m f s (rs.take i)
  have htl : (rs.take i).length = i := by rw [List.length_take]; omega
  rw [htl] at hcl
  simp (maxSteps := 400000) (disch := omega) only [push_cast, ↓reduceIte, reduceCtorEq, Nat.reduceAdd, Nat.reduceSub, Nat.reduceEqDiff, Nat.reduceLeDiff, Nat.reduceLT, Nat.reduceBEq, Nat.reduceDiv, Nat.reduceMod, Nat.reducePow, Nat.reduceMul, Int.reduceToNat, Int.reduceLT, Int.reduceLE]
  repeat' (first | refine WK_go ?_ | refine W_seqL ?_ | refine W_seq ?_ | refine W_block ?_ | refine W_scp ?_ | ((first | refine W_regL ?_ | refine W_skip ?_ | refine W_exit ?_); simp (maxSteps := 400000) (disch := omega) only [push_cast, ↓reduceIte, reduceCtorEq, Nat.reduceAdd, Nat.reduceSub, Nat.reduceEqDiff, Nat.reduceLeDiff, Nat.reduceLT, Nat.reduceBEq, Nat.reduceDiv, Nat.reduceMod, Nat.reducePow, Nat.reduceMul, Int.reduceToNat, Int.reduceLT, Int.reduceLE]) | refine And.intro (by omega) ?_ | refine And.intro (by intro hq; (try simp only [Bool.and_eq_true, Bool.or_eq_true, Bool.and_eq_false_iff, Bool.or_eq_false_iff, decide_eq_true_eq, decide_eq_false_iff_not, Bool.not_eq_true', Bool.not_eq_false', beq_iff_eq, beq_eq_false_iff_ne, ne_eq] at hq); omega) ?_ | fail)
  refine W_condD (by rfl) (fun h5 => ?_) (fun h5 => ?_)
  rotate_left
  · have hil : i = rs.length := by omega
    rw [hil, List.take_length]
    repeat' (first | refine WK_go ?_ | refine W_seqL ?_ | refine W_seq ?_ | refine W_block ?_ | refine W_scp ?_ | ((first | refine W_regL ?_ | refine W_skip ?_ | refine W_exit ?_); simp (maxSteps := 400000) (disch := omega) only [push_cast, ↓reduceIte, reduceCtorEq, Nat.reduceAdd, Nat.reduceSub, Nat.reduceEqDiff, Nat.reduceLeDiff, Nat.reduceLT, Nat.reduceBEq, Nat.reduceDiv, Nat.reduceMod, Nat.reducePow, Nat.reduceMul, Int.reduceToNat, Int.reduceLT, Int.reduceLE]) | refine And.intro (by omega) ?_ | refine And.intro (by intro hq; (try simp only [Bool.and_eq_true, Bool.or_eq_true, Bool.and_eq_false_iff, Bool.or_eq_false_iff, decide_eq_true_eq, decide_eq_false_iff_not, Bool.not_eq_true', Bool.not_eq_false', beq_iff_eq, beq_eq_false_iff_ne, ne_eq] at hq); omega) ?_ | fail)
    refine W_ret ⟨[_], ⟨rfl, rfl⟩, ?_⟩
    simp (maxSteps := 400000) (disch := omega) only [push_cast, ↓reduceIte, reduceCtorEq, Nat.reduceAdd, Nat.reduceSub, Nat.reduceEqDiff, Nat.reduceLeDiff, Nat.reduceLT, Nat.reduceBEq, Nat.reduceDiv, Nat.reduceMod, Nat.reducePow, Nat.reduceMul, Int.reduceToNat, Int.reduceLT, Int.reduceLE, pack]
  have hlt : i < rs.length := by omega
  have hsn : czR m f s (rs.take (i + 1)) = czR m f s (rs.take i) ++ czK m f s (gi rs i).toNat 6 := by rw [take_snoc hlt, czR_snoc]
  obtain ⟨road, hrd⟩ : ∃ road : Nat, gi rs i = road := ⟨(gi rs i).toNat, by have := hlr i hlt; omega⟩
  have hrl : road < m.rs.length := by have := hlr i hlt; omega
  rw [hrd, Int.toNat_natCast] at hsn
  have hrd2 : rs.getD i 0 = (road : Int) := hrd
  generalize czR m f s (rs.take i) = X at *
  repeat' (first | refine WK_go ?_ | refine W_seqL ?_ | refine W_seq ?_ | refine W_block ?_ | refine W_scp ?_ | ((first | refine W_regL ?_ | refine W_skip ?_ | refine W_exit ?_); simp (maxSteps := 400000) (disch := omega) only [push_cast, ↓reduceIte, reduceCtorEq, Nat.reduceAdd, Nat.reduceSub, Nat.reduceEqDiff, Nat.reduceLeDiff, Nat.reduceLT, Nat.reduceBEq, Nat.reduceDiv, Nat.reduceMod, Nat.reducePow, Nat.reduceMul, Int.reduceToNat, Int.reduceLT, Int.reduceLE, hrd2]) | refine And.intro (by omega) ?_ | refine And.intro (by intro hq; (try simp only [Bool.and_eq_true, Bool.or_eq_true, Bool.and_eq_false_iff, Bool.or_eq_false_iff, decide_eq_true_eq, decide_eq_false_iff_not, Bool.not_eq_true', Bool.not_eq_false', beq_iff_eq, beq_eq_false_iff_ne, ne_eq] at hq); omega) ?_ | fail)
  refine W_loopU (fun k : Nat => [(9, .row 5 (X ++ czK m f s road k).length), (11, iv k)]) (fun k => [(5, .row (X ++ czK m f s road k).length 57 4 dC cC (X ++ czK m f s road k))]) (fun k => k ≤ 6) (fun k => 6 - k) 0 (by omega) (by rfl) (by simp only [czK, List.range_zero, List.flatMap_nil, List.append_nil]; rfl) (fun k hk => ?_)
  have hkl := czK_len m f s road k
  have hks := czK_succ m f s road k
  have hal : (X ++ czK m f s road k).length ≤ 1000000 := by rw [List.length_append]; omega
  simp (maxSteps := 400000) (disch := omega) only [push_cast, ↓reduceIte, reduceCtorEq, Nat.reduceAdd, Nat.reduceSub, Nat.reduceEqDiff, Nat.reduceLeDiff, Nat.reduceLT, Nat.reduceBEq, Nat.reduceDiv, Nat.reduceMod, Nat.reducePow, Nat.reduceMul, Int.reduceToNat, Int.reduceLT, Int.reduceLE]
  repeat' (first | refine WK_go ?_ | refine W_seqL ?_ | refine W_seq ?_ | refine W_block ?_ | refine W_scp ?_ | ((first | refine W_regL ?_ | refine W_skip ?_ | refine W_exit ?_); simp (maxSteps := 400000) (disch := omega) only [push_cast, ↓reduceIte, reduceCtorEq, Nat.reduceAdd, Nat.reduceSub, Nat.reduceEqDiff, Nat.reduceLeDiff, Nat.reduceLT, Nat.reduceBEq, Nat.reduceDiv, Nat.reduceMod, Nat.reducePow, Nat.reduceMul, Int.reduceToNat, Int.reduceLT, Int.reduceLE]) | refine And.intro (by omega) ?_ | refine And.intro (by intro hq; (try simp only [Bool.and_eq_true, Bool.or_eq_true, Bool.and_eq_false_iff, Bool.or_eq_false_iff, decide_eq_true_eq, decide_eq_false_iff_not, Bool.not_eq_true', Bool.not_eq_false', beq_iff_eq, beq_eq_false_iff_ne, ne_eq] at hq); omega) ?_ | fail)
  refine W_condD (by rfl) (fun h6 => ?_) (fun h6 => ?_)
  · have hk6 : k < 6 := by omega
    have c123 := fn123 m s road k h hs hrl hk6
    have ez : cz1 m f s road k = if limL m s road k < f k then [⟨road, k, limL m s road k, f k⟩] else [] := rfl
    obtain ⟨n, hnl⟩ : ∃ n, n = limL m s road k := ⟨_, rfl⟩
    rw [← hnl] at c123 ez
    have hys : X ++ czK m f s road (k + 1) = (X ++ czK m f s road k) ++ cz1 m f s road k := by rw [hks, List.append_assoc]
    generalize X ++ czK m f s road k = Y at *
    repeat' (first | refine WK_go ?_ | refine W_seqL ?_ | refine W_seq ?_ | refine W_block ?_ | refine W_scp ?_ | ((first | refine W_regL ?_ | refine W_skip ?_ | refine W_exit ?_ | refine CallC.now (c123) ?_); simp (maxSteps := 400000) (disch := omega) only [push_cast, ↓reduceIte, reduceCtorEq, Nat.reduceAdd, Nat.reduceSub, Nat.reduceEqDiff, Nat.reduceLeDiff, Nat.reduceLT, Nat.reduceBEq, Nat.reduceDiv, Nat.reduceMod, Nat.reducePow, Nat.reduceMul, Int.reduceToNat, Int.reduceLT, Int.reduceLE, hrd2, Nat.mul_one, Nat.zero_add]) | refine And.intro (by omega) ?_ | refine And.intro (by intro hq; (try simp only [Bool.and_eq_true, Bool.or_eq_true, Bool.and_eq_false_iff, Bool.or_eq_false_iff, decide_eq_true_eq, decide_eq_false_iff_not, Bool.not_eq_true', Bool.not_eq_false', beq_iff_eq, beq_eq_false_iff_ne, ne_eq] at hq); omega) ?_ | fail)
    refine W_condD (by rfl) (fun q => ?_) (fun q => ?_)
    · rw [if_pos q] at ez
      repeat' (first | refine WK_go ?_ | refine W_seqL ?_ | refine W_seq ?_ | refine W_block ?_ | refine W_scp ?_ | ((first | refine W_regL ?_ | refine W_skip ?_ | refine W_exit ?_); simp (maxSteps := 400000) (disch := omega) only [push_cast, ↓reduceIte, reduceCtorEq, Nat.reduceAdd, Nat.reduceSub, Nat.reduceEqDiff, Nat.reduceLeDiff, Nat.reduceLT, Nat.reduceBEq, Nat.reduceDiv, Nat.reduceMod, Nat.reducePow, Nat.reduceMul, Int.reduceToNat, Int.reduceLT, Int.reduceLE, hrd2, Nat.mul_one, Nat.zero_add]) | refine And.intro (by omega) ?_ | refine And.intro (by intro hq; (try simp only [Bool.and_eq_true, Bool.or_eq_true, Bool.and_eq_false_iff, Bool.or_eq_false_iff, decide_eq_true_eq, decide_eq_false_iff_not, Bool.not_eq_true', Bool.not_eq_false', beq_iff_eq, beq_eq_false_iff_ne, ne_eq] at hq); omega) ?_ | fail)
      refine ⟨rfl, trivial, Cs, dC, cC, [⟨road, k, n, f k⟩], rfl, by omega, fun x _ => ⟨rfl, rfl⟩, rfl, ?_⟩
      simp (maxSteps := 400000) (disch := omega) only [push_cast, ↓reduceIte, reduceCtorEq, Nat.reduceAdd, Nat.reduceSub, Nat.reduceEqDiff, Nat.reduceLeDiff, Nat.reduceLT, Nat.reduceBEq, Nat.reduceDiv, Nat.reduceMod, Nat.reducePow, Nat.reduceMul, Int.reduceToNat, Int.reduceLT, Int.reduceLE]
      refine ⟨rfl, ⟨Nat.le_of_ble_eq_true rfl, rfl⟩, trivial, [(⟨road, k, n, f k⟩ : Cs)], rfl, by first | omega | (simp; omega), by first | omega | (simp; omega), ?_⟩
      simp (maxSteps := 400000) (disch := omega) only [push_cast, ↓reduceIte, reduceCtorEq, Nat.reduceAdd, Nat.reduceSub, Nat.reduceEqDiff, Nat.reduceLeDiff, Nat.reduceLT, Nat.reduceBEq, Nat.reduceDiv, Nat.reduceMod, Nat.reducePow, Nat.reduceMul, Int.reduceToNat, Int.reduceLT, Int.reduceLE]
      repeat' (first | refine WK_go ?_ | refine W_seqL ?_ | refine W_seq ?_ | refine W_block ?_ | refine W_scp ?_ | ((first | refine W_regL ?_ | refine W_skip ?_ | refine W_exit ?_); simp (maxSteps := 400000) (disch := omega) only [push_cast, ↓reduceIte, reduceCtorEq, Nat.reduceAdd, Nat.reduceSub, Nat.reduceEqDiff, Nat.reduceLeDiff, Nat.reduceLT, Nat.reduceBEq, Nat.reduceDiv, Nat.reduceMod, Nat.reducePow, Nat.reduceMul, Int.reduceToNat, Int.reduceLT, Int.reduceLE]) | refine And.intro (by omega) ?_ | refine And.intro (by intro hq; (try simp only [Bool.and_eq_true, Bool.or_eq_true, Bool.and_eq_false_iff, Bool.or_eq_false_iff, decide_eq_true_eq, decide_eq_false_iff_not, Bool.not_eq_true', Bool.not_eq_false', beq_iff_eq, beq_eq_false_iff_ne, ne_eq] at hq); omega) ?_ | fail)
      refine ⟨k + 1, by omega, by omega, by rfl, ?_⟩
      rw [hys, ez, List.length_append]
      simp (maxSteps := 400000) (disch := omega) only [push_cast, ↓reduceIte, reduceCtorEq, Nat.reduceAdd, Nat.reduceSub, Nat.reduceEqDiff, Nat.reduceLeDiff, Nat.reduceLT, Nat.reduceBEq, Nat.reduceDiv, Nat.reduceMod, Nat.reducePow, Nat.reduceMul, Int.reduceToNat, Int.reduceLT, Int.reduceLE, S.mk.injEq, List.cons.injEq, Prod.mk.injEq, AV.v.injEq, Value.int.injEq, Value.bool.injEq, Blk.cells.injEq]
    · rw [if_neg q] at ez
      repeat' (first | refine WK_go ?_ | refine W_seqL ?_ | refine W_seq ?_ | refine W_block ?_ | refine W_scp ?_ | ((first | refine W_regL ?_ | refine W_skip ?_ | refine W_exit ?_); simp (maxSteps := 400000) (disch := omega) only [push_cast, ↓reduceIte, reduceCtorEq, Nat.reduceAdd, Nat.reduceSub, Nat.reduceEqDiff, Nat.reduceLeDiff, Nat.reduceLT, Nat.reduceBEq, Nat.reduceDiv, Nat.reduceMod, Nat.reducePow, Nat.reduceMul, Int.reduceToNat, Int.reduceLT, Int.reduceLE]) | refine And.intro (by omega) ?_ | refine And.intro (by intro hq; (try simp only [Bool.and_eq_true, Bool.or_eq_true, Bool.and_eq_false_iff, Bool.or_eq_false_iff, decide_eq_true_eq, decide_eq_false_iff_not, Bool.not_eq_true', Bool.not_eq_false', beq_iff_eq, beq_eq_false_iff_ne, ne_eq] at hq); omega) ?_ | fail)
      refine ⟨k + 1, by omega, by omega, by rfl, ?_⟩
      rw [hys, ez, List.append_nil]
      simp (maxSteps := 400000) (disch := omega) only [push_cast, ↓reduceIte, reduceCtorEq, Nat.reduceAdd, Nat.reduceSub, Nat.reduceEqDiff, Nat.reduceLeDiff, Nat.reduceLT, Nat.reduceBEq, Nat.reduceDiv, Nat.reduceMod, Nat.reducePow, Nat.reduceMul, Int.reduceToNat, Int.reduceLT, Int.reduceLE, S.mk.injEq, List.cons.injEq, Prod.mk.injEq, AV.v.injEq, Value.int.injEq, Value.bool.injEq, Blk.cells.injEq]
  · have hk6 : k = 6 := by omega
    subst hk6
    rw [← hsn]
    rw [← hsn] at hal
    repeat' (first | refine WK_go ?_ | refine W_seqL ?_ | refine W_seq ?_ | refine W_block ?_ | refine W_scp ?_ | ((first | refine W_regL ?_ | refine W_skip ?_ | refine W_exit ?_); simp (maxSteps := 400000) (disch := omega) only [push_cast, ↓reduceIte, reduceCtorEq, Nat.reduceAdd, Nat.reduceSub, Nat.reduceEqDiff, Nat.reduceLeDiff, Nat.reduceLT, Nat.reduceBEq, Nat.reduceDiv, Nat.reduceMod, Nat.reducePow, Nat.reduceMul, Int.reduceToNat, Int.reduceLT, Int.reduceLE]) | refine And.intro (by omega) ?_ | refine And.intro (by intro hq; (try simp only [Bool.and_eq_true, Bool.or_eq_true, Bool.and_eq_false_iff, Bool.or_eq_false_iff, decide_eq_true_eq, decide_eq_false_iff_not, Bool.not_eq_true', Bool.not_eq_false', beq_iff_eq, beq_eq_false_iff_ne, ne_eq] at hq); omega) ?_ | fail)
    refine ⟨i + 1, by omega, by omega, by rfl, ?_⟩
    simp (maxSteps := 400000) (disch := omega) only [push_cast, ↓reduceIte, reduceCtorEq, Nat.reduceAdd, Nat.reduceSub, Nat.reduceEqDiff, Nat.reduceLeDiff, Nat.reduceLT, Nat.reduceBEq, Nat.reduceDiv, Nat.reduceMod, Nat.reducePow, Nat.reduceMul, Int.reduceToNat, Int.reduceLT, Int.reduceLE, S.mk.injEq, List.cons.injEq, Prod.mk.injEq, AV.v.injEq, Value.int.injEq, Value.bool.injEq, Blk.cells.injEq]
end Go.Proofs.Ytfbdlmenhoagmaa

namespace Go.Proofs.Ytfbdlmenhoagmaa
open Go Sy
set_option maxRecDepth 100000
set_option maxHeartbeats 4000000
set_option linter.unusedVariables false
set_option linter.unusedSimpArgs false
end Go.Proofs.Ytfbdlmenhoagmaa

namespace Go.Proofs.Ytfbdlmenhoagmaa
open Go Sy
set_option maxRecDepth 100000
set_option maxHeartbeats 4000000
set_option linter.unusedVariables false
set_option linter.unusedSimpArgs false
def BI (g : List Int → Int) (ok : List Int → Bool) (L : List (List Int)) (i : Nat) (b : Int) : Prop :=
  (b = -1 ∧ leastL g ok (L.take i) = none) ∨ (0 ≤ b ∧ b < i ∧ leastL g ok (L.take i) = some (L.getD b.toNat [], g (L.getD b.toNat [])))
theorem take_snocL {L : List (List Int)} {i : Nat} (h : i < L.length) : L.take (i + 1) = L.take i ++ [L.getD i []] := by
  rw [List.take_add_one]
  simp [List.getD, h]
theorem BI.yes {g : List Int → Int} {ok : List Int → Bool} {L : List (List Int)} {i : Nat} {b : Int} (h : BI g ok L i b) (hi : i < L.length) (ho : ok (L.getD i []) = true) (hl : b < 0 ∨ g (L.getD i []) < g (L.getD b.toNat [])) : BI g ok L (i + 1) i := by
  right
  refine ⟨by omega, by omega, ?_⟩
  rw [take_snocL hi, leastL_snoc, Int.toNat_natCast]
  unfold lstep
  rw [if_pos ho]
  rcases h with ⟨h1, h2⟩ | ⟨h1, h2, h3⟩
  · rw [h2]
  · rw [h3]
    show (if _ then _ else _) = _
    rw [if_pos (by omega)]
theorem BI.no {g : List Int → Int} {ok : List Int → Bool} {L : List (List Int)} {i : Nat} {b : Int} (h : BI g ok L i b) (hi : i < L.length) (ho : ok (L.getD i []) = false ∨ (0 ≤ b ∧ g (L.getD b.toNat []) ≤ g (L.getD i []))) : BI g ok L (i + 1) b := by
  have e : ∀ x, leastL g ok (L.take i) = x → (x = none → b < 0) → (∀ p, x = some p → p.2 = g (L.getD b.toNat [])) → leastL g ok (L.take (i + 1)) = x := fun x hx h1 h2 => by
    rw [take_snocL hi, leastL_snoc, hx]
    unfold lstep
    rcases ho with ho | ⟨ho1, ho2⟩
    · rw [if_neg (by rw [ho]; simp)]
    · rcases x with _ | ⟨y, n⟩
      · have := h1 rfl; omega
      · have := h2 _ rfl
        dsimp only at this
        split
        · show (if _ then _ else _) = _
          rw [if_neg (by omega)]
        · rfl
  rcases h with ⟨h1, h2⟩ | ⟨h1, h2, h3⟩
  · exact .inl ⟨h1, e _ h2 (fun _ => by omega) (fun p hp => by cases hp)⟩
  · exact .inr ⟨h1, by omega, e _ h3 (fun q => by cases q) (fun p hp => by cases hp; rfl)⟩
end Go.Proofs.Ytfbdlmenhoagmaa

namespace Go.Proofs.Ytfbdlmenhoagmaa
open Go Sy
set_option maxRecDepth 100000
set_option maxHeartbeats 4000000
set_option linter.unusedVariables false
set_option linter.unusedSimpArgs false
end Go.Proofs.Ytfbdlmenhoagmaa

namespace Go.Proofs.Ytfbdlmenhoagmaa
open Go Sy
set_option linter.unusedVariables false
inductive Pt (m : Mp) (fr : Int) : List Int → Int → Prop
  | nil : Pt m fr [] fr
  | snoc {l : List Int} {a : Int} {i : Nat} : Pt m fr l a → i < m.rs.length → (gr m i).f = a → Pt m fr (l ++ [(i : Int)]) (gr m i).t
theorem Pt.rng {m : Mp} {fr a : Int} {l : List Int} (h : Pt m fr l a) : ∀ x ∈ l, 0 ≤ x ∧ x < m.rs.length := by
  induction h with
  | nil => intro x hx; cases hx
  | snoc _ hi _ ih =>
    intro x hx
    rcases List.mem_append.1 hx with hx | hx
    · exact ih x hx
    · rw [List.mem_singleton] at hx; omega
theorem count_set : ∀ (l : List Bool) (i : Nat), i < l.length → l.getD i false = false → (l.set i true).count false + 1 = l.count false
  | [], i, h, _ => by simp at h
  | b :: l, 0, h, hb => by
    have : b = false := by simpa using hb
    subst this
    simp
  | b :: l, i + 1, h, hb => by
    have h1 := count_set l i (by simpa using h) (by simpa using hb)
    rw [List.set_cons_succ, List.count_cons, List.count_cons]
    omega
end Go.Proofs.Ytfbdlmenhoagmaa

namespace Go.Proofs.Ytfbdlmenhoagmaa
open Go Sy
set_option maxRecDepth 100000
set_option maxHeartbeats 4000000
set_option linter.unusedVariables false
set_option linter.unusedSimpArgs false
end Go.Proofs.Ytfbdlmenhoagmaa

namespace Go.Proofs.Ytfbdlmenhoagmaa
open Go Sy
set_option linter.unusedVariables false
theorem allU_mem {m : Mp} {f : Nat → Int} {rs s : List Int} (h : allU m f rs s = true) : ∀ x ∈ rs, usB m f s x.toNat = true := fun x hx => by
  unfold allU at h
  rw [Bool.not_eq_true', ← Bool.not_eq_true, List.any_eq_true] at h
  apply Classical.byContradiction
  intro q
  exact h ⟨x, hx, by simpa using q⟩
theorem pt_wk {m : Mp} {f : Nat → Int} {s : List Int} {fr a : Int} {l : List Int} (hok : OkM m) (h : Pt m fr l a) (hu : ∀ x ∈ l, usB m f s x.toNat = true) : Wk (edgC m false (cU m f s)) fr.toNat a.toNat (sumR m l) := by
  induction h with
  | nil => exact .nil
  | snoc h1 hi hf ih =>
    rename_i l' a' i
    have hus : usB m f s i = true := by simpa using hu (i : Int) (by simp)
    obtain ⟨he, hc⟩ := us_edge (m := m) (f := f) (s := s) (bk := false) hi hus
    have ihh := ih (fun x hx => hu x (List.mem_append_left _ hx))
    rw [sumR_snoc, Int.toNat_natCast]
    have e1 : (edC m false (cU m f s) i).x = a'.toNat := by rw [← hf]; rfl
    have e2 : (edC m false (cU m f s) i).y = (gr m i).t.toNat := rfl
    rw [← e1] at ihh
    have h5 := (roadB_ok (hok.r i hi)).c
    have h6 := Wk.snoc ihh he (by rw [hc]; omega)
    rw [hc, e2] at h6
    exact h6
theorem price_le {m : Mp} {f : Nat → Int} {fr to : Int} {x s : List Int} (h : OkM m) (hf : 0 ≤ fr ∧ fr < m.n) (ht : 0 ≤ to ∧ to < m.n) (hp : Pt m fr x to) (hx : x.length ≤ 100) (hs : Srt m.ws.length 0 s) (hu : allU m f x s = true) : ∃ z k, bestS m f fr to = some (z, k) ∧ k ≤ sumR m x + costL m s := by
  have h1 := (pt_wk h hp (allU_mem hu)).rev
  have h1 : Wk (edgC m true (cU m f s)) to.toNat fr.toNat (sumR m x) := h1
  obtain ⟨k1, k2⟩ := edgC_ok h true (c := cU m f s) (fun i hi => (cU_rng h f s hi).1)
  obtain ⟨h3, h4⟩ := dL_dst h f s true ht
  have h5 := fix_le k1 h3 h4 h1
  have h5 : gi (dL m f s to) fr.toNat ≤ sumR m x := h5
  have h6 := (sumR_rng h hp.rng).2
  have h7 : (x.length : Int) * 1073741824 ≤ 100 * 1073741824 := by omega
  obtain ⟨z, k, h8, h9⟩ := best_le (m := m) (f := f) (fr := fr) (to := to) hs (by unfold okS; rw [decide_eq_true_eq]; omega)
  exact ⟨z, k, h8, by unfold cfS at h9; omega⟩
theorem sumR_from (m : Mp) : ∀ (l : List Int) (a : Int), l.foldl (fun n x => n + (gr m x.toNat).c) a = a + sumR m l
  | [], a => by simp [sumR]
  | x :: l, a => by
    have h1 := sumR_from m l (a + (gr m x.toNat).c)
    have h2 := sumR_from m l (0 + (gr m x.toNat).c)
    unfold sumR
    rw [List.foldl_cons, List.foldl_cons, h1, h2]
    omega
theorem sumR_cons (m : Mp) (x : Int) (l : List Int) : sumR m (x :: l) = (gr m x.toNat).c + sumR m l := by
  have h2 := sumR_from m l (0 + (gr m x.toNat).c)
  have e : sumR m (x :: l) = l.foldl (fun n x => n + (gr m x.toNat).c) (0 + (gr m x.toNat).c) := rfl
  rw [e, h2]; omega
theorem Pt.cons {m : Mp} {a b : Int} {l : List Int} {i : Nat} (hi : i < m.rs.length) (h : Pt m (gr m i).t l b) (hf : (gr m i).f = a) : Pt m a ((i : Int) :: l) b := by
  induction h with
  | nil =>
    have := Pt.snoc (Pt.nil (m := m) (fr := a)) hi hf
    exact this
  | snoc _ h2 h3 ih => exact .snoc ih h2 h3
theorem atP_cons (m : Mp) (a x : Int) (l : List Int) (i : Nat) : atP m a (x :: l) (i + 1) = atP m (gr m x.toNat).t l i := by
  unfold atP
  rw [if_neg (by omega)]
  rcases i with _ | j
  · rfl
  · rw [if_neg (by omega)]; rfl
structure Way (m : Mp) (f : Nat → Int) (s left : List Int) (to a : Int) (l : List Int) : Prop where
  u : ∀ x ∈ l, usB m f s x.toNat = true
  c : sumR m l = gi left a.toNat
  p : Pt m a l to
  f : ∀ i, i < l.length → (gr m (gi l i).toNat).f = atP m a l i
  d : ∀ i, i < l.length → gi left (gr m (gi l i).toNat).t.toNat < gi left (atP m a l i).toNat
  e : atP m a l l.length = to
theorem way_ok {m : Mp} {f : Nat → Int} {s : List Int} {to : Int} (h : OkM m) (ht : 0 ≤ to ∧ to < m.n) : ∀ (k : Nat) (a : Int), AtW m f s (dL m f s to) to a → rk (dL m f s to) m.n.toNat a.toNat ≤ k → Way m f s (dL m f s to) to a (wayC m f s (dL m f s to) to k a) ∧ (wayC m f s (dL m f s to) to k a).length ≤ k := by
  have h0 : gi (dL m f s to) to.toNat = 0 := (dL_dst h f s true ht).1.src
  have base : ∀ a, a = to → Way m f s (dL m f s to) to a [] := fun a e => by
    subst e
    exact ⟨fun x hx => (by cases hx), (by rw [h0]; rfl), .nil, fun i hi => (by simp at hi), fun i hi => (by simp at hi), rfl⟩
  intro k
  induction k with
  | zero =>
    intro a ha hr
    have hat : a = to := by
      apply Classical.byContradiction
      intro hne
      obtain ⟨h1, h2, _⟩ := nxt_spec h ht ha hne
      have := (hit_step h ht ha h1 h2).2.2.2.2
      omega
    exact ⟨base a hat, Nat.le_refl _⟩
  | succ k ih =>
    intro a ha hr
    by_cases hat : a = to
    · have e : wayC m f s (dL m f s to) to (k + 1) a = [] := by simp only [wayC]; rw [if_pos hat]
      rw [e]
      exact ⟨base a hat, by simp⟩
    · obtain ⟨h1, h2, _⟩ := nxt_spec h ht ha hat
      obtain ⟨g1, g2, g3, g4, g5⟩ := hit_step h ht ha h1 h2
      have e : wayC m f s (dL m f s to) to (k + 1) a = (nxt m f s (dL m f s to) a : Int) :: wayC m f s (dL m f s to) to k (gr m (nxt m f s (dL m f s to) a)).t := by simp only [wayC]; rw [if_neg hat]
      rw [e]
      obtain ⟨W, hl⟩ := ih _ g4 (by omega)
      generalize nxt m f s (dL m f s to) a = i at *
      generalize wayC m f s (dL m f s to) to k (gr m i).t = l at *
      have hc := (roadB_ok (h.r i h1)).c
      refine ⟨⟨fun x hx => ?_, ?_, W.p.cons h1 g2, fun j hj => ?_, fun j hj => ?_, ?_⟩, by simpa using hl⟩
      · rcases List.mem_cons.1 hx with rfl | hx
        · simpa using g1
        · exact W.u x hx
      · rw [sumR_cons, W.c, Int.toNat_natCast]; omega
      · rcases j with _ | j
        · exact g2
        · rw [atP_cons, Int.toNat_natCast]
          exact W.f j (by simpa using hj)
      · rcases j with _ | j
        · show gi (dL m f s to) (gr m i).t.toNat < gi (dL m f s to) a.toNat
          omega
        · rw [atP_cons, Int.toNat_natCast]
          exact W.d j (by simpa using hj)
      · rw [List.length_cons, atP_cons, Int.toNat_natCast]
        exact W.e
theorem best_way {m : Mp} {f : Nat → Int} {fr to : Int} {s : List Int} {n : Int} (h : OkM m) (hf : 0 ≤ fr ∧ fr < m.n) (ht : 0 ≤ to ∧ to < m.n) (hb : bestS m f fr to = some (s, n)) :
    Srt m.ws.length 0 s ∧ Way m f s (dL m f s to) to fr (wayS m f fr to s) ∧ (wayS m f fr to s).length ≤ 64 ∧ n = sumR m (wayS m f fr to s) + costL m s ∧ ∀ i, i < s.length → allU m f (wayS m f fr to s) (del s i) = false := by
  obtain ⟨b1, b2, b3, b4⟩ := best_some hb
  have hN := h.n
  have hlr := dL_rng h f s true ht (y := fr.toNat) (by omega)
  have hlr : 0 ≤ gi (dL m f s to) fr.toNat ∧ gi (dL m f s to) fr.toNat ≤ 1125899906842624 := hlr
  have hA0 : AtW m f s (dL m f s to) to fr := ⟨hf, by omega, (by unfold okS at b3; rw [decide_eq_true_eq] at b3; exact b3)⟩
  obtain ⟨W, hl⟩ := way_ok h ht m.n.toNat fr hA0 (rk_le _ _ _)
  have hW : wayC m f s (dL m f s to) to m.n.toNat fr = wayS m f fr to s := rfl
  rw [hW] at W hl
  have hn : n = sumR m (wayS m f fr to s) + costL m s := by rw [b4, W.c]; rfl
  refine ⟨b2, W, by omega, hn, fun i hi => ?_⟩
  cases hq : allU m f (wayS m f fr to s) (del s i)
  · rfl
  · exfalso
    obtain ⟨z, k, h4, h5⟩ := price_le h hf ht W.p (by omega) (del_srt s 0 i b2) hq
    rw [hb] at h4
    cases h4
    have h6 := del_cost m hi
    have h7 := b2.mem _ (getD_mem 0 s i hi)
    have h8 := (workB_ok (h.w (gi s i).toNat (by show (s.getD i 0).toNat < _; omega))).c
    omega
end Go.Proofs.Ytfbdlmenhoagmaa

namespace Go.Proofs.Ytfbdlmenhoagmaa
open Go Sy
set_option maxRecDepth 100000
set_option maxHeartbeats 4000000
set_option linter.unusedVariables false
set_option linter.unusedSimpArgs false
end Go.Proofs.Ytfbdlmenhoagmaa

