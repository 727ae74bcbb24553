/- Part 4 of the proof of: For all maps, sizes and places, Cheapest, Bound, Reach and CheckCut return what the document says; maps of at most 12 places, 30 roads and 5 works, or refused ones; at most 100 numbers. -/
import Derived.Test.YtfbdlmenhoagmaaP3
import Derived.Laws.Bits64b
namespace Go.Proofs.Ytfbdlmenhoagmaa
open Go Sy
set_option maxRecDepth 100000
set_option maxHeartbeats 4000000
set_option linter.unusedVariables false
set_option linter.unusedSimpArgs false
theorem mixed : Try.prog.follows .mixedOrders = true := by kernel_rfl
abbrev iv (n : Int) : AV := .v (.int .i64 n)
abbrev bv (b : Bool) : AV := .v (.bool b)
abbrev uv (n : Nat) : AV := .v (.int .u64 n)
def cI (x : Int) : List AV := [iv x]
theorem nI (x : Int) : nth (cI x) 0 = iv x := rfl
theorem lI (x : Int) : (cI x).length = 1 := rfl
theorem frI (x : Int) : frzAll (cI x) = true := rfl
theorem tI (x : Int) : List.take 1 (List.drop 0 (cI x)) = cI x := rfl
abbrev aI (l : List Int) : AV := .sl 1 0 cI l
def cR (r : Rd) : List AV := [iv r.f, iv r.t, iv r.c, iv r.m, iv r.o, iv r.z, iv r.l0, iv r.l1, iv r.l2, iv r.l3, iv r.l4, iv r.l5]
theorem nR0 (r : Rd) : nth (cR r) 0 = iv r.f := rfl
theorem nR1 (r : Rd) : nth (cR r) 1 = iv r.t := rfl
theorem nR2 (r : Rd) : nth (cR r) 2 = iv r.c := rfl
theorem nR3 (r : Rd) : nth (cR r) 3 = iv r.m := rfl
theorem nR4 (r : Rd) : nth (cR r) 4 = iv r.o := rfl
theorem nR5 (r : Rd) : nth (cR r) 5 = iv r.z := rfl
theorem lR (r : Rd) : (cR r).length = 12 := rfl
theorem frR (r : Rd) : frzAll (cR r) = true := rfl
theorem tR (r : Rd) : List.take 12 (List.drop 0 (cR r)) = cR r := rfl
theorem iR {m : Nat → Option Blk} {n : Nat} (r : Rd) : List.flatMap (ids m n) (cR r) = [] := flat_frz n _ (frR r)
theorem vR {m : Nat → Option Blk} {n : Nat} (r : Rd) : List.map (view m n) (cR r) = cR r := viewL_frz n _ (frR r)
def cW (w : Wrk) : List AV := [aI w.rs, iv w.k, iv w.l, iv w.c]
theorem nW0 (w : Wrk) : nth (cW w) 0 = aI w.rs := rfl
theorem nW1 (w : Wrk) : nth (cW w) 1 = iv w.k := rfl
theorem nW2 (w : Wrk) : nth (cW w) 2 = iv w.l := rfl
theorem nW3 (w : Wrk) : nth (cW w) 3 = iv w.c := rfl
theorem lW (w : Wrk) : (cW w).length = 4 := rfl
theorem frW (w : Wrk) : frzAll (cW w) = true := rfl
theorem tW (w : Wrk) : List.take 4 (List.drop 0 (cW w)) = cW w := rfl
theorem iW {m : Nat → Option Blk} {n : Nat} (w : Wrk) : List.flatMap (ids m n) (cW w) = [] := flat_frz n _ (frW w)
theorem vW {m : Nat → Option Blk} {n : Nat} (w : Wrk) : List.map (view m n) (cW w) = cW w := viewL_frz n _ (frW w)
abbrev aR (l : List Rd) : AV := .sl 12 dR cR l
abbrev aW (l : List Wrk) : AV := .sl 4 dW cW l
def cM (m : Mp) : List AV := [iv m.n, aR m.rs, aW m.ws]
theorem nM0 (m : Mp) : nth (cM m) 0 = iv m.n := rfl
theorem nM1 (m : Mp) : nth (cM m) 1 = aR m.rs := rfl
theorem nM2 (m : Mp) : nth (cM m) 2 = aW m.ws := rfl
theorem lM (m : Mp) : (cM m).length = 3 := rfl
theorem frM (m : Mp) : frzAll (cM m) = true := rfl
theorem iM {f : Nat → Option Blk} {n : Nat} (m : Mp) : List.flatMap (ids f n) (cM m) = [] := flat_frz n _ (frM m)
theorem vM {f : Nat → Option Blk} {n : Nat} (m : Mp) : List.map (view f n) (cM m) = cM m := viewL_frz n _ (frM m)
abbrev aM (m : Mp) : AV := .agg (cM m)
def c6 (f : Nat → Int) : List AV := [iv (f 0), iv (f 1), iv (f 2), iv (f 3), iv (f 4), iv (f 5)]
theorem l6 (f : Nat → Int) : (c6 f).length = 6 := rfl
theorem fr6 (f : Nat → Int) : frzAll (c6 f) = true := rfl
theorem n6 (f : Nat → Int) (k : Nat) (h : k < 6) : nth (c6 f) k = iv (f k) := by
  rcases k with _ | _ | _ | _ | _ | _ | k <;> first | rfl | omega
theorem i6 {m : Nat → Option Blk} {n : Nat} (f : Nat → Int) : List.flatMap (ids m n) (c6 f) = [] := flat_frz n _ (fr6 f)
theorem v6 {m : Nat → Option Blk} {n : Nat} (f : Nat → Int) : List.map (view m n) (c6 f) = c6 f := viewL_frz n _ (fr6 f)
theorem t6 (f : Nat → Int) : List.take 6 (c6 f) = c6 f := rfl
theorem cutR (r : Rd) : List.take 6 (List.drop 6 (cR r)) = c6 r.lim := rfl
theorem tR2 (r : Rd) : List.take 12 (cR r) = cR r := rfl
theorem tW2 (w : Wrk) : List.take 4 (cW w) = cW w := rfl
theorem tM2 (m : Mp) : List.take 3 (cM m) = cM m := rfl
attribute [push_cast] tR2 tW2 tM2 nI lI frI tI nR0 nR1 nR2 nR3 nR4 nR5 lR frR tR iR vR nW0 nW1 nW2 nW3 lW frW tW iW vW nM0 nM1 nM2 lM frM iM vM l6 fr6 n6 i6 v6 t6 cutR
theorem fn85 (x lo hi : Int) : Sy.Fn Try.prog 85 [iv x, iv lo, iv hi] (bv (inR x lo hi)) := by
  refine Fn_of_W mixed Xt85 rfl ?_
  repeat' (first | refine WK_go ?_ | refine W_seqL ?_ | refine W_seq ?_ | refine W_block ?_ | refine W_scp ?_ | ((first | refine W_regL ?_ | refine W_skip ?_ | refine W_exit ?_); simp (maxSteps := 400000) (disch := omega) only [push_cast, ↓reduceIte, reduceCtorEq, Nat.reduceAdd, Nat.reduceSub, Nat.reduceEqDiff, Nat.reduceLeDiff, Nat.reduceLT, Nat.reduceBEq, Nat.reduceDiv, Nat.reduceMod, Nat.reducePow, Nat.reduceMul, Int.reduceToNat, Int.reduceLT, Int.reduceLE]) | refine And.intro (by omega) ?_ | refine And.intro (by intro hq; (try simp only [Bool.and_eq_true, Bool.or_eq_true, Bool.and_eq_false_iff, Bool.or_eq_false_iff, decide_eq_true_eq, decide_eq_false_iff_not, Bool.not_eq_true', Bool.not_eq_false', beq_iff_eq, beq_eq_false_iff_ne, ne_eq] at hq); omega) ?_ | fail)
  exact W_ret ⟨[_], ⟨rfl, rfl⟩, rfl⟩
theorem fn66 (x lo hi : Int) : Sy.Fn Try.prog 66 [iv x, iv lo, iv hi] (bv (inR x lo hi)) := by
  refine Fn_of_W mixed Xt66 rfl ?_
  repeat' (first | refine WK_go ?_ | refine W_seqL ?_ | refine W_seq ?_ | refine W_block ?_ | refine W_scp ?_ | ((first | refine W_regL ?_ | refine W_skip ?_ | refine W_exit ?_); simp (maxSteps := 400000) (disch := omega) only [push_cast, ↓reduceIte, reduceCtorEq, Nat.reduceAdd, Nat.reduceSub, Nat.reduceEqDiff, Nat.reduceLeDiff, Nat.reduceLT, Nat.reduceBEq, Nat.reduceDiv, Nat.reduceMod, Nat.reducePow, Nat.reduceMul, Int.reduceToNat, Int.reduceLT, Int.reduceLE]) | refine And.intro (by omega) ?_ | refine And.intro (by intro hq; (try simp only [Bool.and_eq_true, Bool.or_eq_true, Bool.and_eq_false_iff, Bool.or_eq_false_iff, decide_eq_true_eq, decide_eq_false_iff_not, Bool.not_eq_true', Bool.not_eq_false', beq_iff_eq, beq_eq_false_iff_ne, ne_eq] at hq); omega) ?_ | fail)
  exact W_ret ⟨[_], ⟨rfl, rfl⟩, rfl⟩
theorem up_all {p : Nat → Prop} {n : Nat} (h : ∀ j, j < n → p j) (hn : p n) : ∀ j, j < n + 1 → p j := fun j hj => by
  rcases Nat.lt_succ_iff_lt_or_eq.1 hj with h1 | rfl
  · exact h j h1
  · exact hn
theorem setB_yes {l : List Int} {n : Int} (h : ∀ j, j < l.length → okAt l n j = true) : setB l n = true := by
  unfold setB
  rw [List.all_eq_true]
  intro j hj
  exact h j (List.mem_range.1 hj)
theorem setB_no {l : List Int} {n : Int} {i : Nat} (hi : i < l.length) (h : okAt l n i = false) : setB l n = false := by
  unfold setB
  rw [← Bool.not_eq_true, List.all_eq_true]
  intro q
  have := q i (List.mem_range.2 hi)
  rw [h] at this; cases this
theorem fn73 (l : List Int) (n : Int) (hl : l.length ≤ 140737488355328) : Sy.Fn Try.prog 73 [aI l, iv n] (bv (setB l n)) := by
  refine Fn_of_W mixed Xt73 rfl ?_
  repeat' (first | refine WK_go ?_ | refine W_seqL ?_ | refine W_seq ?_ | refine W_block ?_ | refine W_scp ?_ | ((first | refine W_regL ?_ | refine W_skip ?_ | refine W_exit ?_); simp (maxSteps := 400000) (disch := omega) only [push_cast, ↓reduceIte, reduceCtorEq, Nat.reduceAdd, Nat.reduceSub, Nat.reduceEqDiff, Nat.reduceLeDiff, Nat.reduceLT, Nat.reduceBEq, Nat.reduceDiv, Nat.reduceMod, Nat.reducePow, Nat.reduceMul, Int.reduceToNat, Int.reduceLT, Int.reduceLE]) | refine And.intro (by omega) ?_ | refine And.intro (by intro hq; (try simp only [Bool.and_eq_true, Bool.or_eq_true, Bool.and_eq_false_iff, Bool.or_eq_false_iff, decide_eq_true_eq, decide_eq_false_iff_not, Bool.not_eq_true', Bool.not_eq_false', beq_iff_eq, beq_eq_false_iff_ne, ne_eq] at hq); omega) ?_ | fail)
  refine W_loopU (fun i : Nat => [(5, iv (lastI l i)), (10, iv i)]) (fun i => []) (fun i => i ≤ l.length ∧ ∀ j, j < i → okAt l n j = true) (fun i => l.length - i) 0 ⟨by omega, fun j hj => by omega⟩ (by rfl) (by rfl) (fun i hi => ?_)
  obtain ⟨hi, hall⟩ := hi
  simp (maxSteps := 400000) (disch := omega) only [push_cast, ↓reduceIte, reduceCtorEq, Nat.reduceAdd, Nat.reduceSub, Nat.reduceEqDiff, Nat.reduceLeDiff, Nat.reduceLT, Nat.reduceBEq, Nat.reduceDiv, Nat.reduceMod, Nat.reducePow, Nat.reduceMul, Int.reduceToNat, Int.reduceLT, Int.reduceLE]
  repeat' (first | refine WK_go ?_ | refine W_seqL ?_ | refine W_seq ?_ | refine W_block ?_ | refine W_scp ?_ | ((first | refine W_regL ?_ | refine W_skip ?_ | refine W_exit ?_); simp (maxSteps := 400000) (disch := omega) only [push_cast, ↓reduceIte, reduceCtorEq, Nat.reduceAdd, Nat.reduceSub, Nat.reduceEqDiff, Nat.reduceLeDiff, Nat.reduceLT, Nat.reduceBEq, Nat.reduceDiv, Nat.reduceMod, Nat.reducePow, Nat.reduceMul, Int.reduceToNat, Int.reduceLT, Int.reduceLE]) | refine And.intro (by omega) ?_ | refine And.intro (by intro hq; (try simp only [Bool.and_eq_true, Bool.or_eq_true, Bool.and_eq_false_iff, Bool.or_eq_false_iff, decide_eq_true_eq, decide_eq_false_iff_not, Bool.not_eq_true', Bool.not_eq_false', beq_iff_eq, beq_eq_false_iff_ne, ne_eq] at hq); omega) ?_ | fail)
  refine W_condD (by rfl) (fun h5 => ?_) (fun h5 => ?_)
  · have hlt : i < l.length := by omega
    have hn1 : lastI l (i + 1) = gi l i := by unfold lastI; rw [if_neg (by omega)]; rfl
    have hgi : l.getD i 0 = gi l i := rfl
    have hok : okAt l n i = (decide (lastI l i < gi l i) && decide (gi l i < n)) := rfl
    generalize gi l i = x at hn1 hgi hok
    repeat' (first | refine WK_go ?_ | refine W_seqL ?_ | refine W_seq ?_ | refine W_block ?_ | refine W_scp ?_ | ((first | refine W_regL ?_ | refine W_skip ?_ | refine W_exit ?_); simp (maxSteps := 400000) (disch := omega) only [push_cast, ↓reduceIte, reduceCtorEq, Nat.reduceAdd, Nat.reduceSub, Nat.reduceEqDiff, Nat.reduceLeDiff, Nat.reduceLT, Nat.reduceBEq, Nat.reduceDiv, Nat.reduceMod, Nat.reducePow, Nat.reduceMul, Int.reduceToNat, Int.reduceLT, Int.reduceLE, hgi]) | refine And.intro (by omega) ?_ | refine And.intro (by intro hq; (try simp only [Bool.and_eq_true, Bool.or_eq_true, Bool.and_eq_false_iff, Bool.or_eq_false_iff, decide_eq_true_eq, decide_eq_false_iff_not, Bool.not_eq_true', Bool.not_eq_false', beq_iff_eq, beq_eq_false_iff_ne, ne_eq] at hq); omega) ?_ | fail)
    refine W_cond (by rfl) (fun hb => ?_) (fun hb => ?_)
    · have e : okAt l n i = false := by
        rw [hok, Bool.and_eq_false_iff, decide_eq_false_iff_not, decide_eq_false_iff_not]
        rw [Bool.or_eq_true, decide_eq_true_eq, decide_eq_true_eq] at hb
        omega
      rw [setB_no hlt e]
      repeat' (first | refine WK_go ?_ | refine W_seqL ?_ | refine W_seq ?_ | refine W_block ?_ | refine W_scp ?_ | ((first | refine W_regL ?_ | refine W_skip ?_ | refine W_exit ?_); simp (maxSteps := 400000) (disch := omega) only [push_cast, ↓reduceIte, reduceCtorEq, Nat.reduceAdd, Nat.reduceSub, Nat.reduceEqDiff, Nat.reduceLeDiff, Nat.reduceLT, Nat.reduceBEq, Nat.reduceDiv, Nat.reduceMod, Nat.reducePow, Nat.reduceMul, Int.reduceToNat, Int.reduceLT, Int.reduceLE]) | refine And.intro (by omega) ?_ | refine And.intro (by intro hq; (try simp only [Bool.and_eq_true, Bool.or_eq_true, Bool.and_eq_false_iff, Bool.or_eq_false_iff, decide_eq_true_eq, decide_eq_false_iff_not, Bool.not_eq_true', Bool.not_eq_false', beq_iff_eq, beq_eq_false_iff_ne, ne_eq] at hq); omega) ?_ | fail)
      exact W_ret ⟨[_], ⟨rfl, rfl⟩, rfl⟩
    · have e : okAt l n i = true := by
        rw [hok, Bool.and_eq_true, decide_eq_true_eq, decide_eq_true_eq]
        rw [Bool.or_eq_false_iff, decide_eq_false_iff_not, decide_eq_false_iff_not] at hb
        omega
      repeat' (first | refine WK_go ?_ | refine W_seqL ?_ | refine W_seq ?_ | refine W_block ?_ | refine W_scp ?_ | ((first | refine W_regL ?_ | refine W_skip ?_ | refine W_exit ?_); simp (maxSteps := 400000) (disch := omega) only [push_cast, ↓reduceIte, reduceCtorEq, Nat.reduceAdd, Nat.reduceSub, Nat.reduceEqDiff, Nat.reduceLeDiff, Nat.reduceLT, Nat.reduceBEq, Nat.reduceDiv, Nat.reduceMod, Nat.reducePow, Nat.reduceMul, Int.reduceToNat, Int.reduceLT, Int.reduceLE]) | refine And.intro (by omega) ?_ | refine And.intro (by intro hq; (try simp only [Bool.and_eq_true, Bool.or_eq_true, Bool.and_eq_false_iff, Bool.or_eq_false_iff, decide_eq_true_eq, decide_eq_false_iff_not, Bool.not_eq_true', Bool.not_eq_false', beq_iff_eq, beq_eq_false_iff_ne, ne_eq] at hq); omega) ?_ | fail)
      refine ⟨i + 1, ⟨by omega, up_all hall e⟩, by omega, by rfl, ?_⟩
      rw [hn1]
      simp (maxSteps := 400000) (disch := omega) only [push_cast, ↓reduceIte, reduceCtorEq, Nat.reduceAdd, Nat.reduceSub, Nat.reduceEqDiff, Nat.reduceLeDiff, Nat.reduceLT, Nat.reduceBEq, Nat.reduceDiv, Nat.reduceMod, Nat.reducePow, Nat.reduceMul, Int.reduceToNat, Int.reduceLT, Int.reduceLE, S.mk.injEq, List.cons.injEq, Prod.mk.injEq, AV.v.injEq, Value.int.injEq, Value.bool.injEq, Blk.cells.injEq]
  · rw [setB_yes (fun j hj => hall j (by omega))]
    repeat' (first | refine WK_go ?_ | refine W_seqL ?_ | refine W_seq ?_ | refine W_block ?_ | refine W_scp ?_ | ((first | refine W_regL ?_ | refine W_skip ?_ | refine W_exit ?_); simp (maxSteps := 400000) (disch := omega) only [push_cast, ↓reduceIte, reduceCtorEq, Nat.reduceAdd, Nat.reduceSub, Nat.reduceEqDiff, Nat.reduceLeDiff, Nat.reduceLT, Nat.reduceBEq, Nat.reduceDiv, Nat.reduceMod, Nat.reducePow, Nat.reduceMul, Int.reduceToNat, Int.reduceLT, Int.reduceLE]) | refine And.intro (by omega) ?_ | refine And.intro (by intro hq; (try simp only [Bool.and_eq_true, Bool.or_eq_true, Bool.and_eq_false_iff, Bool.or_eq_false_iff, decide_eq_true_eq, decide_eq_false_iff_not, Bool.not_eq_true', Bool.not_eq_false', beq_iff_eq, beq_eq_false_iff_ne, ne_eq] at hq); omega) ?_ | fail)
    exact W_ret ⟨[_], ⟨rfl, rfl⟩, rfl⟩
theorem fn67 (l : List Int) (n : Int) (hl : l.length ≤ 140737488355328) : Sy.Fn Try.prog 67 [aI l, iv n] (bv (setB l n)) := by
  refine Fn_of_W mixed Xt67 rfl ?_
  repeat' (first | refine WK_go ?_ | refine W_seqL ?_ | refine W_seq ?_ | refine W_block ?_ | refine W_scp ?_ | ((first | refine W_regL ?_ | refine W_skip ?_ | refine W_exit ?_); simp (maxSteps := 400000) (disch := omega) only [push_cast, ↓reduceIte, reduceCtorEq, Nat.reduceAdd, Nat.reduceSub, Nat.reduceEqDiff, Nat.reduceLeDiff, Nat.reduceLT, Nat.reduceBEq, Nat.reduceDiv, Nat.reduceMod, Nat.reducePow, Nat.reduceMul, Int.reduceToNat, Int.reduceLT, Int.reduceLE]) | refine And.intro (by omega) ?_ | refine And.intro (by intro hq; (try simp only [Bool.and_eq_true, Bool.or_eq_true, Bool.and_eq_false_iff, Bool.or_eq_false_iff, decide_eq_true_eq, decide_eq_false_iff_not, Bool.not_eq_true', Bool.not_eq_false', beq_iff_eq, beq_eq_false_iff_ne, ne_eq] at hq); omega) ?_ | fail)
  refine W_loopU (fun i : Nat => [(5, iv i)]) (fun i => []) (fun i => i ≤ l.length ∧ ∀ j, j < i → okAt l n j = true) (fun i => l.length - i) 0 ⟨by omega, fun j hj => by omega⟩ (by rfl) (by rfl) (fun i hi => ?_)
  obtain ⟨hi, hall⟩ := hi
  simp (maxSteps := 400000) (disch := omega) only [push_cast, ↓reduceIte, reduceCtorEq, Nat.reduceAdd, Nat.reduceSub, Nat.reduceEqDiff, Nat.reduceLeDiff, Nat.reduceLT, Nat.reduceBEq, Nat.reduceDiv, Nat.reduceMod, Nat.reducePow, Nat.reduceMul, Int.reduceToNat, Int.reduceLT, Int.reduceLE]
  repeat' (first | refine WK_go ?_ | refine W_seqL ?_ | refine W_seq ?_ | refine W_block ?_ | refine W_scp ?_ | ((first | refine W_regL ?_ | refine W_skip ?_ | refine W_exit ?_); simp (maxSteps := 400000) (disch := omega) only [push_cast, ↓reduceIte, reduceCtorEq, Nat.reduceAdd, Nat.reduceSub, Nat.reduceEqDiff, Nat.reduceLeDiff, Nat.reduceLT, Nat.reduceBEq, Nat.reduceDiv, Nat.reduceMod, Nat.reducePow, Nat.reduceMul, Int.reduceToNat, Int.reduceLT, Int.reduceLE]) | refine And.intro (by omega) ?_ | refine And.intro (by intro hq; (try simp only [Bool.and_eq_true, Bool.or_eq_true, Bool.and_eq_false_iff, Bool.or_eq_false_iff, decide_eq_true_eq, decide_eq_false_iff_not, Bool.not_eq_true', Bool.not_eq_false', beq_iff_eq, beq_eq_false_iff_ne, ne_eq] at hq); omega) ?_ | fail)
  refine W_condD (by rfl) (fun h5 => ?_) (fun h5 => ?_)
  · have hlt : i < l.length := by omega
    have hgi : l.getD i 0 = gi l i := rfl
    obtain ⟨y, hy⟩ : ∃ y, l.getD ((i : Int) - 1).toNat 0 = y := ⟨_, rfl⟩
    have hok : okAt l n i = (decide (lastI l i < gi l i) && decide (gi l i < n)) := rfl
    have hl1 : i ≠ 0 → lastI l i = y ∧ 0 ≤ y := fun q => by
      have e : ((i : Int) - 1).toNat = i - 1 := by omega
      rw [e] at hy
      have h1 := hall (i - 1) (by omega)
      unfold okAt at h1
      rw [Bool.and_eq_true, decide_eq_true_eq] at h1
      have h2 : gi l (i - 1) = y := hy
      have h3 : -1 ≤ lastI l (i - 1) := by
        unfold lastI
        split
        · omega
        · rename_i z
          have h4 := hall (i - 1 - 1) (by omega)
          have : ∀ k, k < i → 0 ≤ gi l k := fun k => by
            induction k with
            | zero =>
              intro hk
              have := hall 0 hk
              unfold okAt lastI at this
              rw [if_pos rfl, Bool.and_eq_true, decide_eq_true_eq] at this
              omega
            | succ k ih =>
              intro hk
              have := hall (k + 1) hk
              unfold okAt lastI at this
              rw [if_neg (by omega), Bool.and_eq_true, decide_eq_true_eq] at this
              have h5 : k + 1 - 1 = k := by omega
              rw [h5] at this
              have := ih (by omega)
              omega
          have := this (i - 1 - 1) (by omega)
          omega
      refine ⟨by unfold lastI; rw [if_neg q]; exact h2, by omega⟩
    have hl0 : i = 0 → lastI l i = -1 := fun q => by unfold lastI; rw [if_pos q]
    generalize gi l i = x at hgi hok
    repeat' (first | refine WK_go ?_ | refine W_seqL ?_ | refine W_seq ?_ | refine W_block ?_ | refine W_scp ?_ | ((first | refine W_regL ?_ | refine W_skip ?_ | refine W_exit ?_); simp (maxSteps := 400000) (disch := omega) only [push_cast, ↓reduceIte, reduceCtorEq, Nat.reduceAdd, Nat.reduceSub, Nat.reduceEqDiff, Nat.reduceLeDiff, Nat.reduceLT, Nat.reduceBEq, Nat.reduceDiv, Nat.reduceMod, Nat.reducePow, Nat.reduceMul, Int.reduceToNat, Int.reduceLT, Int.reduceLE, hgi, hy]) | refine And.intro (by omega) ?_ | refine And.intro (by intro hq; (try simp only [Bool.and_eq_true, Bool.or_eq_true, Bool.and_eq_false_iff, Bool.or_eq_false_iff, decide_eq_true_eq, decide_eq_false_iff_not, Bool.not_eq_true', Bool.not_eq_false', beq_iff_eq, beq_eq_false_iff_ne, ne_eq] at hq); omega) ?_ | fail)
    refine W_cond (by rfl) (fun hb => ?_) (fun hb => ?_)
    · have e : okAt l n i = false := by
        rw [hok, Bool.and_eq_false_iff, decide_eq_false_iff_not, decide_eq_false_iff_not]
        simp only [Bool.or_eq_true, Bool.and_eq_true, decide_eq_true_eq] at hb
        by_cases q : i = 0
        · have := hl0 q; omega
        · have := hl1 q; omega
      rw [setB_no hlt e]
      repeat' (first | refine WK_go ?_ | refine W_seqL ?_ | refine W_seq ?_ | refine W_block ?_ | refine W_scp ?_ | ((first | refine W_regL ?_ | refine W_skip ?_ | refine W_exit ?_); simp (maxSteps := 400000) (disch := omega) only [push_cast, ↓reduceIte, reduceCtorEq, Nat.reduceAdd, Nat.reduceSub, Nat.reduceEqDiff, Nat.reduceLeDiff, Nat.reduceLT, Nat.reduceBEq, Nat.reduceDiv, Nat.reduceMod, Nat.reducePow, Nat.reduceMul, Int.reduceToNat, Int.reduceLT, Int.reduceLE]) | refine And.intro (by omega) ?_ | refine And.intro (by intro hq; (try simp only [Bool.and_eq_true, Bool.or_eq_true, Bool.and_eq_false_iff, Bool.or_eq_false_iff, decide_eq_true_eq, decide_eq_false_iff_not, Bool.not_eq_true', Bool.not_eq_false', beq_iff_eq, beq_eq_false_iff_ne, ne_eq] at hq); omega) ?_ | fail)
      exact W_ret ⟨[_], ⟨rfl, rfl⟩, rfl⟩
    · have e : okAt l n i = true := by
        rw [hok, Bool.and_eq_true, decide_eq_true_eq, decide_eq_true_eq]
        simp only [Bool.or_eq_false_iff, Bool.and_eq_false_iff, decide_eq_false_iff_not] at hb
        by_cases q : i = 0
        · have := hl0 q; omega
        · have := hl1 q; omega
      repeat' (first | refine WK_go ?_ | refine W_seqL ?_ | refine W_seq ?_ | refine W_block ?_ | refine W_scp ?_ | ((first | refine W_regL ?_ | refine W_skip ?_ | refine W_exit ?_); simp (maxSteps := 400000) (disch := omega) only [push_cast, ↓reduceIte, reduceCtorEq, Nat.reduceAdd, Nat.reduceSub, Nat.reduceEqDiff, Nat.reduceLeDiff, Nat.reduceLT, Nat.reduceBEq, Nat.reduceDiv, Nat.reduceMod, Nat.reducePow, Nat.reduceMul, Int.reduceToNat, Int.reduceLT, Int.reduceLE]) | refine And.intro (by omega) ?_ | refine And.intro (by intro hq; (try simp only [Bool.and_eq_true, Bool.or_eq_true, Bool.and_eq_false_iff, Bool.or_eq_false_iff, decide_eq_true_eq, decide_eq_false_iff_not, Bool.not_eq_true', Bool.not_eq_false', beq_iff_eq, beq_eq_false_iff_ne, ne_eq] at hq); omega) ?_ | fail)
      refine ⟨i + 1, ⟨by omega, up_all hall e⟩, by omega, by rfl, ?_⟩
      simp (maxSteps := 400000) (disch := omega) only [push_cast, ↓reduceIte, reduceCtorEq, Nat.reduceAdd, Nat.reduceSub, Nat.reduceEqDiff, Nat.reduceLeDiff, Nat.reduceLT, Nat.reduceBEq, Nat.reduceDiv, Nat.reduceMod, Nat.reducePow, Nat.reduceMul, Int.reduceToNat, Int.reduceLT, Int.reduceLE, S.mk.injEq, List.cons.injEq, Prod.mk.injEq, AV.v.injEq, Value.int.injEq, Value.bool.injEq, Blk.cells.injEq]
  · rw [setB_yes (fun j hj => hall j (by omega))]
    repeat' (first | refine WK_go ?_ | refine W_seqL ?_ | refine W_seq ?_ | refine W_block ?_ | refine W_scp ?_ | ((first | refine W_regL ?_ | refine W_skip ?_ | refine W_exit ?_); simp (maxSteps := 400000) (disch := omega) only [push_cast, ↓reduceIte, reduceCtorEq, Nat.reduceAdd, Nat.reduceSub, Nat.reduceEqDiff, Nat.reduceLeDiff, Nat.reduceLT, Nat.reduceBEq, Nat.reduceDiv, Nat.reduceMod, Nat.reducePow, Nat.reduceMul, Int.reduceToNat, Int.reduceLT, Int.reduceLE]) | refine And.intro (by omega) ?_ | refine And.intro (by intro hq; (try simp only [Bool.and_eq_true, Bool.or_eq_true, Bool.and_eq_false_iff, Bool.or_eq_false_iff, decide_eq_true_eq, decide_eq_false_iff_not, Bool.not_eq_true', Bool.not_eq_false', beq_iff_eq, beq_eq_false_iff_ne, ne_eq] at hq); omega) ?_ | fail)
    exact W_ret ⟨[_], ⟨rfl, rfl⟩, rfl⟩
def idxF {α : Type} (p : α → Bool) : List α → Int → Int
  | [], _ => -1
  | x :: r, i => if p x then i else idxF p r (i + 1)
theorem idxF_at {α : Type} (p : α → Bool) (d : α) : ∀ (l : List α) (i : Nat) (k : Int), i < l.length → (∀ j, j < i → p (l.getD j d) = false) → p (l.getD i d) = true → idxF p l k = k + i
  | [], i, k, h, _, _ => by simp at h
  | x :: r, 0, k, _, _, h => by simp at h; simp [idxF, h]
  | x :: r, i + 1, k, h, hj, hp => by
    have h0 : p x = false := by simpa using hj 0 (by omega)
    have := idxF_at p d r i (k + 1) (by simpa using h) (fun j hlt => by simpa using hj (j + 1) (by omega)) (by simpa using hp)
    simp only [idxF, h0, Bool.false_eq_true, if_false, this]
    omega
theorem idxF_none {α : Type} (p : α → Bool) (d : α) : ∀ (l : List α) (k : Int), (∀ j, j < l.length → p (l.getD j d) = false) → idxF p l k = -1
  | [], k, _ => rfl
  | x :: r, k, h => by
    have h0 : p x = false := by simpa using h 0 (by simp)
    have := idxF_none p d r (k + 1) (fun j hlt => by simpa using h (j + 1) (by simpa using hlt))
    simp only [idxF, h0, Bool.false_eq_true, if_false, this]
theorem idxF_any {α : Type} (p : α → Bool) : ∀ (l : List α) (k : Int), 0 ≤ k → decide (0 ≤ idxF p l k) = l.any p
  | [], k, _ => by simp [idxF]
  | x :: r, k, h => by
    simp only [idxF, List.any_cons]
    by_cases hp : p x = true
    · simp [hp, h]
    · simp only [hp]
      simpa using idxF_any p r (k + 1) (by omega)
theorem getD_mem {α : Type} (d : α) (l : List α) (i : Nat) (h : i < l.length) : l.getD i d ∈ l := getD_mem' d l i h
theorem fn125 (l : List Int) (hl : l.length ≤ 1000000) (g : Nat) (fi ca : List AV) (p : Int → Bool) (hg : ∀ x ∈ l, Sy.Fn Try.prog g (fi ++ [iv x] ++ ca) (bv (p x))) : Sy.Fn Try.prog 125 [aI l, .clo g fi ca] (iv (idxF p l 0)) := by
  refine Fn_of_W mixed Xt125 rfl ?_
  repeat' (first | refine WK_go ?_ | refine W_seqL ?_ | refine W_seq ?_ | refine W_block ?_ | refine W_scp ?_ | ((first | refine W_regL ?_ | refine W_skip ?_ | refine W_exit ?_); simp (maxSteps := 400000) (disch := omega) only [push_cast, ↓reduceIte, reduceCtorEq, Nat.reduceAdd, Nat.reduceSub, Nat.reduceEqDiff, Nat.reduceLeDiff, Nat.reduceLT, Nat.reduceBEq, Nat.reduceDiv, Nat.reduceMod, Nat.reducePow, Nat.reduceMul, Int.reduceToNat, Int.reduceLT, Int.reduceLE]) | refine And.intro (by omega) ?_ | refine And.intro (by intro hq; (try simp only [Bool.and_eq_true, Bool.or_eq_true, Bool.and_eq_false_iff, Bool.or_eq_false_iff, decide_eq_true_eq, decide_eq_false_iff_not, Bool.not_eq_true', Bool.not_eq_false', beq_iff_eq, beq_eq_false_iff_ne, ne_eq] at hq); omega) ?_ | fail)
  refine W_loopU (fun i : Nat => [(8, iv i)]) (fun i => []) (fun i => i ≤ l.length ∧ ∀ j, j < i → p (l.getD j 0) = false) (fun i => l.length - i) 0 ⟨by omega, fun j hj => by omega⟩ (by rfl) (by rfl) (fun i hi => ?_)
  obtain ⟨hi, hp⟩ := hi
  simp (maxSteps := 400000) (disch := omega) only [push_cast, ↓reduceIte, reduceCtorEq, Nat.reduceAdd, Nat.reduceSub, Nat.reduceEqDiff, Nat.reduceLeDiff, Nat.reduceLT, Nat.reduceBEq, Nat.reduceDiv, Nat.reduceMod, Nat.reducePow, Nat.reduceMul, Int.reduceToNat, Int.reduceLT, Int.reduceLE]
  repeat' (first | refine WK_go ?_ | refine W_seqL ?_ | refine W_seq ?_ | refine W_block ?_ | refine W_scp ?_ | ((first | refine W_regL ?_ | refine W_skip ?_ | refine W_exit ?_); simp (maxSteps := 400000) (disch := omega) only [push_cast, ↓reduceIte, reduceCtorEq, Nat.reduceAdd, Nat.reduceSub, Nat.reduceEqDiff, Nat.reduceLeDiff, Nat.reduceLT, Nat.reduceBEq, Nat.reduceDiv, Nat.reduceMod, Nat.reducePow, Nat.reduceMul, Int.reduceToNat, Int.reduceLT, Int.reduceLE]) | refine And.intro (by omega) ?_ | refine And.intro (by intro hq; (try simp only [Bool.and_eq_true, Bool.or_eq_true, Bool.and_eq_false_iff, Bool.or_eq_false_iff, decide_eq_true_eq, decide_eq_false_iff_not, Bool.not_eq_true', Bool.not_eq_false', beq_iff_eq, beq_eq_false_iff_ne, ne_eq] at hq); omega) ?_ | fail)
  refine W_condD (by rfl) (fun h => ?_) (fun h => ?_)
  · have hlt : i < l.length := by omega
    have cg := hg _ (getD_mem 0 l i hlt)
    repeat' (first | refine WK_go ?_ | refine W_seqL ?_ | refine W_seq ?_ | refine W_block ?_ | refine W_scp ?_ | ((first | refine W_regL ?_ | refine W_skip ?_ | refine W_exit ?_ | refine CallC.now (cg) ?_); simp (maxSteps := 400000) (disch := omega) only [push_cast, ↓reduceIte, reduceCtorEq, Nat.reduceAdd, Nat.reduceSub, Nat.reduceEqDiff, Nat.reduceLeDiff, Nat.reduceLT, Nat.reduceBEq, Nat.reduceDiv, Nat.reduceMod, Nat.reducePow, Nat.reduceMul, Int.reduceToNat, Int.reduceLT, Int.reduceLE]) | refine And.intro (by omega) ?_ | refine And.intro (by intro hq; (try simp only [Bool.and_eq_true, Bool.or_eq_true, Bool.and_eq_false_iff, Bool.or_eq_false_iff, decide_eq_true_eq, decide_eq_false_iff_not, Bool.not_eq_true', Bool.not_eq_false', beq_iff_eq, beq_eq_false_iff_ne, ne_eq] at hq); omega) ?_ | fail)
    refine W_cond (by rfl) (fun hb => ?_) (fun hb => ?_)
    · repeat' (first | refine WK_go ?_ | refine W_seqL ?_ | refine W_seq ?_ | refine W_block ?_ | refine W_scp ?_ | ((first | refine W_regL ?_ | refine W_skip ?_ | refine W_exit ?_); simp (maxSteps := 400000) (disch := omega) only [push_cast, ↓reduceIte, reduceCtorEq, Nat.reduceAdd, Nat.reduceSub, Nat.reduceEqDiff, Nat.reduceLeDiff, Nat.reduceLT, Nat.reduceBEq, Nat.reduceDiv, Nat.reduceMod, Nat.reducePow, Nat.reduceMul, Int.reduceToNat, Int.reduceLT, Int.reduceLE]) | refine And.intro (by omega) ?_ | refine And.intro (by intro hq; (try simp only [Bool.and_eq_true, Bool.or_eq_true, Bool.and_eq_false_iff, Bool.or_eq_false_iff, decide_eq_true_eq, decide_eq_false_iff_not, Bool.not_eq_true', Bool.not_eq_false', beq_iff_eq, beq_eq_false_iff_ne, ne_eq] at hq); omega) ?_ | fail)
      exact W_ret ⟨[_], ⟨rfl, rfl⟩, by rw [idxF_at p 0 l i 0 hlt hp hb, Int.zero_add]; rfl⟩
    · repeat' (first | refine WK_go ?_ | refine W_seqL ?_ | refine W_seq ?_ | refine W_block ?_ | refine W_scp ?_ | ((first | refine W_regL ?_ | refine W_skip ?_ | refine W_exit ?_); simp (maxSteps := 400000) (disch := omega) only [push_cast, ↓reduceIte, reduceCtorEq, Nat.reduceAdd, Nat.reduceSub, Nat.reduceEqDiff, Nat.reduceLeDiff, Nat.reduceLT, Nat.reduceBEq, Nat.reduceDiv, Nat.reduceMod, Nat.reducePow, Nat.reduceMul, Int.reduceToNat, Int.reduceLT, Int.reduceLE]) | refine And.intro (by omega) ?_ | refine And.intro (by intro hq; (try simp only [Bool.and_eq_true, Bool.or_eq_true, Bool.and_eq_false_iff, Bool.or_eq_false_iff, decide_eq_true_eq, decide_eq_false_iff_not, Bool.not_eq_true', Bool.not_eq_false', beq_iff_eq, beq_eq_false_iff_ne, ne_eq] at hq); omega) ?_ | fail)
      refine ⟨i + 1, ⟨by omega, up_all hp hb⟩, by omega, by rfl, ?_⟩
      simp (maxSteps := 400000) (disch := omega) only [push_cast, ↓reduceIte, reduceCtorEq, Nat.reduceAdd, Nat.reduceSub, Nat.reduceEqDiff, Nat.reduceLeDiff, Nat.reduceLT, Nat.reduceBEq, Nat.reduceDiv, Nat.reduceMod, Nat.reducePow, Nat.reduceMul, Int.reduceToNat, Int.reduceLT, Int.reduceLE, S.mk.injEq, List.cons.injEq, Prod.mk.injEq, AV.v.injEq, Value.int.injEq, Value.bool.injEq, Blk.cells.injEq]
  · repeat' (first | refine WK_go ?_ | refine W_seqL ?_ | refine W_seq ?_ | refine W_block ?_ | refine W_scp ?_ | ((first | refine W_regL ?_ | refine W_skip ?_ | refine W_exit ?_); simp (maxSteps := 400000) (disch := omega) only [push_cast, ↓reduceIte, reduceCtorEq, Nat.reduceAdd, Nat.reduceSub, Nat.reduceEqDiff, Nat.reduceLeDiff, Nat.reduceLT, Nat.reduceBEq, Nat.reduceDiv, Nat.reduceMod, Nat.reducePow, Nat.reduceMul, Int.reduceToNat, Int.reduceLT, Int.reduceLE]) | refine And.intro (by omega) ?_ | refine And.intro (by intro hq; (try simp only [Bool.and_eq_true, Bool.or_eq_true, Bool.and_eq_false_iff, Bool.or_eq_false_iff, decide_eq_true_eq, decide_eq_false_iff_not, Bool.not_eq_true', Bool.not_eq_false', beq_iff_eq, beq_eq_false_iff_ne, ne_eq] at hq); omega) ?_ | fail)
    exact W_ret ⟨[_], ⟨rfl, rfl⟩, by rw [idxF_none p 0 l 0 (fun j hj => hp j (by omega))]; rfl⟩
theorem fn88 (l : List Int) (hl : l.length ≤ 1000000) (g : Nat) (fi ca : List AV) (p : Int → Bool) (hg : ∀ x ∈ l, Sy.Fn Try.prog g (fi ++ [iv x] ++ ca) (bv (p x))) : Sy.Fn Try.prog 88 [aI l, .clo g fi ca] (bv (l.any p)) := by
  refine Fn_of_W mixed Xt88 rfl ?_
  repeat' (first | refine WK_go ?_ | refine W_seqL ?_ | refine W_seq ?_ | refine W_block ?_ | refine W_scp ?_ | ((first | refine W_regL ?_ | refine W_skip ?_ | refine W_exit ?_ | refine CallC.now (fn125 l hl g fi ca p hg) ?_); simp (maxSteps := 400000) (disch := omega) only [push_cast, ↓reduceIte, reduceCtorEq, Nat.reduceAdd, Nat.reduceSub, Nat.reduceEqDiff, Nat.reduceLeDiff, Nat.reduceLT, Nat.reduceBEq, Nat.reduceDiv, Nat.reduceMod, Nat.reducePow, Nat.reduceMul, Int.reduceToNat, Int.reduceLT, Int.reduceLE]) | refine And.intro (by omega) ?_ | refine And.intro (by intro hq; (try simp only [Bool.and_eq_true, Bool.or_eq_true, Bool.and_eq_false_iff, Bool.or_eq_false_iff, decide_eq_true_eq, decide_eq_false_iff_not, Bool.not_eq_true', Bool.not_eq_false', beq_iff_eq, beq_eq_false_iff_ne, ne_eq] at hq); omega) ?_ | fail)
  exact W_ret ⟨[_], ⟨rfl, rfl⟩, by rw [← idxF_any p l 0 (by omega)]; rfl⟩
theorem fn62 (l : List Rd) (hl : l.length ≤ 1000000) (g : Nat) (fi ca : List AV) (p : Rd → Bool) (hg : ∀ x ∈ l, Sy.Fn Try.prog g (fi ++ [.agg (cR x)] ++ ca) (bv (p x))) : Sy.Fn Try.prog 62 [aR l, .clo g fi ca] (iv (idxF p l 0)) := by
  refine Fn_of_W mixed Xt62 rfl ?_
  repeat' (first | refine WK_go ?_ | refine W_seqL ?_ | refine W_seq ?_ | refine W_block ?_ | refine W_scp ?_ | ((first | refine W_regL ?_ | refine W_skip ?_ | refine W_exit ?_); simp (maxSteps := 400000) (disch := omega) only [push_cast, ↓reduceIte, reduceCtorEq, Nat.reduceAdd, Nat.reduceSub, Nat.reduceEqDiff, Nat.reduceLeDiff, Nat.reduceLT, Nat.reduceBEq, Nat.reduceDiv, Nat.reduceMod, Nat.reducePow, Nat.reduceMul, Int.reduceToNat, Int.reduceLT, Int.reduceLE]) | refine And.intro (by omega) ?_ | refine And.intro (by intro hq; (try simp only [Bool.and_eq_true, Bool.or_eq_true, Bool.and_eq_false_iff, Bool.or_eq_false_iff, decide_eq_true_eq, decide_eq_false_iff_not, Bool.not_eq_true', Bool.not_eq_false', beq_iff_eq, beq_eq_false_iff_ne, ne_eq] at hq); omega) ?_ | fail)
  refine W_loopU (fun i : Nat => [(8, iv i)]) (fun i => []) (fun i => i ≤ l.length ∧ ∀ j, j < i → p (l.getD j dR) = false) (fun i => l.length - i) 0 ⟨by omega, fun j hj => by omega⟩ (by rfl) (by rfl) (fun i hi => ?_)
  obtain ⟨hi, hp⟩ := hi
  simp (maxSteps := 400000) (disch := omega) only [push_cast, ↓reduceIte, reduceCtorEq, Nat.reduceAdd, Nat.reduceSub, Nat.reduceEqDiff, Nat.reduceLeDiff, Nat.reduceLT, Nat.reduceBEq, Nat.reduceDiv, Nat.reduceMod, Nat.reducePow, Nat.reduceMul, Int.reduceToNat, Int.reduceLT, Int.reduceLE]
  repeat' (first | refine WK_go ?_ | refine W_seqL ?_ | refine W_seq ?_ | refine W_block ?_ | refine W_scp ?_ | ((first | refine W_regL ?_ | refine W_skip ?_ | refine W_exit ?_); simp (maxSteps := 400000) (disch := omega) only [push_cast, ↓reduceIte, reduceCtorEq, Nat.reduceAdd, Nat.reduceSub, Nat.reduceEqDiff, Nat.reduceLeDiff, Nat.reduceLT, Nat.reduceBEq, Nat.reduceDiv, Nat.reduceMod, Nat.reducePow, Nat.reduceMul, Int.reduceToNat, Int.reduceLT, Int.reduceLE]) | refine And.intro (by omega) ?_ | refine And.intro (by intro hq; (try simp only [Bool.and_eq_true, Bool.or_eq_true, Bool.and_eq_false_iff, Bool.or_eq_false_iff, decide_eq_true_eq, decide_eq_false_iff_not, Bool.not_eq_true', Bool.not_eq_false', beq_iff_eq, beq_eq_false_iff_ne, ne_eq] at hq); omega) ?_ | fail)
  refine W_condD (by rfl) (fun h => ?_) (fun h => ?_)
  · have hlt : i < l.length := by omega
    have cg := hg _ (getD_mem dR l i hlt)
    repeat' (first | refine WK_go ?_ | refine W_seqL ?_ | refine W_seq ?_ | refine W_block ?_ | refine W_scp ?_ | ((first | refine W_regL ?_ | refine W_skip ?_ | refine W_exit ?_ | refine CallC.now (cg) ?_); simp (maxSteps := 400000) (disch := omega) only [push_cast, ↓reduceIte, reduceCtorEq, Nat.reduceAdd, Nat.reduceSub, Nat.reduceEqDiff, Nat.reduceLeDiff, Nat.reduceLT, Nat.reduceBEq, Nat.reduceDiv, Nat.reduceMod, Nat.reducePow, Nat.reduceMul, Int.reduceToNat, Int.reduceLT, Int.reduceLE]) | refine And.intro (by omega) ?_ | refine And.intro (by intro hq; (try simp only [Bool.and_eq_true, Bool.or_eq_true, Bool.and_eq_false_iff, Bool.or_eq_false_iff, decide_eq_true_eq, decide_eq_false_iff_not, Bool.not_eq_true', Bool.not_eq_false', beq_iff_eq, beq_eq_false_iff_ne, ne_eq] at hq); omega) ?_ | fail)
    refine W_cond (by rfl) (fun hb => ?_) (fun hb => ?_)
    · repeat' (first | refine WK_go ?_ | refine W_seqL ?_ | refine W_seq ?_ | refine W_block ?_ | refine W_scp ?_ | ((first | refine W_regL ?_ | refine W_skip ?_ | refine W_exit ?_); simp (maxSteps := 400000) (disch := omega) only [push_cast, ↓reduceIte, reduceCtorEq, Nat.reduceAdd, Nat.reduceSub, Nat.reduceEqDiff, Nat.reduceLeDiff, Nat.reduceLT, Nat.reduceBEq, Nat.reduceDiv, Nat.reduceMod, Nat.reducePow, Nat.reduceMul, Int.reduceToNat, Int.reduceLT, Int.reduceLE]) | refine And.intro (by omega) ?_ | refine And.intro (by intro hq; (try simp only [Bool.and_eq_true, Bool.or_eq_true, Bool.and_eq_false_iff, Bool.or_eq_false_iff, decide_eq_true_eq, decide_eq_false_iff_not, Bool.not_eq_true', Bool.not_eq_false', beq_iff_eq, beq_eq_false_iff_ne, ne_eq] at hq); omega) ?_ | fail)
      exact W_ret ⟨[_], ⟨rfl, rfl⟩, by rw [idxF_at p dR l i 0 hlt hp hb, Int.zero_add]; rfl⟩
    · repeat' (first | refine WK_go ?_ | refine W_seqL ?_ | refine W_seq ?_ | refine W_block ?_ | refine W_scp ?_ | ((first | refine W_regL ?_ | refine W_skip ?_ | refine W_exit ?_); simp (maxSteps := 400000) (disch := omega) only [push_cast, ↓reduceIte, reduceCtorEq, Nat.reduceAdd, Nat.reduceSub, Nat.reduceEqDiff, Nat.reduceLeDiff, Nat.reduceLT, Nat.reduceBEq, Nat.reduceDiv, Nat.reduceMod, Nat.reducePow, Nat.reduceMul, Int.reduceToNat, Int.reduceLT, Int.reduceLE]) | refine And.intro (by omega) ?_ | refine And.intro (by intro hq; (try simp only [Bool.and_eq_true, Bool.or_eq_true, Bool.and_eq_false_iff, Bool.or_eq_false_iff, decide_eq_true_eq, decide_eq_false_iff_not, Bool.not_eq_true', Bool.not_eq_false', beq_iff_eq, beq_eq_false_iff_ne, ne_eq] at hq); omega) ?_ | fail)
      refine ⟨i + 1, ⟨by omega, up_all hp hb⟩, by omega, by rfl, ?_⟩
      simp (maxSteps := 400000) (disch := omega) only [push_cast, ↓reduceIte, reduceCtorEq, Nat.reduceAdd, Nat.reduceSub, Nat.reduceEqDiff, Nat.reduceLeDiff, Nat.reduceLT, Nat.reduceBEq, Nat.reduceDiv, Nat.reduceMod, Nat.reducePow, Nat.reduceMul, Int.reduceToNat, Int.reduceLT, Int.reduceLE, S.mk.injEq, List.cons.injEq, Prod.mk.injEq, AV.v.injEq, Value.int.injEq, Value.bool.injEq, Blk.cells.injEq]
  · repeat' (first | refine WK_go ?_ | refine W_seqL ?_ | refine W_seq ?_ | refine W_block ?_ | refine W_scp ?_ | ((first | refine W_regL ?_ | refine W_skip ?_ | refine W_exit ?_); simp (maxSteps := 400000) (disch := omega) only [push_cast, ↓reduceIte, reduceCtorEq, Nat.reduceAdd, Nat.reduceSub, Nat.reduceEqDiff, Nat.reduceLeDiff, Nat.reduceLT, Nat.reduceBEq, Nat.reduceDiv, Nat.reduceMod, Nat.reducePow, Nat.reduceMul, Int.reduceToNat, Int.reduceLT, Int.reduceLE]) | refine And.intro (by omega) ?_ | refine And.intro (by intro hq; (try simp only [Bool.and_eq_true, Bool.or_eq_true, Bool.and_eq_false_iff, Bool.or_eq_false_iff, decide_eq_true_eq, decide_eq_false_iff_not, Bool.not_eq_true', Bool.not_eq_false', beq_iff_eq, beq_eq_false_iff_ne, ne_eq] at hq); omega) ?_ | fail)
    exact W_ret ⟨[_], ⟨rfl, rfl⟩, by rw [idxF_none p dR l 0 (fun j hj => hp j (by omega))]; rfl⟩
theorem fn87 (l : List Rd) (hl : l.length ≤ 1000000) (g : Nat) (fi ca : List AV) (p : Rd → Bool) (hg : ∀ x ∈ l, Sy.Fn Try.prog g (fi ++ [.agg (cR x)] ++ ca) (bv (p x))) : Sy.Fn Try.prog 87 [aR l, .clo g fi ca] (bv (l.any p)) := by
  refine Fn_of_W mixed Xt87 rfl ?_
  repeat' (first | refine WK_go ?_ | refine W_seqL ?_ | refine W_seq ?_ | refine W_block ?_ | refine W_scp ?_ | ((first | refine W_regL ?_ | refine W_skip ?_ | refine W_exit ?_ | refine CallC.now (fn62 l hl g fi ca p hg) ?_); simp (maxSteps := 400000) (disch := omega) only [push_cast, ↓reduceIte, reduceCtorEq, Nat.reduceAdd, Nat.reduceSub, Nat.reduceEqDiff, Nat.reduceLeDiff, Nat.reduceLT, Nat.reduceBEq, Nat.reduceDiv, Nat.reduceMod, Nat.reducePow, Nat.reduceMul, Int.reduceToNat, Int.reduceLT, Int.reduceLE]) | refine And.intro (by omega) ?_ | refine And.intro (by intro hq; (try simp only [Bool.and_eq_true, Bool.or_eq_true, Bool.and_eq_false_iff, Bool.or_eq_false_iff, decide_eq_true_eq, decide_eq_false_iff_not, Bool.not_eq_true', Bool.not_eq_false', beq_iff_eq, beq_eq_false_iff_ne, ne_eq] at hq); omega) ?_ | fail)
  exact W_ret ⟨[_], ⟨rfl, rfl⟩, by rw [← idxF_any p l 0 (by omega)]; rfl⟩
theorem fn124 (l : List Wrk) (hl : l.length ≤ 1000000) (g : Nat) (fi ca : List AV) (p : Wrk → Bool) (hg : ∀ x ∈ l, Sy.Fn Try.prog g (fi ++ [.agg (cW x)] ++ ca) (bv (p x))) : Sy.Fn Try.prog 124 [aW l, .clo g fi ca] (iv (idxF p l 0)) := by
  refine Fn_of_W mixed Xt124 rfl ?_
  repeat' (first | refine WK_go ?_ | refine W_seqL ?_ | refine W_seq ?_ | refine W_block ?_ | refine W_scp ?_ | ((first | refine W_regL ?_ | refine W_skip ?_ | refine W_exit ?_); simp (maxSteps := 400000) (disch := omega) only [push_cast, ↓reduceIte, reduceCtorEq, Nat.reduceAdd, Nat.reduceSub, Nat.reduceEqDiff, Nat.reduceLeDiff, Nat.reduceLT, Nat.reduceBEq, Nat.reduceDiv, Nat.reduceMod, Nat.reducePow, Nat.reduceMul, Int.reduceToNat, Int.reduceLT, Int.reduceLE]) | refine And.intro (by omega) ?_ | refine And.intro (by intro hq; (try simp only [Bool.and_eq_true, Bool.or_eq_true, Bool.and_eq_false_iff, Bool.or_eq_false_iff, decide_eq_true_eq, decide_eq_false_iff_not, Bool.not_eq_true', Bool.not_eq_false', beq_iff_eq, beq_eq_false_iff_ne, ne_eq] at hq); omega) ?_ | fail)
  refine W_loopU (fun i : Nat => [(8, iv i)]) (fun i => []) (fun i => i ≤ l.length ∧ ∀ j, j < i → p (l.getD j dW) = false) (fun i => l.length - i) 0 ⟨by omega, fun j hj => by omega⟩ (by rfl) (by rfl) (fun i hi => ?_)
  obtain ⟨hi, hp⟩ := hi
  simp (maxSteps := 400000) (disch := omega) only [push_cast, ↓reduceIte, reduceCtorEq, Nat.reduceAdd, Nat.reduceSub, Nat.reduceEqDiff, Nat.reduceLeDiff, Nat.reduceLT, Nat.reduceBEq, Nat.reduceDiv, Nat.reduceMod, Nat.reducePow, Nat.reduceMul, Int.reduceToNat, Int.reduceLT, Int.reduceLE]
  repeat' (first | refine WK_go ?_ | refine W_seqL ?_ | refine W_seq ?_ | refine W_block ?_ | refine W_scp ?_ | ((first | refine W_regL ?_ | refine W_skip ?_ | refine W_exit ?_); simp (maxSteps := 400000) (disch := omega) only [push_cast, ↓reduceIte, reduceCtorEq, Nat.reduceAdd, Nat.reduceSub, Nat.reduceEqDiff, Nat.reduceLeDiff, Nat.reduceLT, Nat.reduceBEq, Nat.reduceDiv, Nat.reduceMod, Nat.reducePow, Nat.reduceMul, Int.reduceToNat, Int.reduceLT, Int.reduceLE]) | refine And.intro (by omega) ?_ | refine And.intro (by intro hq; (try simp only [Bool.and_eq_true, Bool.or_eq_true, Bool.and_eq_false_iff, Bool.or_eq_false_iff, decide_eq_true_eq, decide_eq_false_iff_not, Bool.not_eq_true', Bool.not_eq_false', beq_iff_eq, beq_eq_false_iff_ne, ne_eq] at hq); omega) ?_ | fail)
  refine W_condD (by rfl) (fun h => ?_) (fun h => ?_)
  · have hlt : i < l.length := by omega
    have cg := hg _ (getD_mem dW l i hlt)
    repeat' (first | refine WK_go ?_ | refine W_seqL ?_ | refine W_seq ?_ | refine W_block ?_ | refine W_scp ?_ | ((first | refine W_regL ?_ | refine W_skip ?_ | refine W_exit ?_ | refine CallC.now (cg) ?_); simp (maxSteps := 400000) (disch := omega) only [push_cast, ↓reduceIte, reduceCtorEq, Nat.reduceAdd, Nat.reduceSub, Nat.reduceEqDiff, Nat.reduceLeDiff, Nat.reduceLT, Nat.reduceBEq, Nat.reduceDiv, Nat.reduceMod, Nat.reducePow, Nat.reduceMul, Int.reduceToNat, Int.reduceLT, Int.reduceLE]) | refine And.intro (by omega) ?_ | refine And.intro (by intro hq; (try simp only [Bool.and_eq_true, Bool.or_eq_true, Bool.and_eq_false_iff, Bool.or_eq_false_iff, decide_eq_true_eq, decide_eq_false_iff_not, Bool.not_eq_true', Bool.not_eq_false', beq_iff_eq, beq_eq_false_iff_ne, ne_eq] at hq); omega) ?_ | fail)
    refine W_cond (by rfl) (fun hb => ?_) (fun hb => ?_)
    · repeat' (first | refine WK_go ?_ | refine W_seqL ?_ | refine W_seq ?_ | refine W_block ?_ | refine W_scp ?_ | ((first | refine W_regL ?_ | refine W_skip ?_ | refine W_exit ?_); simp (maxSteps := 400000) (disch := omega) only [push_cast, ↓reduceIte, reduceCtorEq, Nat.reduceAdd, Nat.reduceSub, Nat.reduceEqDiff, Nat.reduceLeDiff, Nat.reduceLT, Nat.reduceBEq, Nat.reduceDiv, Nat.reduceMod, Nat.reducePow, Nat.reduceMul, Int.reduceToNat, Int.reduceLT, Int.reduceLE]) | refine And.intro (by omega) ?_ | refine And.intro (by intro hq; (try simp only [Bool.and_eq_true, Bool.or_eq_true, Bool.and_eq_false_iff, Bool.or_eq_false_iff, decide_eq_true_eq, decide_eq_false_iff_not, Bool.not_eq_true', Bool.not_eq_false', beq_iff_eq, beq_eq_false_iff_ne, ne_eq] at hq); omega) ?_ | fail)
      exact W_ret ⟨[_], ⟨rfl, rfl⟩, by rw [idxF_at p dW l i 0 hlt hp hb, Int.zero_add]; rfl⟩
    · repeat' (first | refine WK_go ?_ | refine W_seqL ?_ | refine W_seq ?_ | refine W_block ?_ | refine W_scp ?_ | ((first | refine W_regL ?_ | refine W_skip ?_ | refine W_exit ?_); simp (maxSteps := 400000) (disch := omega) only [push_cast, ↓reduceIte, reduceCtorEq, Nat.reduceAdd, Nat.reduceSub, Nat.reduceEqDiff, Nat.reduceLeDiff, Nat.reduceLT, Nat.reduceBEq, Nat.reduceDiv, Nat.reduceMod, Nat.reducePow, Nat.reduceMul, Int.reduceToNat, Int.reduceLT, Int.reduceLE]) | refine And.intro (by omega) ?_ | refine And.intro (by intro hq; (try simp only [Bool.and_eq_true, Bool.or_eq_true, Bool.and_eq_false_iff, Bool.or_eq_false_iff, decide_eq_true_eq, decide_eq_false_iff_not, Bool.not_eq_true', Bool.not_eq_false', beq_iff_eq, beq_eq_false_iff_ne, ne_eq] at hq); omega) ?_ | fail)
      refine ⟨i + 1, ⟨by omega, up_all hp hb⟩, by omega, by rfl, ?_⟩
      simp (maxSteps := 400000) (disch := omega) only [push_cast, ↓reduceIte, reduceCtorEq, Nat.reduceAdd, Nat.reduceSub, Nat.reduceEqDiff, Nat.reduceLeDiff, Nat.reduceLT, Nat.reduceBEq, Nat.reduceDiv, Nat.reduceMod, Nat.reducePow, Nat.reduceMul, Int.reduceToNat, Int.reduceLT, Int.reduceLE, S.mk.injEq, List.cons.injEq, Prod.mk.injEq, AV.v.injEq, Value.int.injEq, Value.bool.injEq, Blk.cells.injEq]
  · repeat' (first | refine WK_go ?_ | refine W_seqL ?_ | refine W_seq ?_ | refine W_block ?_ | refine W_scp ?_ | ((first | refine W_regL ?_ | refine W_skip ?_ | refine W_exit ?_); simp (maxSteps := 400000) (disch := omega) only [push_cast, ↓reduceIte, reduceCtorEq, Nat.reduceAdd, Nat.reduceSub, Nat.reduceEqDiff, Nat.reduceLeDiff, Nat.reduceLT, Nat.reduceBEq, Nat.reduceDiv, Nat.reduceMod, Nat.reducePow, Nat.reduceMul, Int.reduceToNat, Int.reduceLT, Int.reduceLE]) | refine And.intro (by omega) ?_ | refine And.intro (by intro hq; (try simp only [Bool.and_eq_true, Bool.or_eq_true, Bool.and_eq_false_iff, Bool.or_eq_false_iff, decide_eq_true_eq, decide_eq_false_iff_not, Bool.not_eq_true', Bool.not_eq_false', beq_iff_eq, beq_eq_false_iff_ne, ne_eq] at hq); omega) ?_ | fail)
    exact W_ret ⟨[_], ⟨rfl, rfl⟩, by rw [idxF_none p dW l 0 (fun j hj => hp j (by omega))]; rfl⟩
theorem fn81 (l : List Wrk) (hl : l.length ≤ 1000000) (g : Nat) (fi ca : List AV) (p : Wrk → Bool) (hg : ∀ x ∈ l, Sy.Fn Try.prog g (fi ++ [.agg (cW x)] ++ ca) (bv (p x))) : Sy.Fn Try.prog 81 [aW l, .clo g fi ca] (bv (l.any p)) := by
  refine Fn_of_W mixed Xt81 rfl ?_
  repeat' (first | refine WK_go ?_ | refine W_seqL ?_ | refine W_seq ?_ | refine W_block ?_ | refine W_scp ?_ | ((first | refine W_regL ?_ | refine W_skip ?_ | refine W_exit ?_ | refine CallC.now (fn124 l hl g fi ca p hg) ?_); simp (maxSteps := 400000) (disch := omega) only [push_cast, ↓reduceIte, reduceCtorEq, Nat.reduceAdd, Nat.reduceSub, Nat.reduceEqDiff, Nat.reduceLeDiff, Nat.reduceLT, Nat.reduceBEq, Nat.reduceDiv, Nat.reduceMod, Nat.reducePow, Nat.reduceMul, Int.reduceToNat, Int.reduceLT, Int.reduceLE]) | refine And.intro (by omega) ?_ | refine And.intro (by intro hq; (try simp only [Bool.and_eq_true, Bool.or_eq_true, Bool.and_eq_false_iff, Bool.or_eq_false_iff, decide_eq_true_eq, decide_eq_false_iff_not, Bool.not_eq_true', Bool.not_eq_false', beq_iff_eq, beq_eq_false_iff_ne, ne_eq] at hq); omega) ?_ | fail)
  exact W_ret ⟨[_], ⟨rfl, rfl⟩, by rw [← idxF_any p l 0 (by omega)]; rfl⟩
theorem fn120 (l : List Int) (hl : l.length ≤ 1000000) (g : Nat) (fi ca : List AV) (p : Int → Bool) (hg : ∀ x ∈ l, Sy.Fn Try.prog g (fi ++ [iv x] ++ ca) (bv (p x))) : Sy.Fn Try.prog 120 [aI l, .clo g fi ca] (iv (idxF p l 0)) := by
  refine Fn_of_W mixed Xt120 rfl ?_
  repeat' (first | refine WK_go ?_ | refine W_seqL ?_ | refine W_seq ?_ | refine W_block ?_ | refine W_scp ?_ | ((first | refine W_regL ?_ | refine W_skip ?_ | refine W_exit ?_); simp (maxSteps := 400000) (disch := omega) only [push_cast, ↓reduceIte, reduceCtorEq, Nat.reduceAdd, Nat.reduceSub, Nat.reduceEqDiff, Nat.reduceLeDiff, Nat.reduceLT, Nat.reduceBEq, Nat.reduceDiv, Nat.reduceMod, Nat.reducePow, Nat.reduceMul, Int.reduceToNat, Int.reduceLT, Int.reduceLE]) | refine And.intro (by omega) ?_ | refine And.intro (by intro hq; (try simp only [Bool.and_eq_true, Bool.or_eq_true, Bool.and_eq_false_iff, Bool.or_eq_false_iff, decide_eq_true_eq, decide_eq_false_iff_not, Bool.not_eq_true', Bool.not_eq_false', beq_iff_eq, beq_eq_false_iff_ne, ne_eq] at hq); omega) ?_ | fail)
  refine W_loopU (fun i : Nat => [(8, iv i)]) (fun i => []) (fun i => i ≤ l.length ∧ ∀ j, j < i → p (l.getD j 0) = false) (fun i => l.length - i) 0 ⟨by omega, fun j hj => by omega⟩ (by rfl) (by rfl) (fun i hi => ?_)
  obtain ⟨hi, hp⟩ := hi
  simp (maxSteps := 400000) (disch := omega) only [push_cast, ↓reduceIte, reduceCtorEq, Nat.reduceAdd, Nat.reduceSub, Nat.reduceEqDiff, Nat.reduceLeDiff, Nat.reduceLT, Nat.reduceBEq, Nat.reduceDiv, Nat.reduceMod, Nat.reducePow, Nat.reduceMul, Int.reduceToNat, Int.reduceLT, Int.reduceLE]
  repeat' (first | refine WK_go ?_ | refine W_seqL ?_ | refine W_seq ?_ | refine W_block ?_ | refine W_scp ?_ | ((first | refine W_regL ?_ | refine W_skip ?_ | refine W_exit ?_); simp (maxSteps := 400000) (disch := omega) only [push_cast, ↓reduceIte, reduceCtorEq, Nat.reduceAdd, Nat.reduceSub, Nat.reduceEqDiff, Nat.reduceLeDiff, Nat.reduceLT, Nat.reduceBEq, Nat.reduceDiv, Nat.reduceMod, Nat.reducePow, Nat.reduceMul, Int.reduceToNat, Int.reduceLT, Int.reduceLE]) | refine And.intro (by omega) ?_ | refine And.intro (by intro hq; (try simp only [Bool.and_eq_true, Bool.or_eq_true, Bool.and_eq_false_iff, Bool.or_eq_false_iff, decide_eq_true_eq, decide_eq_false_iff_not, Bool.not_eq_true', Bool.not_eq_false', beq_iff_eq, beq_eq_false_iff_ne, ne_eq] at hq); omega) ?_ | fail)
  refine W_condD (by rfl) (fun h => ?_) (fun h => ?_)
  · have hlt : i < l.length := by omega
    have cg := hg _ (getD_mem 0 l i hlt)
    repeat' (first | refine WK_go ?_ | refine W_seqL ?_ | refine W_seq ?_ | refine W_block ?_ | refine W_scp ?_ | ((first | refine W_regL ?_ | refine W_skip ?_ | refine W_exit ?_ | refine CallC.now (cg) ?_); simp (maxSteps := 400000) (disch := omega) only [push_cast, ↓reduceIte, reduceCtorEq, Nat.reduceAdd, Nat.reduceSub, Nat.reduceEqDiff, Nat.reduceLeDiff, Nat.reduceLT, Nat.reduceBEq, Nat.reduceDiv, Nat.reduceMod, Nat.reducePow, Nat.reduceMul, Int.reduceToNat, Int.reduceLT, Int.reduceLE]) | refine And.intro (by omega) ?_ | refine And.intro (by intro hq; (try simp only [Bool.and_eq_true, Bool.or_eq_true, Bool.and_eq_false_iff, Bool.or_eq_false_iff, decide_eq_true_eq, decide_eq_false_iff_not, Bool.not_eq_true', Bool.not_eq_false', beq_iff_eq, beq_eq_false_iff_ne, ne_eq] at hq); omega) ?_ | fail)
    refine W_cond (by rfl) (fun hb => ?_) (fun hb => ?_)
    · repeat' (first | refine WK_go ?_ | refine W_seqL ?_ | refine W_seq ?_ | refine W_block ?_ | refine W_scp ?_ | ((first | refine W_regL ?_ | refine W_skip ?_ | refine W_exit ?_); simp (maxSteps := 400000) (disch := omega) only [push_cast, ↓reduceIte, reduceCtorEq, Nat.reduceAdd, Nat.reduceSub, Nat.reduceEqDiff, Nat.reduceLeDiff, Nat.reduceLT, Nat.reduceBEq, Nat.reduceDiv, Nat.reduceMod, Nat.reducePow, Nat.reduceMul, Int.reduceToNat, Int.reduceLT, Int.reduceLE]) | refine And.intro (by omega) ?_ | refine And.intro (by intro hq; (try simp only [Bool.and_eq_true, Bool.or_eq_true, Bool.and_eq_false_iff, Bool.or_eq_false_iff, decide_eq_true_eq, decide_eq_false_iff_not, Bool.not_eq_true', Bool.not_eq_false', beq_iff_eq, beq_eq_false_iff_ne, ne_eq] at hq); omega) ?_ | fail)
      exact W_ret ⟨[_], ⟨rfl, rfl⟩, by rw [idxF_at p 0 l i 0 hlt hp hb, Int.zero_add]; rfl⟩
    · repeat' (first | refine WK_go ?_ | refine W_seqL ?_ | refine W_seq ?_ | refine W_block ?_ | refine W_scp ?_ | ((first | refine W_regL ?_ | refine W_skip ?_ | refine W_exit ?_); simp (maxSteps := 400000) (disch := omega) only [push_cast, ↓reduceIte, reduceCtorEq, Nat.reduceAdd, Nat.reduceSub, Nat.reduceEqDiff, Nat.reduceLeDiff, Nat.reduceLT, Nat.reduceBEq, Nat.reduceDiv, Nat.reduceMod, Nat.reducePow, Nat.reduceMul, Int.reduceToNat, Int.reduceLT, Int.reduceLE]) | refine And.intro (by omega) ?_ | refine And.intro (by intro hq; (try simp only [Bool.and_eq_true, Bool.or_eq_true, Bool.and_eq_false_iff, Bool.or_eq_false_iff, decide_eq_true_eq, decide_eq_false_iff_not, Bool.not_eq_true', Bool.not_eq_false', beq_iff_eq, beq_eq_false_iff_ne, ne_eq] at hq); omega) ?_ | fail)
      refine ⟨i + 1, ⟨by omega, up_all hp hb⟩, by omega, by rfl, ?_⟩
      simp (maxSteps := 400000) (disch := omega) only [push_cast, ↓reduceIte, reduceCtorEq, Nat.reduceAdd, Nat.reduceSub, Nat.reduceEqDiff, Nat.reduceLeDiff, Nat.reduceLT, Nat.reduceBEq, Nat.reduceDiv, Nat.reduceMod, Nat.reducePow, Nat.reduceMul, Int.reduceToNat, Int.reduceLT, Int.reduceLE, S.mk.injEq, List.cons.injEq, Prod.mk.injEq, AV.v.injEq, Value.int.injEq, Value.bool.injEq, Blk.cells.injEq]
  · repeat' (first | refine WK_go ?_ | refine W_seqL ?_ | refine W_seq ?_ | refine W_block ?_ | refine W_scp ?_ | ((first | refine W_regL ?_ | refine W_skip ?_ | refine W_exit ?_); simp (maxSteps := 400000) (disch := omega) only [push_cast, ↓reduceIte, reduceCtorEq, Nat.reduceAdd, Nat.reduceSub, Nat.reduceEqDiff, Nat.reduceLeDiff, Nat.reduceLT, Nat.reduceBEq, Nat.reduceDiv, Nat.reduceMod, Nat.reducePow, Nat.reduceMul, Int.reduceToNat, Int.reduceLT, Int.reduceLE]) | refine And.intro (by omega) ?_ | refine And.intro (by intro hq; (try simp only [Bool.and_eq_true, Bool.or_eq_true, Bool.and_eq_false_iff, Bool.or_eq_false_iff, decide_eq_true_eq, decide_eq_false_iff_not, Bool.not_eq_true', Bool.not_eq_false', beq_iff_eq, beq_eq_false_iff_ne, ne_eq] at hq); omega) ?_ | fail)
    exact W_ret ⟨[_], ⟨rfl, rfl⟩, by rw [idxF_none p 0 l 0 (fun j hj => hp j (by omega))]; rfl⟩
theorem fn70 (l : List Int) (hl : l.length ≤ 1000000) (g : Nat) (fi ca : List AV) (p : Int → Bool) (hg : ∀ x ∈ l, Sy.Fn Try.prog g (fi ++ [iv x] ++ ca) (bv (p x))) : Sy.Fn Try.prog 70 [aI l, .clo g fi ca] (bv (l.any p)) := by
  refine Fn_of_W mixed Xt70 rfl ?_
  repeat' (first | refine WK_go ?_ | refine W_seqL ?_ | refine W_seq ?_ | refine W_block ?_ | refine W_scp ?_ | ((first | refine W_regL ?_ | refine W_skip ?_ | refine W_exit ?_ | refine CallC.now (fn120 l hl g fi ca p hg) ?_); simp (maxSteps := 400000) (disch := omega) only [push_cast, ↓reduceIte, reduceCtorEq, Nat.reduceAdd, Nat.reduceSub, Nat.reduceEqDiff, Nat.reduceLeDiff, Nat.reduceLT, Nat.reduceBEq, Nat.reduceDiv, Nat.reduceMod, Nat.reducePow, Nat.reduceMul, Int.reduceToNat, Int.reduceLT, Int.reduceLE]) | refine And.intro (by omega) ?_ | refine And.intro (by intro hq; (try simp only [Bool.and_eq_true, Bool.or_eq_true, Bool.and_eq_false_iff, Bool.or_eq_false_iff, decide_eq_true_eq, decide_eq_false_iff_not, Bool.not_eq_true', Bool.not_eq_false', beq_iff_eq, beq_eq_false_iff_ne, ne_eq] at hq); omega) ?_ | fail)
  exact W_ret ⟨[_], ⟨rfl, rfl⟩, by rw [← idxF_any p l 0 (by omega)]; rfl⟩
theorem fn138 (l : List Int) (x : Int) (hl : l.length ≤ 1000000) : Sy.Fn Try.prog 138 [aI l, iv x] (iv (idxF (fun y => x == y) l 0)) := by
  refine Fn_of_W mixed Xt138 rfl ?_
  repeat' (first | refine WK_go ?_ | refine W_seqL ?_ | refine W_seq ?_ | refine W_block ?_ | refine W_scp ?_ | ((first | refine W_regL ?_ | refine W_skip ?_ | refine W_exit ?_); simp (maxSteps := 400000) (disch := omega) only [push_cast, ↓reduceIte, reduceCtorEq, Nat.reduceAdd, Nat.reduceSub, Nat.reduceEqDiff, Nat.reduceLeDiff, Nat.reduceLT, Nat.reduceBEq, Nat.reduceDiv, Nat.reduceMod, Nat.reducePow, Nat.reduceMul, Int.reduceToNat, Int.reduceLT, Int.reduceLE]) | refine And.intro (by omega) ?_ | refine And.intro (by intro hq; (try simp only [Bool.and_eq_true, Bool.or_eq_true, Bool.and_eq_false_iff, Bool.or_eq_false_iff, decide_eq_true_eq, decide_eq_false_iff_not, Bool.not_eq_true', Bool.not_eq_false', beq_iff_eq, beq_eq_false_iff_ne, ne_eq] at hq); omega) ?_ | fail)
  refine W_loopU (fun i : Nat => [(8, iv i)]) (fun i => []) (fun i => i ≤ l.length ∧ ∀ j, j < i → (x == l.getD j 0) = false) (fun i => l.length - i) 0 ⟨by omega, fun j hj => by omega⟩ (by rfl) (by rfl) (fun i hi => ?_)
  obtain ⟨hi, hp⟩ := hi
  simp (maxSteps := 400000) (disch := omega) only [push_cast, ↓reduceIte, reduceCtorEq, Nat.reduceAdd, Nat.reduceSub, Nat.reduceEqDiff, Nat.reduceLeDiff, Nat.reduceLT, Nat.reduceBEq, Nat.reduceDiv, Nat.reduceMod, Nat.reducePow, Nat.reduceMul, Int.reduceToNat, Int.reduceLT, Int.reduceLE]
  repeat' (first | refine WK_go ?_ | refine W_seqL ?_ | refine W_seq ?_ | refine W_block ?_ | refine W_scp ?_ | ((first | refine W_regL ?_ | refine W_skip ?_ | refine W_exit ?_); simp (maxSteps := 400000) (disch := omega) only [push_cast, ↓reduceIte, reduceCtorEq, Nat.reduceAdd, Nat.reduceSub, Nat.reduceEqDiff, Nat.reduceLeDiff, Nat.reduceLT, Nat.reduceBEq, Nat.reduceDiv, Nat.reduceMod, Nat.reducePow, Nat.reduceMul, Int.reduceToNat, Int.reduceLT, Int.reduceLE]) | refine And.intro (by omega) ?_ | refine And.intro (by intro hq; (try simp only [Bool.and_eq_true, Bool.or_eq_true, Bool.and_eq_false_iff, Bool.or_eq_false_iff, decide_eq_true_eq, decide_eq_false_iff_not, Bool.not_eq_true', Bool.not_eq_false', beq_iff_eq, beq_eq_false_iff_ne, ne_eq] at hq); omega) ?_ | fail)
  refine W_condD (by rfl) (fun h => ?_) (fun h => ?_)
  · have hlt : i < l.length := by omega
    repeat' (first | refine WK_go ?_ | refine W_seqL ?_ | refine W_seq ?_ | refine W_block ?_ | refine W_scp ?_ | ((first | refine W_regL ?_ | refine W_skip ?_ | refine W_exit ?_); simp (maxSteps := 400000) (disch := omega) only [push_cast, ↓reduceIte, reduceCtorEq, Nat.reduceAdd, Nat.reduceSub, Nat.reduceEqDiff, Nat.reduceLeDiff, Nat.reduceLT, Nat.reduceBEq, Nat.reduceDiv, Nat.reduceMod, Nat.reducePow, Nat.reduceMul, Int.reduceToNat, Int.reduceLT, Int.reduceLE]) | refine And.intro (by omega) ?_ | refine And.intro (by intro hq; (try simp only [Bool.and_eq_true, Bool.or_eq_true, Bool.and_eq_false_iff, Bool.or_eq_false_iff, decide_eq_true_eq, decide_eq_false_iff_not, Bool.not_eq_true', Bool.not_eq_false', beq_iff_eq, beq_eq_false_iff_ne, ne_eq] at hq); omega) ?_ | fail)
    refine W_cond (by rfl) (fun hb => ?_) (fun hb => ?_)
    · repeat' (first | refine WK_go ?_ | refine W_seqL ?_ | refine W_seq ?_ | refine W_block ?_ | refine W_scp ?_ | ((first | refine W_regL ?_ | refine W_skip ?_ | refine W_exit ?_); simp (maxSteps := 400000) (disch := omega) only [push_cast, ↓reduceIte, reduceCtorEq, Nat.reduceAdd, Nat.reduceSub, Nat.reduceEqDiff, Nat.reduceLeDiff, Nat.reduceLT, Nat.reduceBEq, Nat.reduceDiv, Nat.reduceMod, Nat.reducePow, Nat.reduceMul, Int.reduceToNat, Int.reduceLT, Int.reduceLE]) | refine And.intro (by omega) ?_ | refine And.intro (by intro hq; (try simp only [Bool.and_eq_true, Bool.or_eq_true, Bool.and_eq_false_iff, Bool.or_eq_false_iff, decide_eq_true_eq, decide_eq_false_iff_not, Bool.not_eq_true', Bool.not_eq_false', beq_iff_eq, beq_eq_false_iff_ne, ne_eq] at hq); omega) ?_ | fail)
      exact W_ret ⟨[_], ⟨rfl, rfl⟩, by rw [idxF_at (fun y => x == y) 0 l i 0 hlt hp hb, Int.zero_add]; rfl⟩
    · repeat' (first | refine WK_go ?_ | refine W_seqL ?_ | refine W_seq ?_ | refine W_block ?_ | refine W_scp ?_ | ((first | refine W_regL ?_ | refine W_skip ?_ | refine W_exit ?_); simp (maxSteps := 400000) (disch := omega) only [push_cast, ↓reduceIte, reduceCtorEq, Nat.reduceAdd, Nat.reduceSub, Nat.reduceEqDiff, Nat.reduceLeDiff, Nat.reduceLT, Nat.reduceBEq, Nat.reduceDiv, Nat.reduceMod, Nat.reducePow, Nat.reduceMul, Int.reduceToNat, Int.reduceLT, Int.reduceLE]) | refine And.intro (by omega) ?_ | refine And.intro (by intro hq; (try simp only [Bool.and_eq_true, Bool.or_eq_true, Bool.and_eq_false_iff, Bool.or_eq_false_iff, decide_eq_true_eq, decide_eq_false_iff_not, Bool.not_eq_true', Bool.not_eq_false', beq_iff_eq, beq_eq_false_iff_ne, ne_eq] at hq); omega) ?_ | fail)
      refine ⟨i + 1, ⟨by omega, up_all hp hb⟩, by omega, by rfl, ?_⟩
      simp (maxSteps := 400000) (disch := omega) only [push_cast, ↓reduceIte, reduceCtorEq, Nat.reduceAdd, Nat.reduceSub, Nat.reduceEqDiff, Nat.reduceLeDiff, Nat.reduceLT, Nat.reduceBEq, Nat.reduceDiv, Nat.reduceMod, Nat.reducePow, Nat.reduceMul, Int.reduceToNat, Int.reduceLT, Int.reduceLE, S.mk.injEq, List.cons.injEq, Prod.mk.injEq, AV.v.injEq, Value.int.injEq, Value.bool.injEq, Blk.cells.injEq]
  · repeat' (first | refine WK_go ?_ | refine W_seqL ?_ | refine W_seq ?_ | refine W_block ?_ | refine W_scp ?_ | ((first | refine W_regL ?_ | refine W_skip ?_ | refine W_exit ?_); simp (maxSteps := 400000) (disch := omega) only [push_cast, ↓reduceIte, reduceCtorEq, Nat.reduceAdd, Nat.reduceSub, Nat.reduceEqDiff, Nat.reduceLeDiff, Nat.reduceLT, Nat.reduceBEq, Nat.reduceDiv, Nat.reduceMod, Nat.reducePow, Nat.reduceMul, Int.reduceToNat, Int.reduceLT, Int.reduceLE]) | refine And.intro (by omega) ?_ | refine And.intro (by intro hq; (try simp only [Bool.and_eq_true, Bool.or_eq_true, Bool.and_eq_false_iff, Bool.or_eq_false_iff, decide_eq_true_eq, decide_eq_false_iff_not, Bool.not_eq_true', Bool.not_eq_false', beq_iff_eq, beq_eq_false_iff_ne, ne_eq] at hq); omega) ?_ | fail)
    exact W_ret ⟨[_], ⟨rfl, rfl⟩, by rw [idxF_none (fun y => x == y) 0 l 0 (fun j hj => hp j (by omega))]; rfl⟩
theorem fn129 (l : List Int) (x : Int) (hl : l.length ≤ 1000000) : Sy.Fn Try.prog 129 [aI l, iv x] (bv (decide (x ∈ l))) := by
  refine Fn_of_W mixed Xt129 rfl ?_
  repeat' (first | refine WK_go ?_ | refine W_seqL ?_ | refine W_seq ?_ | refine W_block ?_ | refine W_scp ?_ | ((first | refine W_regL ?_ | refine W_skip ?_ | refine W_exit ?_ | refine CallC.now (fn138 l x hl) ?_); simp (maxSteps := 400000) (disch := omega) only [push_cast, ↓reduceIte, reduceCtorEq, Nat.reduceAdd, Nat.reduceSub, Nat.reduceEqDiff, Nat.reduceLeDiff, Nat.reduceLT, Nat.reduceBEq, Nat.reduceDiv, Nat.reduceMod, Nat.reducePow, Nat.reduceMul, Int.reduceToNat, Int.reduceLT, Int.reduceLE]) | refine And.intro (by omega) ?_ | refine And.intro (by intro hq; (try simp only [Bool.and_eq_true, Bool.or_eq_true, Bool.and_eq_false_iff, Bool.or_eq_false_iff, decide_eq_true_eq, decide_eq_false_iff_not, Bool.not_eq_true', Bool.not_eq_false', beq_iff_eq, beq_eq_false_iff_ne, ne_eq] at hq); omega) ?_ | fail)
  refine W_ret ⟨[_], ⟨rfl, rfl⟩, ?_⟩
  have e : decide (0 ≤ idxF (fun y => x == y) l 0) = decide (x ∈ l) := by
    rw [idxF_any _ l 0 (by omega), ← List.contains_eq_any_beq]
    rw [Bool.eq_iff_iff, List.contains_iff_mem, decide_eq_true_eq]
  rw [← e]; rfl
theorem fn107 (l : List Int) (x : Int) (hl : l.length ≤ 140737488355328) : Sy.Fn Try.prog 107 [aI l, iv x] (bv (decide (x ∈ l))) := by
  refine Fn_of_W mixed Xt107 rfl ?_
  repeat' (first | refine WK_go ?_ | refine W_seqL ?_ | refine W_seq ?_ | refine W_block ?_ | refine W_scp ?_ | ((first | refine W_regL ?_ | refine W_skip ?_ | refine W_exit ?_); simp (maxSteps := 400000) (disch := omega) only [push_cast, ↓reduceIte, reduceCtorEq, Nat.reduceAdd, Nat.reduceSub, Nat.reduceEqDiff, Nat.reduceLeDiff, Nat.reduceLT, Nat.reduceBEq, Nat.reduceDiv, Nat.reduceMod, Nat.reducePow, Nat.reduceMul, Int.reduceToNat, Int.reduceLT, Int.reduceLE]) | refine And.intro (by omega) ?_ | refine And.intro (by intro hq; (try simp only [Bool.and_eq_true, Bool.or_eq_true, Bool.and_eq_false_iff, Bool.or_eq_false_iff, decide_eq_true_eq, decide_eq_false_iff_not, Bool.not_eq_true', Bool.not_eq_false', beq_iff_eq, beq_eq_false_iff_ne, ne_eq] at hq); omega) ?_ | fail)
  refine W_loopU (fun i : Nat => [(5, iv i)]) (fun i => []) (fun i => i ≤ l.length ∧ ∀ j, j < i → gi l j ≠ x) (fun i => l.length - i) 0 ⟨by omega, fun j hj => by omega⟩ (by rfl) (by rfl) (fun i hi => ?_)
  obtain ⟨hi, hp⟩ := hi
  simp (maxSteps := 400000) (disch := omega) only [push_cast, ↓reduceIte, reduceCtorEq, Nat.reduceAdd, Nat.reduceSub, Nat.reduceEqDiff, Nat.reduceLeDiff, Nat.reduceLT, Nat.reduceBEq, Nat.reduceDiv, Nat.reduceMod, Nat.reducePow, Nat.reduceMul, Int.reduceToNat, Int.reduceLT, Int.reduceLE]
  repeat' (first | refine WK_go ?_ | refine W_seqL ?_ | refine W_seq ?_ | refine W_block ?_ | refine W_scp ?_ | ((first | refine W_regL ?_ | refine W_skip ?_ | refine W_exit ?_); simp (maxSteps := 400000) (disch := omega) only [push_cast, ↓reduceIte, reduceCtorEq, Nat.reduceAdd, Nat.reduceSub, Nat.reduceEqDiff, Nat.reduceLeDiff, Nat.reduceLT, Nat.reduceBEq, Nat.reduceDiv, Nat.reduceMod, Nat.reducePow, Nat.reduceMul, Int.reduceToNat, Int.reduceLT, Int.reduceLE]) | refine And.intro (by omega) ?_ | refine And.intro (by intro hq; (try simp only [Bool.and_eq_true, Bool.or_eq_true, Bool.and_eq_false_iff, Bool.or_eq_false_iff, decide_eq_true_eq, decide_eq_false_iff_not, Bool.not_eq_true', Bool.not_eq_false', beq_iff_eq, beq_eq_false_iff_ne, ne_eq] at hq); omega) ?_ | fail)
  refine W_condD (by rfl) (fun h => ?_) (fun h => ?_)
  · have hlt : i < l.length := by omega
    repeat' (first | refine WK_go ?_ | refine W_seqL ?_ | refine W_seq ?_ | refine W_block ?_ | refine W_scp ?_ | ((first | refine W_regL ?_ | refine W_skip ?_ | refine W_exit ?_); simp (maxSteps := 400000) (disch := omega) only [push_cast, ↓reduceIte, reduceCtorEq, Nat.reduceAdd, Nat.reduceSub, Nat.reduceEqDiff, Nat.reduceLeDiff, Nat.reduceLT, Nat.reduceBEq, Nat.reduceDiv, Nat.reduceMod, Nat.reducePow, Nat.reduceMul, Int.reduceToNat, Int.reduceLT, Int.reduceLE]) | refine And.intro (by omega) ?_ | refine And.intro (by intro hq; (try simp only [Bool.and_eq_true, Bool.or_eq_true, Bool.and_eq_false_iff, Bool.or_eq_false_iff, decide_eq_true_eq, decide_eq_false_iff_not, Bool.not_eq_true', Bool.not_eq_false', beq_iff_eq, beq_eq_false_iff_ne, ne_eq] at hq); omega) ?_ | fail)
    refine W_cond (by rfl) (fun hb => ?_) (fun hb => ?_)
    · have e : x ∈ l := by
        rw [beq_iff_eq] at hb
        rw [← hb]; exact getD_mem 0 l i hlt
      rw [decide_eq_true e]
      repeat' (first | refine WK_go ?_ | refine W_seqL ?_ | refine W_seq ?_ | refine W_block ?_ | refine W_scp ?_ | ((first | refine W_regL ?_ | refine W_skip ?_ | refine W_exit ?_); simp (maxSteps := 400000) (disch := omega) only [push_cast, ↓reduceIte, reduceCtorEq, Nat.reduceAdd, Nat.reduceSub, Nat.reduceEqDiff, Nat.reduceLeDiff, Nat.reduceLT, Nat.reduceBEq, Nat.reduceDiv, Nat.reduceMod, Nat.reducePow, Nat.reduceMul, Int.reduceToNat, Int.reduceLT, Int.reduceLE]) | refine And.intro (by omega) ?_ | refine And.intro (by intro hq; (try simp only [Bool.and_eq_true, Bool.or_eq_true, Bool.and_eq_false_iff, Bool.or_eq_false_iff, decide_eq_true_eq, decide_eq_false_iff_not, Bool.not_eq_true', Bool.not_eq_false', beq_iff_eq, beq_eq_false_iff_ne, ne_eq] at hq); omega) ?_ | fail)
      exact W_ret ⟨[_], ⟨rfl, rfl⟩, rfl⟩
    · repeat' (first | refine WK_go ?_ | refine W_seqL ?_ | refine W_seq ?_ | refine W_block ?_ | refine W_scp ?_ | ((first | refine W_regL ?_ | refine W_skip ?_ | refine W_exit ?_); simp (maxSteps := 400000) (disch := omega) only [push_cast, ↓reduceIte, reduceCtorEq, Nat.reduceAdd, Nat.reduceSub, Nat.reduceEqDiff, Nat.reduceLeDiff, Nat.reduceLT, Nat.reduceBEq, Nat.reduceDiv, Nat.reduceMod, Nat.reducePow, Nat.reduceMul, Int.reduceToNat, Int.reduceLT, Int.reduceLE]) | refine And.intro (by omega) ?_ | refine And.intro (by intro hq; (try simp only [Bool.and_eq_true, Bool.or_eq_true, Bool.and_eq_false_iff, Bool.or_eq_false_iff, decide_eq_true_eq, decide_eq_false_iff_not, Bool.not_eq_true', Bool.not_eq_false', beq_iff_eq, beq_eq_false_iff_ne, ne_eq] at hq); omega) ?_ | fail)
      refine ⟨i + 1, ⟨by omega, up_all hp (by simpa using hb)⟩, by omega, by rfl, ?_⟩
      simp (maxSteps := 400000) (disch := omega) only [push_cast, ↓reduceIte, reduceCtorEq, Nat.reduceAdd, Nat.reduceSub, Nat.reduceEqDiff, Nat.reduceLeDiff, Nat.reduceLT, Nat.reduceBEq, Nat.reduceDiv, Nat.reduceMod, Nat.reducePow, Nat.reduceMul, Int.reduceToNat, Int.reduceLT, Int.reduceLE, S.mk.injEq, List.cons.injEq, Prod.mk.injEq, AV.v.injEq, Value.int.injEq, Value.bool.injEq, Blk.cells.injEq]
  · have e : x ∉ l := fun q => by
      obtain ⟨j, hj⟩ := List.mem_iff_getElem?.1 q
      have h1 := (List.getElem?_eq_some_iff.1 hj).1
      exact hp j (by omega) (by simp [gi, List.getD, hj])
    rw [decide_eq_false e]
    repeat' (first | refine WK_go ?_ | refine W_seqL ?_ | refine W_seq ?_ | refine W_block ?_ | refine W_scp ?_ | ((first | refine W_regL ?_ | refine W_skip ?_ | refine W_exit ?_); simp (maxSteps := 400000) (disch := omega) only [push_cast, ↓reduceIte, reduceCtorEq, Nat.reduceAdd, Nat.reduceSub, Nat.reduceEqDiff, Nat.reduceLeDiff, Nat.reduceLT, Nat.reduceBEq, Nat.reduceDiv, Nat.reduceMod, Nat.reducePow, Nat.reduceMul, Int.reduceToNat, Int.reduceLT, Int.reduceLE]) | refine And.intro (by omega) ?_ | refine And.intro (by intro hq; (try simp only [Bool.and_eq_true, Bool.or_eq_true, Bool.and_eq_false_iff, Bool.or_eq_false_iff, decide_eq_true_eq, decide_eq_false_iff_not, Bool.not_eq_true', Bool.not_eq_false', beq_iff_eq, beq_eq_false_iff_ne, ne_eq] at hq); omega) ?_ | fail)
    exact W_ret ⟨[_], ⟨rfl, rfl⟩, rfl⟩
end Go.Proofs.Ytfbdlmenhoagmaa

namespace Go.Proofs.Ytfbdlmenhoagmaa
open Go Sy
set_option maxRecDepth 100000
set_option maxHeartbeats 4000000
set_option linter.unusedVariables false
set_option linter.unusedSimpArgs false
theorem fn89 (x : Int) : Sy.Fn Try.prog 89 [iv x] (bv (!inR x 0 1073741824)) := by
  refine Fn_of_W mixed Xt89 rfl ?_
  repeat' (first | refine WK_go ?_ | refine W_seqL ?_ | refine W_seq ?_ | refine W_block ?_ | refine W_scp ?_ | ((first | refine W_regL ?_ | refine W_skip ?_ | refine W_exit ?_ | refine CallC.now (fn85 _ _ _) ?_); simp (maxSteps := 400000) (disch := omega) only [push_cast, ↓reduceIte, reduceCtorEq, Nat.reduceAdd, Nat.reduceSub, Nat.reduceEqDiff, Nat.reduceLeDiff, Nat.reduceLT, Nat.reduceBEq, Nat.reduceDiv, Nat.reduceMod, Nat.reducePow, Nat.reduceMul, Int.reduceToNat, Int.reduceLT, Int.reduceLE]) | refine And.intro (by omega) ?_ | refine And.intro (by intro hq; (try simp only [Bool.and_eq_true, Bool.or_eq_true, Bool.and_eq_false_iff, Bool.or_eq_false_iff, decide_eq_true_eq, decide_eq_false_iff_not, Bool.not_eq_true', Bool.not_eq_false', beq_iff_eq, beq_eq_false_iff_ne, ne_eq] at hq); omega) ?_ | fail)
  exact W_ret ⟨[_], ⟨rfl, rfl⟩, rfl⟩
def li6 (f : Nat → Int) : List Int := [f 0, f 1, f 2, f 3, f 4, f 5]
theorem any6 (f : Nat → Int) : (List.any (li6 f) fun x => !inR x 0 1073741824) = !szB f := by
  unfold szB li6
  simp [List.range_succ, List.any_cons, List.all_append]
def szE (f : Nat → Int) : Int := if szB f = true then 0 else 2
theorem fn28 (f : Nat → Int) : Sy.Fn Try.prog 28 [.agg (c6 f)] (iv (szE f)) := by
  refine Fn_of_W mixed Xt28 rfl ?_
  have c88 := fn88 (li6 f) (Nat.le_of_ble_eq_true rfl) 89 [] [] (fun x => !inR x 0 1073741824) (fun x _ => fn89 x)
  rw [any6] at c88
  repeat' (first | refine WK_go ?_ | refine W_seqL ?_ | refine W_seq ?_ | refine W_block ?_ | refine W_scp ?_ | ((first | refine W_regL ?_ | refine W_skip ?_ | refine W_exit ?_); simp (maxSteps := 400000) (disch := omega) only [push_cast, ↓reduceIte, reduceCtorEq, Nat.reduceAdd, Nat.reduceSub, Nat.reduceEqDiff, Nat.reduceLeDiff, Nat.reduceLT, Nat.reduceBEq, Nat.reduceDiv, Nat.reduceMod, Nat.reducePow, Nat.reduceMul, Int.reduceToNat, Int.reduceLT, Int.reduceLE]) | refine And.intro (by omega) ?_ | refine And.intro (by intro hq; (try simp only [Bool.and_eq_true, Bool.or_eq_true, Bool.and_eq_false_iff, Bool.or_eq_false_iff, decide_eq_true_eq, decide_eq_false_iff_not, Bool.not_eq_true', Bool.not_eq_false', beq_iff_eq, beq_eq_false_iff_ne, ne_eq] at hq); omega) ?_ | fail)
  refine ⟨Int, 0, cI, li6 f, fun _ => ⟨trivial, rfl, by omega, fun x _ => rfl, rfl⟩, ?_⟩
  simp (maxSteps := 400000) (disch := omega) only [push_cast, ↓reduceIte, reduceCtorEq, Nat.reduceAdd, Nat.reduceSub, Nat.reduceEqDiff, Nat.reduceLeDiff, Nat.reduceLT, Nat.reduceBEq, Nat.reduceDiv, Nat.reduceMod, Nat.reducePow, Nat.reduceMul, Int.reduceToNat, Int.reduceLT, Int.reduceLE]
  repeat' (first | refine WK_go ?_ | refine W_seqL ?_ | refine W_seq ?_ | refine W_block ?_ | refine W_scp ?_ | ((first | refine W_regL ?_ | refine W_skip ?_ | refine W_exit ?_ | refine CallC.now (c88) ?_); simp (maxSteps := 400000) (disch := omega) only [push_cast, ↓reduceIte, reduceCtorEq, Nat.reduceAdd, Nat.reduceSub, Nat.reduceEqDiff, Nat.reduceLeDiff, Nat.reduceLT, Nat.reduceBEq, Nat.reduceDiv, Nat.reduceMod, Nat.reducePow, Nat.reduceMul, Int.reduceToNat, Int.reduceLT, Int.reduceLE]) | refine And.intro (by omega) ?_ | refine And.intro (by intro hq; (try simp only [Bool.and_eq_true, Bool.or_eq_true, Bool.and_eq_false_iff, Bool.or_eq_false_iff, decide_eq_true_eq, decide_eq_false_iff_not, Bool.not_eq_true', Bool.not_eq_false', beq_iff_eq, beq_eq_false_iff_ne, ne_eq] at hq); omega) ?_ | fail)
  unfold szE
  cases szB f
  · refine W_cond (by rfl) (fun _ => ?_) (fun h => by cases h)
    repeat' (first | refine WK_go ?_ | refine W_seqL ?_ | refine W_seq ?_ | refine W_block ?_ | refine W_scp ?_ | ((first | refine W_regL ?_ | refine W_skip ?_ | refine W_exit ?_); simp (maxSteps := 400000) (disch := omega) only [push_cast, ↓reduceIte, reduceCtorEq, Nat.reduceAdd, Nat.reduceSub, Nat.reduceEqDiff, Nat.reduceLeDiff, Nat.reduceLT, Nat.reduceBEq, Nat.reduceDiv, Nat.reduceMod, Nat.reducePow, Nat.reduceMul, Int.reduceToNat, Int.reduceLT, Int.reduceLE]) | refine And.intro (by omega) ?_ | refine And.intro (by intro hq; (try simp only [Bool.and_eq_true, Bool.or_eq_true, Bool.and_eq_false_iff, Bool.or_eq_false_iff, decide_eq_true_eq, decide_eq_false_iff_not, Bool.not_eq_true', Bool.not_eq_false', beq_iff_eq, beq_eq_false_iff_ne, ne_eq] at hq); omega) ?_ | fail)
    exact W_ret ⟨[_], ⟨rfl, rfl⟩, rfl⟩
  · refine W_cond (by rfl) (fun h => by cases h) (fun _ => ?_)
    repeat' (first | refine WK_go ?_ | refine W_seqL ?_ | refine W_seq ?_ | refine W_block ?_ | refine W_scp ?_ | ((first | refine W_regL ?_ | refine W_skip ?_ | refine W_exit ?_); simp (maxSteps := 400000) (disch := omega) only [push_cast, ↓reduceIte, reduceCtorEq, Nat.reduceAdd, Nat.reduceSub, Nat.reduceEqDiff, Nat.reduceLeDiff, Nat.reduceLT, Nat.reduceBEq, Nat.reduceDiv, Nat.reduceMod, Nat.reducePow, Nat.reduceMul, Int.reduceToNat, Int.reduceLT, Int.reduceLE]) | refine And.intro (by omega) ?_ | refine And.intro (by intro hq; (try simp only [Bool.and_eq_true, Bool.or_eq_true, Bool.and_eq_false_iff, Bool.or_eq_false_iff, decide_eq_true_eq, decide_eq_false_iff_not, Bool.not_eq_true', Bool.not_eq_false', beq_iff_eq, beq_eq_false_iff_ne, ne_eq] at hq); omega) ?_ | fail)
    exact W_ret ⟨[_], ⟨rfl, rfl⟩, rfl⟩
theorem fn29 (f : Nat → Int) : Sy.Fn Try.prog 29 [.agg (c6 f)] (iv (szE f)) := by
  refine Fn_of_W mixed Xt29 rfl ?_
  repeat' (first | refine WK_go ?_ | refine W_seqL ?_ | refine W_seq ?_ | refine W_block ?_ | refine W_scp ?_ | ((first | refine W_regL ?_ | refine W_skip ?_ | refine W_exit ?_); simp (maxSteps := 400000) (disch := omega) only [push_cast, ↓reduceIte, reduceCtorEq, Nat.reduceAdd, Nat.reduceSub, Nat.reduceEqDiff, Nat.reduceLeDiff, Nat.reduceLT, Nat.reduceBEq, Nat.reduceDiv, Nat.reduceMod, Nat.reducePow, Nat.reduceMul, Int.reduceToNat, Int.reduceLT, Int.reduceLE]) | refine And.intro (by omega) ?_ | refine And.intro (by intro hq; (try simp only [Bool.and_eq_true, Bool.or_eq_true, Bool.and_eq_false_iff, Bool.or_eq_false_iff, decide_eq_true_eq, decide_eq_false_iff_not, Bool.not_eq_true', Bool.not_eq_false', beq_iff_eq, beq_eq_false_iff_ne, ne_eq] at hq); omega) ?_ | fail)
  refine W_loopU (fun i : Nat => [(3, iv i)]) (fun i => []) (fun i => i ≤ 6 ∧ ∀ j, j < i → inR (f j) 0 1073741824 = true) (fun i => 6 - i) 0 ⟨by omega, fun j hj => by omega⟩ (by rfl) (by rfl) (fun i hi => ?_)
  obtain ⟨hi, hp⟩ := hi
  simp (maxSteps := 400000) (disch := omega) only [push_cast, ↓reduceIte, reduceCtorEq, Nat.reduceAdd, Nat.reduceSub, Nat.reduceEqDiff, Nat.reduceLeDiff, Nat.reduceLT, Nat.reduceBEq, Nat.reduceDiv, Nat.reduceMod, Nat.reducePow, Nat.reduceMul, Int.reduceToNat, Int.reduceLT, Int.reduceLE]
  repeat' (first | refine WK_go ?_ | refine W_seqL ?_ | refine W_seq ?_ | refine W_block ?_ | refine W_scp ?_ | ((first | refine W_regL ?_ | refine W_skip ?_ | refine W_exit ?_); simp (maxSteps := 400000) (disch := omega) only [push_cast, ↓reduceIte, reduceCtorEq, Nat.reduceAdd, Nat.reduceSub, Nat.reduceEqDiff, Nat.reduceLeDiff, Nat.reduceLT, Nat.reduceBEq, Nat.reduceDiv, Nat.reduceMod, Nat.reducePow, Nat.reduceMul, Int.reduceToNat, Int.reduceLT, Int.reduceLE]) | refine And.intro (by omega) ?_ | refine And.intro (by intro hq; (try simp only [Bool.and_eq_true, Bool.or_eq_true, Bool.and_eq_false_iff, Bool.or_eq_false_iff, decide_eq_true_eq, decide_eq_false_iff_not, Bool.not_eq_true', Bool.not_eq_false', beq_iff_eq, beq_eq_false_iff_ne, ne_eq] at hq); omega) ?_ | fail)
  refine W_condD (by rfl) (fun h => ?_) (fun h => ?_)
  · have hlt : i < 6 := by omega
    repeat' (first | refine WK_go ?_ | refine W_seqL ?_ | refine W_seq ?_ | refine W_block ?_ | refine W_scp ?_ | ((first | refine W_regL ?_ | refine W_skip ?_ | refine W_exit ?_ | refine CallC.now (fn66 _ _ _) ?_); simp (maxSteps := 400000) (disch := omega) only [push_cast, ↓reduceIte, reduceCtorEq, Nat.reduceAdd, Nat.reduceSub, Nat.reduceEqDiff, Nat.reduceLeDiff, Nat.reduceLT, Nat.reduceBEq, Nat.reduceDiv, Nat.reduceMod, Nat.reducePow, Nat.reduceMul, Int.reduceToNat, Int.reduceLT, Int.reduceLE, Nat.mul_one, Nat.zero_add]) | refine And.intro (by omega) ?_ | refine And.intro (by intro hq; (try simp only [Bool.and_eq_true, Bool.or_eq_true, Bool.and_eq_false_iff, Bool.or_eq_false_iff, decide_eq_true_eq, decide_eq_false_iff_not, Bool.not_eq_true', Bool.not_eq_false', beq_iff_eq, beq_eq_false_iff_ne, ne_eq] at hq); omega) ?_ | fail)
    refine W_cond (by rfl) (fun hb => ?_) (fun hb => ?_)
    · have e : szE f = 2 := by
        unfold szE szB
        rw [if_neg]
        intro q
        rw [List.all_eq_true] at q
        have := q i (List.mem_range.2 hlt)
        rw [this] at hb; cases hb
      rw [e]
      repeat' (first | refine WK_go ?_ | refine W_seqL ?_ | refine W_seq ?_ | refine W_block ?_ | refine W_scp ?_ | ((first | refine W_regL ?_ | refine W_skip ?_ | refine W_exit ?_); simp (maxSteps := 400000) (disch := omega) only [push_cast, ↓reduceIte, reduceCtorEq, Nat.reduceAdd, Nat.reduceSub, Nat.reduceEqDiff, Nat.reduceLeDiff, Nat.reduceLT, Nat.reduceBEq, Nat.reduceDiv, Nat.reduceMod, Nat.reducePow, Nat.reduceMul, Int.reduceToNat, Int.reduceLT, Int.reduceLE]) | refine And.intro (by omega) ?_ | refine And.intro (by intro hq; (try simp only [Bool.and_eq_true, Bool.or_eq_true, Bool.and_eq_false_iff, Bool.or_eq_false_iff, decide_eq_true_eq, decide_eq_false_iff_not, Bool.not_eq_true', Bool.not_eq_false', beq_iff_eq, beq_eq_false_iff_ne, ne_eq] at hq); omega) ?_ | fail)
      exact W_ret ⟨[_], ⟨rfl, rfl⟩, rfl⟩
    · repeat' (first | refine WK_go ?_ | refine W_seqL ?_ | refine W_seq ?_ | refine W_block ?_ | refine W_scp ?_ | ((first | refine W_regL ?_ | refine W_skip ?_ | refine W_exit ?_); simp (maxSteps := 400000) (disch := omega) only [push_cast, ↓reduceIte, reduceCtorEq, Nat.reduceAdd, Nat.reduceSub, Nat.reduceEqDiff, Nat.reduceLeDiff, Nat.reduceLT, Nat.reduceBEq, Nat.reduceDiv, Nat.reduceMod, Nat.reducePow, Nat.reduceMul, Int.reduceToNat, Int.reduceLT, Int.reduceLE]) | refine And.intro (by omega) ?_ | refine And.intro (by intro hq; (try simp only [Bool.and_eq_true, Bool.or_eq_true, Bool.and_eq_false_iff, Bool.or_eq_false_iff, decide_eq_true_eq, decide_eq_false_iff_not, Bool.not_eq_true', Bool.not_eq_false', beq_iff_eq, beq_eq_false_iff_ne, ne_eq] at hq); omega) ?_ | fail)
      refine ⟨i + 1, ⟨by omega, up_all hp (by simpa using hb)⟩, by omega, by rfl, ?_⟩
      simp (maxSteps := 400000) (disch := omega) only [push_cast, ↓reduceIte, reduceCtorEq, Nat.reduceAdd, Nat.reduceSub, Nat.reduceEqDiff, Nat.reduceLeDiff, Nat.reduceLT, Nat.reduceBEq, Nat.reduceDiv, Nat.reduceMod, Nat.reducePow, Nat.reduceMul, Int.reduceToNat, Int.reduceLT, Int.reduceLE, S.mk.injEq, List.cons.injEq, Prod.mk.injEq, AV.v.injEq, Value.int.injEq, Value.bool.injEq, Blk.cells.injEq]
  · have e : szE f = 0 := by
      unfold szE szB
      rw [if_pos]
      rw [List.all_eq_true]
      intro k hk
      have := List.mem_range.1 hk
      exact hp k (by omega)
    rw [e]
    repeat' (first | refine WK_go ?_ | refine W_seqL ?_ | refine W_seq ?_ | refine W_block ?_ | refine W_scp ?_ | ((first | refine W_regL ?_ | refine W_skip ?_ | refine W_exit ?_); simp (maxSteps := 400000) (disch := omega) only [push_cast, ↓reduceIte, reduceCtorEq, Nat.reduceAdd, Nat.reduceSub, Nat.reduceEqDiff, Nat.reduceLeDiff, Nat.reduceLT, Nat.reduceBEq, Nat.reduceDiv, Nat.reduceMod, Nat.reducePow, Nat.reduceMul, Int.reduceToNat, Int.reduceLT, Int.reduceLE]) | refine And.intro (by omega) ?_ | refine And.intro (by intro hq; (try simp only [Bool.and_eq_true, Bool.or_eq_true, Bool.and_eq_false_iff, Bool.or_eq_false_iff, decide_eq_true_eq, decide_eq_false_iff_not, Bool.not_eq_true', Bool.not_eq_false', beq_iff_eq, beq_eq_false_iff_ne, ne_eq] at hq); omega) ?_ | fail)
    exact W_ret ⟨[_], ⟨rfl, rfl⟩, rfl⟩
structure Gm (m : Mp) : Prop where
  r : m.rs.length ≤ 300
  w : m.ws.length ≤ 20
  s : ∀ w ∈ m.ws, w.rs.length ≤ 40
theorem fn82 (w : Wrk) : Sy.Fn Try.prog 82 [.agg (cW w)] (bv (decide (16 < w.rs.length))) := by
  refine Fn_of_W mixed Xt82 rfl ?_
  have e : decide ((16 : Int) < (w.rs.length : Int)) = decide (16 < w.rs.length) := by
    rw [Bool.eq_iff_iff, decide_eq_true_eq, decide_eq_true_eq]; omega
  rw [← e]
  repeat' (first | refine WK_go ?_ | refine W_seqL ?_ | refine W_seq ?_ | refine W_block ?_ | refine W_scp ?_ | ((first | refine W_regL ?_ | refine W_skip ?_ | refine W_exit ?_); simp (maxSteps := 400000) (disch := omega) only [push_cast, ↓reduceIte, reduceCtorEq, Nat.reduceAdd, Nat.reduceSub, Nat.reduceEqDiff, Nat.reduceLeDiff, Nat.reduceLT, Nat.reduceBEq, Nat.reduceDiv, Nat.reduceMod, Nat.reducePow, Nat.reduceMul, Int.reduceToNat, Int.reduceLT, Int.reduceLE]) | refine And.intro (by omega) ?_ | refine And.intro (by intro hq; (try simp only [Bool.and_eq_true, Bool.or_eq_true, Bool.and_eq_false_iff, Bool.or_eq_false_iff, decide_eq_true_eq, decide_eq_false_iff_not, Bool.not_eq_true', Bool.not_eq_false', beq_iff_eq, beq_eq_false_iff_ne, ne_eq] at hq); omega) ?_ | fail)
  exact W_ret ⟨[_], ⟨rfl, rfl⟩, rfl⟩
theorem fn83 (m : Mp) (x : Int) : Sy.Fn Try.prog 83 [iv x, .fp (cM m) 0] (bv (plB m.n x)) := by
  refine Fn_of_W mixed Xt83 rfl ?_
  repeat' (first | refine WK_go ?_ | refine W_seqL ?_ | refine W_seq ?_ | refine W_block ?_ | refine W_scp ?_ | ((first | refine W_regL ?_ | refine W_skip ?_ | refine W_exit ?_); simp (maxSteps := 400000) (disch := omega) only [push_cast, ↓reduceIte, reduceCtorEq, Nat.reduceAdd, Nat.reduceSub, Nat.reduceEqDiff, Nat.reduceLeDiff, Nat.reduceLT, Nat.reduceBEq, Nat.reduceDiv, Nat.reduceMod, Nat.reducePow, Nat.reduceMul, Int.reduceToNat, Int.reduceLT, Int.reduceLE]) | refine And.intro (by omega) ?_ | refine And.intro (by intro hq; (try simp only [Bool.and_eq_true, Bool.or_eq_true, Bool.and_eq_false_iff, Bool.or_eq_false_iff, decide_eq_true_eq, decide_eq_false_iff_not, Bool.not_eq_true', Bool.not_eq_false', beq_iff_eq, beq_eq_false_iff_ne, ne_eq] at hq); omega) ?_ | fail)
  exact W_ret ⟨[_], ⟨rfl, rfl⟩, rfl⟩
theorem hrs_wrap (r : Rd) : (decide (0 ≤ r.o) && decide (r.o < r.z) && decide (r.z ≤ 1440) && inR r.m 1 (min 1440 (IntKind.i64.wrap (r.z - r.o)))) = hrsB r := by
  unfold hrsB
  by_cases h : 0 ≤ r.o ∧ r.o < r.z ∧ r.z ≤ 1440
  · rw [wrap64 (by omega)]
  · have e : (decide (0 ≤ r.o) && decide (r.o < r.z) && decide (r.z ≤ 1440)) = false := by
      rw [← Bool.not_eq_true]
      simp only [Bool.and_eq_true, decide_eq_true_eq]
      omega
    rw [e]; rfl
theorem fn84 (m : Mp) (r : Rd) : Sy.Fn Try.prog 84 [.agg (cR r), .fp [.clo 83 [] [.fp (cM m) 0]] 0] (bv (!roadB m.n r)) := by
  refine Fn_of_W mixed Xt84 rfl ?_
  repeat' (first | refine WK_go ?_ | refine W_seqL ?_ | refine W_seq ?_ | refine W_block ?_ | refine W_scp ?_ | ((first | refine W_regL ?_ | refine W_skip ?_ | refine W_exit ?_ | refine CallC.now (fn85 _ _ _) ?_ | refine CallC.go _ (fun _ => ⟨trivial, fn85 _ _ _⟩) rfl ?_); simp (maxSteps := 400000) (disch := omega) only [push_cast, ↓reduceIte, reduceCtorEq, Nat.reduceAdd, Nat.reduceSub, Nat.reduceEqDiff, Nat.reduceLeDiff, Nat.reduceLT, Nat.reduceBEq, Nat.reduceDiv, Nat.reduceMod, Nat.reducePow, Nat.reduceMul, Int.reduceToNat, Int.reduceLT, Int.reduceLE]) | refine And.intro (by omega) ?_ | refine And.intro (by intro hq; (try simp only [Bool.and_eq_true, Bool.or_eq_true, Bool.and_eq_false_iff, Bool.or_eq_false_iff, decide_eq_true_eq, decide_eq_false_iff_not, Bool.not_eq_true', Bool.not_eq_false', beq_iff_eq, beq_eq_false_iff_ne, ne_eq] at hq); omega) ?_ | fail)
  rw [hrs_wrap]
  repeat' (first | refine WK_go ?_ | refine W_seqL ?_ | refine W_seq ?_ | refine W_block ?_ | refine W_scp ?_ | ((first | refine W_regL ?_ | refine W_skip ?_ | refine W_exit ?_ | refine CallC.now (fn83 _ _) ?_ | refine CallC.go _ (fun _ => ⟨trivial, fn83 _ _⟩) rfl ?_ | refine CallC.go _ (fun _ => ⟨trivial, fn85 _ _ _⟩) rfl ?_ | refine CallC.go _ (fun _ => ⟨trivial, fn28 _⟩) rfl ?_); simp (maxSteps := 400000) (disch := omega) only [push_cast, ↓reduceIte, reduceCtorEq, Nat.reduceAdd, Nat.reduceSub, Nat.reduceEqDiff, Nat.reduceLeDiff, Nat.reduceLT, Nat.reduceBEq, Nat.reduceDiv, Nat.reduceMod, Nat.reducePow, Nat.reduceMul, Int.reduceToNat, Int.reduceLT, Int.reduceLE]) | refine And.intro (by omega) ?_ | refine And.intro (by intro hq; (try simp only [Bool.and_eq_true, Bool.or_eq_true, Bool.and_eq_false_iff, Bool.or_eq_false_iff, decide_eq_true_eq, decide_eq_false_iff_not, Bool.not_eq_true', Bool.not_eq_false', beq_iff_eq, beq_eq_false_iff_ne, ne_eq] at hq); omega) ?_ | fail)
  refine W_ret ⟨[_], ⟨rfl, rfl⟩, ?_⟩
  have e : roadB m.n r = (plB m.n r.f && plB m.n r.t && !(r.f == r.t) && inR r.c 1 1073741824 && hrsB r && szB r.lim) := rfl
  rw [e]
  unfold szE
  generalize plB m.n r.f = b1
  generalize plB m.n r.t = b2
  generalize (r.f == r.t) = b3
  generalize inR r.c 1 1073741824 = b4
  generalize hrsB r = b5
  generalize szB r.lim = b6
  cases b1 <;> cases b2 <;> cases b3 <;> cases b4 <;> cases b5 <;> cases b6 <;> rfl
theorem workB_neg (n : Int) (w : Wrk) : ((w.rs.length : Int) == 0 || !setB w.rs n || decide (w.k < 0) || decide (5 < w.k) || !inR w.l 0 1073741824 || !inR w.c 1 1073741824) = !workB n w := by
  have e : workB n w = (decide (0 < w.rs.length) && setB w.rs n && decide (0 ≤ w.k) && decide (w.k ≤ 5) && inR w.l 0 1073741824 && inR w.c 1 1073741824) := rfl
  rw [e, Bool.eq_iff_iff]
  generalize setB w.rs n = b1
  generalize inR w.l 0 1073741824 = b2
  generalize inR w.c 1 1073741824 = b3
  simp only [Bool.or_eq_true, Bool.not_eq_true', Bool.and_eq_false_iff, decide_eq_true_eq, decide_eq_false_iff_not, beq_iff_eq]
  cases b1 <;> cases b2 <;> cases b3 <;> simp only [true_or, or_true, false_or, or_false, reduceCtorEq] <;> omega
theorem fn86 (m : Mp) (w : Wrk) (hl : w.rs.length ≤ 1000000) : Sy.Fn Try.prog 86 [.agg (cW w), .fp (cM m) 0] (bv (!workB m.rs.length w)) := by
  refine Fn_of_W mixed Xt86 rfl ?_
  repeat' (first | refine WK_go ?_ | refine W_seqL ?_ | refine W_seq ?_ | refine W_block ?_ | refine W_scp ?_ | ((first | refine W_regL ?_ | refine W_skip ?_ | refine W_exit ?_ | refine CallC.go _ (fun _ => ⟨trivial, fn73 _ _ (by omega)⟩) rfl ?_ | refine CallC.go _ (fun _ => ⟨trivial, fn85 _ _ _⟩) rfl ?_); simp (maxSteps := 400000) (disch := omega) only [push_cast, ↓reduceIte, reduceCtorEq, Nat.reduceAdd, Nat.reduceSub, Nat.reduceEqDiff, Nat.reduceLeDiff, Nat.reduceLT, Nat.reduceBEq, Nat.reduceDiv, Nat.reduceMod, Nat.reducePow, Nat.reduceMul, Int.reduceToNat, Int.reduceLT, Int.reduceLE]) | refine And.intro (by omega) ?_ | refine And.intro (by intro hq; (try simp only [Bool.and_eq_true, Bool.or_eq_true, Bool.and_eq_false_iff, Bool.or_eq_false_iff, decide_eq_true_eq, decide_eq_false_iff_not, Bool.not_eq_true', Bool.not_eq_false', beq_iff_eq, beq_eq_false_iff_ne, ne_eq] at hq); omega) ?_ | fail)
  rw [workB_neg]
  exact W_ret ⟨[_], ⟨rfl, rfl⟩, rfl⟩
theorem manyB_eq {m : Mp} (hr : decide ((256 : Int) < (m.rs.length : Int)) = decide (256 < m.rs.length)) : manyB m = (decide ((256 : Int) < (m.rs.length : Int)) || decide ((10 : Int) < (m.ws.length : Int)) || m.ws.any fun w => decide (16 < w.rs.length)) := by
  unfold manyB
  rw [hr]
  congr 2
  rw [Bool.eq_iff_iff, decide_eq_true_eq, decide_eq_true_eq]; omega
theorem fn27 (m : Mp) (h : Gm m) : Sy.Fn Try.prog 27 [aM m] (iv (chkM m)) := by
  refine Fn_of_W mixed Xt27 rfl ?_
  have h1 := h.r
  have h2 := h.w
  have c81a := fn81 m.ws (by omega) 82 [] [] (fun w => decide (16 < w.rs.length)) (fun w _ => fn82 w)
  have c81b := fn81 m.ws (by omega) 86 [] [.fp (cM m) 0] (fun w => !workB m.rs.length w) (fun w hw => fn86 m w (by have := h.s w hw; omega))
  have c87 := fn87 m.rs (by omega) 84 [] [.fp [.clo 83 [] [.fp (cM m) 0]] 0] (fun r => !roadB m.n r) (fun r _ => fn84 m r)
  repeat' (first | refine WK_go ?_ | refine W_seqL ?_ | refine W_seq ?_ | refine W_block ?_ | refine W_scp ?_ | ((first | refine W_regL ?_ | refine W_skip ?_ | refine W_exit ?_ | refine CallC.go _ (fun _ => ⟨trivial, c81a⟩) rfl ?_); simp (maxSteps := 400000) (disch := omega) only [push_cast, ↓reduceIte, reduceCtorEq, Nat.reduceAdd, Nat.reduceSub, Nat.reduceEqDiff, Nat.reduceLeDiff, Nat.reduceLT, Nat.reduceBEq, Nat.reduceDiv, Nat.reduceMod, Nat.reducePow, Nat.reduceMul, Int.reduceToNat, Int.reduceLT, Int.reduceLE]) | refine And.intro (by omega) ?_ | refine And.intro (by intro hq; (try simp only [Bool.and_eq_true, Bool.or_eq_true, Bool.and_eq_false_iff, Bool.or_eq_false_iff, decide_eq_true_eq, decide_eq_false_iff_not, Bool.not_eq_true', Bool.not_eq_false', beq_iff_eq, beq_eq_false_iff_ne, ne_eq] at hq); omega) ?_ | fail)
  have e1 := manyB_eq (m := m) (by rw [Bool.eq_iff_iff, decide_eq_true_eq, decide_eq_true_eq]; omega)
  rw [← e1]
  refine W_cond (by rfl) (fun hb => ?_) (fun hb => ?_)
  · have e : chkM m = 6 := by unfold chkM; rw [if_pos hb]
    rw [e]
    repeat' (first | refine WK_go ?_ | refine W_seqL ?_ | refine W_seq ?_ | refine W_block ?_ | refine W_scp ?_ | ((first | refine W_regL ?_ | refine W_skip ?_ | refine W_exit ?_); simp (maxSteps := 400000) (disch := omega) only [push_cast, ↓reduceIte, reduceCtorEq, Nat.reduceAdd, Nat.reduceSub, Nat.reduceEqDiff, Nat.reduceLeDiff, Nat.reduceLT, Nat.reduceBEq, Nat.reduceDiv, Nat.reduceMod, Nat.reducePow, Nat.reduceMul, Int.reduceToNat, Int.reduceLT, Int.reduceLE]) | refine And.intro (by omega) ?_ | refine And.intro (by intro hq; (try simp only [Bool.and_eq_true, Bool.or_eq_true, Bool.and_eq_false_iff, Bool.or_eq_false_iff, decide_eq_true_eq, decide_eq_false_iff_not, Bool.not_eq_true', Bool.not_eq_false', beq_iff_eq, beq_eq_false_iff_ne, ne_eq] at hq); omega) ?_ | fail)
    exact W_ret ⟨[_], ⟨rfl, rfl⟩, rfl⟩
  have hmn : ¬ manyB m = true := by rw [hb]; decide
  repeat' (first | refine WK_go ?_ | refine W_seqL ?_ | refine W_seq ?_ | refine W_block ?_ | refine W_scp ?_ | ((first | refine W_regL ?_ | refine W_skip ?_ | refine W_exit ?_ | refine CallC.go _ (fun _ => ⟨trivial, c87⟩) rfl ?_ | refine CallC.go _ (fun _ => ⟨trivial, c81b⟩) rfl ?_); simp (maxSteps := 400000) (disch := omega) only [push_cast, ↓reduceIte, reduceCtorEq, Nat.reduceAdd, Nat.reduceSub, Nat.reduceEqDiff, Nat.reduceLeDiff, Nat.reduceLT, Nat.reduceBEq, Nat.reduceDiv, Nat.reduceMod, Nat.reducePow, Nat.reduceMul, Int.reduceToNat, Int.reduceLT, Int.reduceLE]) | refine And.intro (by omega) ?_ | refine And.intro (by intro hq; (try simp only [Bool.and_eq_true, Bool.or_eq_true, Bool.and_eq_false_iff, Bool.or_eq_false_iff, decide_eq_true_eq, decide_eq_false_iff_not, Bool.not_eq_true', Bool.not_eq_false', beq_iff_eq, beq_eq_false_iff_ne, ne_eq] at hq); omega) ?_ | fail)
  have e2 : ((decide (m.n < 1) || decide (64 < m.n) || m.rs.any fun r => !roadB m.n r) || m.ws.any fun w => !workB (m.rs.length : Int) w) = badM m := rfl
  rw [e2]
  refine W_cond (by rfl) (fun hb => ?_) (fun hb => ?_)
  · have e : chkM m = 2 := by unfold chkM; rw [if_neg hmn, if_pos hb]
    rw [e]
    repeat' (first | refine WK_go ?_ | refine W_seqL ?_ | refine W_seq ?_ | refine W_block ?_ | refine W_scp ?_ | ((first | refine W_regL ?_ | refine W_skip ?_ | refine W_exit ?_); simp (maxSteps := 400000) (disch := omega) only [push_cast, ↓reduceIte, reduceCtorEq, Nat.reduceAdd, Nat.reduceSub, Nat.reduceEqDiff, Nat.reduceLeDiff, Nat.reduceLT, Nat.reduceBEq, Nat.reduceDiv, Nat.reduceMod, Nat.reducePow, Nat.reduceMul, Int.reduceToNat, Int.reduceLT, Int.reduceLE]) | refine And.intro (by omega) ?_ | refine And.intro (by intro hq; (try simp only [Bool.and_eq_true, Bool.or_eq_true, Bool.and_eq_false_iff, Bool.or_eq_false_iff, decide_eq_true_eq, decide_eq_false_iff_not, Bool.not_eq_true', Bool.not_eq_false', beq_iff_eq, beq_eq_false_iff_ne, ne_eq] at hq); omega) ?_ | fail)
    exact W_ret ⟨[_], ⟨rfl, rfl⟩, rfl⟩
  · have e : chkM m = 0 := by unfold chkM; rw [if_neg hmn, if_neg (by rw [hb]; decide)]
    rw [e]
    repeat' (first | refine WK_go ?_ | refine W_seqL ?_ | refine W_seq ?_ | refine W_block ?_ | refine W_scp ?_ | ((first | refine W_regL ?_ | refine W_skip ?_ | refine W_exit ?_); simp (maxSteps := 400000) (disch := omega) only [push_cast, ↓reduceIte, reduceCtorEq, Nat.reduceAdd, Nat.reduceSub, Nat.reduceEqDiff, Nat.reduceLeDiff, Nat.reduceLT, Nat.reduceBEq, Nat.reduceDiv, Nat.reduceMod, Nat.reducePow, Nat.reduceMul, Int.reduceToNat, Int.reduceLT, Int.reduceLE]) | refine And.intro (by omega) ?_ | refine And.intro (by intro hq; (try simp only [Bool.and_eq_true, Bool.or_eq_true, Bool.and_eq_false_iff, Bool.or_eq_false_iff, decide_eq_true_eq, decide_eq_false_iff_not, Bool.not_eq_true', Bool.not_eq_false', beq_iff_eq, beq_eq_false_iff_ne, ne_eq] at hq); omega) ?_ | fail)
    exact W_ret ⟨[_], ⟨rfl, rfl⟩, rfl⟩
theorem any_yes {α : Type} {l : List α} {q : α → Bool} {i : Nat} (d : α) (hi : i < l.length) (h : q (l.getD i d) = true) : l.any q = true := List.any_eq_true.2 ⟨_, getD_mem d l i hi, h⟩
theorem any_no {α : Type} {l : List α} {q : α → Bool} (d : α) (h : ∀ i, i < l.length → q (l.getD i d) = false) : l.any q = false := by
  rw [← Bool.not_eq_true, List.any_eq_true]
  rintro ⟨x, hx, hq⟩
  obtain ⟨i, hi⟩ := List.mem_iff_getElem?.1 hx
  have h1 := (List.getElem?_eq_some_iff.1 hi).1
  have := h i h1
  simp only [List.getD, hi, Option.getD_some] at this
  rw [this] at hq; cases hq
theorem road_neg (n : Int) (r : Rd) : (decide (r.f < 0) || decide (n ≤ r.f) || decide (r.t < 0) || decide (n ≤ r.t) || r.f == r.t || !inR r.c 1 1073741824 || !inR r.m 1 1440 || decide (r.o < 0) || decide (r.z ≤ r.o) || decide (1440 < r.z) || decide (IntKind.i64.wrap (r.z - r.o) < r.m) || (szE r.lim != 0)) = !roadB n r := by
  have e : roadB n r = (plB n r.f && plB n r.t && !(r.f == r.t) && inR r.c 1 1073741824 && hrsB r && szB r.lim) := rfl
  have e2 : (szE r.lim != 0) = !szB r.lim := by unfold szE; cases szB r.lim <;> rfl
  rw [e, e2]
  unfold hrsB plB inR
  generalize szB r.lim = b1
  by_cases h : 0 ≤ r.o ∧ r.o < r.z ∧ r.z ≤ 1440
  · rw [wrap64 (by omega), Bool.eq_iff_iff]
    simp only [Bool.or_eq_true, Bool.not_eq_true', Bool.and_eq_false_iff, Bool.and_eq_true, Bool.not_eq_false', decide_eq_true_eq, decide_eq_false_iff_not, beq_iff_eq, beq_eq_false_iff_ne]
    cases b1 <;> simp only [true_or, or_true, false_or, or_false, reduceCtorEq, true_iff] <;> omega
  · have h2 : (decide (r.o < 0) || decide (r.z ≤ r.o) || decide (1440 < r.z)) = true := by
      simp only [Bool.or_eq_true, decide_eq_true_eq]; omega
    have h3 : (decide (0 ≤ r.o) && decide (r.o < r.z) && decide (r.z ≤ 1440)) = false := by
      rw [← Bool.not_eq_true]; simp only [Bool.and_eq_true, decide_eq_true_eq]; omega
    rw [h3]
    have h4 : ∀ a b c d e f g : Bool, (d || e || f) = true → (a || d || e || f || b || c) = true := by intro a b c d e f g; cases a <;> cases b <;> cases c <;> cases d <;> cases e <;> cases f <;> simp
    rw [h4 _ _ _ _ _ _ true h2]
    simp
theorem work_neg (n : Int) (w : Wrk) : (decide ((w.rs.length : Int) < 1) || decide (w.k < 0) || decide (5 < w.k) || !inR w.l 0 1073741824 || !inR w.c 1 1073741824 || !setB w.rs n) = !workB n w := by
  have e : workB n w = (decide (0 < w.rs.length) && setB w.rs n && decide (0 ≤ w.k) && decide (w.k ≤ 5) && inR w.l 0 1073741824 && inR w.c 1 1073741824) := rfl
  rw [e, Bool.eq_iff_iff]
  generalize setB w.rs n = b1
  generalize inR w.l 0 1073741824 = b2
  generalize inR w.c 1 1073741824 = b3
  simp only [Bool.or_eq_true, Bool.not_eq_true', Bool.and_eq_false_iff, decide_eq_true_eq, decide_eq_false_iff_not, beq_iff_eq]
  cases b1 <;> cases b2 <;> cases b3 <;> simp only [true_or, or_true, false_or, or_false, reduceCtorEq] <;> omega
end Go.Proofs.Ytfbdlmenhoagmaa

namespace Go.Proofs.Ytfbdlmenhoagmaa
open Go Sy
set_option maxRecDepth 100000
set_option maxHeartbeats 4000000
set_option linter.unusedVariables false
set_option linter.unusedSimpArgs false
theorem fn16 (m : Mp) (h : Gm m) : Sy.Fn Try.prog 16 [aM m] (iv (chkM m)) := by
  refine Fn_of_W mixed Xt16 rfl ?_
  have h1 := h.r
  have h2 := h.w
  repeat' (first | refine WK_go ?_ | refine W_seqL ?_ | refine W_seq ?_ | refine W_block ?_ | refine W_scp ?_ | ((first | refine W_regL ?_ | refine W_skip ?_ | refine W_exit ?_); simp (maxSteps := 400000) (disch := omega) only [push_cast, ↓reduceIte, reduceCtorEq, Nat.reduceAdd, Nat.reduceSub, Nat.reduceEqDiff, Nat.reduceLeDiff, Nat.reduceLT, Nat.reduceBEq, Nat.reduceDiv, Nat.reduceMod, Nat.reducePow, Nat.reduceMul, Int.reduceToNat, Int.reduceLT, Int.reduceLE]) | refine And.intro (by omega) ?_ | refine And.intro (by intro hq; (try simp only [Bool.and_eq_true, Bool.or_eq_true, Bool.and_eq_false_iff, Bool.or_eq_false_iff, decide_eq_true_eq, decide_eq_false_iff_not, Bool.not_eq_true', Bool.not_eq_false', beq_iff_eq, beq_eq_false_iff_ne, ne_eq] at hq); omega) ?_ | fail)
  refine W_cond (by rfl) (fun hb => ?_) (fun hb => ?_)
  · have e : chkM m = 6 := by
      unfold chkM manyB
      rw [if_pos]
      simp only [Bool.or_eq_true, decide_eq_true_eq] at hb ⊢
      omega
    rw [e]
    repeat' (first | refine WK_go ?_ | refine W_seqL ?_ | refine W_seq ?_ | refine W_block ?_ | refine W_scp ?_ | ((first | refine W_regL ?_ | refine W_skip ?_ | refine W_exit ?_); simp (maxSteps := 400000) (disch := omega) only [push_cast, ↓reduceIte, reduceCtorEq, Nat.reduceAdd, Nat.reduceSub, Nat.reduceEqDiff, Nat.reduceLeDiff, Nat.reduceLT, Nat.reduceBEq, Nat.reduceDiv, Nat.reduceMod, Nat.reducePow, Nat.reduceMul, Int.reduceToNat, Int.reduceLT, Int.reduceLE]) | refine And.intro (by omega) ?_ | refine And.intro (by intro hq; (try simp only [Bool.and_eq_true, Bool.or_eq_true, Bool.and_eq_false_iff, Bool.or_eq_false_iff, decide_eq_true_eq, decide_eq_false_iff_not, Bool.not_eq_true', Bool.not_eq_false', beq_iff_eq, beq_eq_false_iff_ne, ne_eq] at hq); omega) ?_ | fail)
    exact W_ret ⟨[_], ⟨rfl, rfl⟩, rfl⟩
  simp only [Bool.or_eq_false_iff, decide_eq_false_iff_not] at hb
  repeat' (first | refine WK_go ?_ | refine W_seqL ?_ | refine W_seq ?_ | refine W_block ?_ | refine W_scp ?_ | ((first | refine W_regL ?_ | refine W_skip ?_ | refine W_exit ?_); simp (maxSteps := 400000) (disch := omega) only [push_cast, ↓reduceIte, reduceCtorEq, Nat.reduceAdd, Nat.reduceSub, Nat.reduceEqDiff, Nat.reduceLeDiff, Nat.reduceLT, Nat.reduceBEq, Nat.reduceDiv, Nat.reduceMod, Nat.reducePow, Nat.reduceMul, Int.reduceToNat, Int.reduceLT, Int.reduceLE]) | refine And.intro (by omega) ?_ | refine And.intro (by intro hq; (try simp only [Bool.and_eq_true, Bool.or_eq_true, Bool.and_eq_false_iff, Bool.or_eq_false_iff, decide_eq_true_eq, decide_eq_false_iff_not, Bool.not_eq_true', Bool.not_eq_false', beq_iff_eq, beq_eq_false_iff_ne, ne_eq] at hq); omega) ?_ | fail)
  refine W_loopU (fun i : Nat => [(3, iv i)]) (fun i => []) (fun i => i ≤ m.ws.length ∧ ∀ j, j < i → decide (16 < (gw m j).rs.length) = false) (fun i => m.ws.length - i) 0 ⟨by omega, fun j hj => by omega⟩ (by rfl) (by rfl) (fun i hi => ?_)
  obtain ⟨hi, hp⟩ := hi
  simp (maxSteps := 400000) (disch := omega) only [push_cast, ↓reduceIte, reduceCtorEq, Nat.reduceAdd, Nat.reduceSub, Nat.reduceEqDiff, Nat.reduceLeDiff, Nat.reduceLT, Nat.reduceBEq, Nat.reduceDiv, Nat.reduceMod, Nat.reducePow, Nat.reduceMul, Int.reduceToNat, Int.reduceLT, Int.reduceLE]
  repeat' (first | refine WK_go ?_ | refine W_seqL ?_ | refine W_seq ?_ | refine W_block ?_ | refine W_scp ?_ | ((first | refine W_regL ?_ | refine W_skip ?_ | refine W_exit ?_); simp (maxSteps := 400000) (disch := omega) only [push_cast, ↓reduceIte, reduceCtorEq, Nat.reduceAdd, Nat.reduceSub, Nat.reduceEqDiff, Nat.reduceLeDiff, Nat.reduceLT, Nat.reduceBEq, Nat.reduceDiv, Nat.reduceMod, Nat.reducePow, Nat.reduceMul, Int.reduceToNat, Int.reduceLT, Int.reduceLE]) | refine And.intro (by omega) ?_ | refine And.intro (by intro hq; (try simp only [Bool.and_eq_true, Bool.or_eq_true, Bool.and_eq_false_iff, Bool.or_eq_false_iff, decide_eq_true_eq, decide_eq_false_iff_not, Bool.not_eq_true', Bool.not_eq_false', beq_iff_eq, beq_eq_false_iff_ne, ne_eq] at hq); omega) ?_ | fail)
  refine W_condD (by rfl) (fun h5 => ?_) (fun h5 => ?_)
  · have hlt : i < m.ws.length := by omega
    have hgw : m.ws.getD i dW = gw m i := rfl
    have hgl : (gw m i).rs.length = (m.ws.getD i dW).rs.length := rfl
    repeat' (first | refine WK_go ?_ | refine W_seqL ?_ | refine W_seq ?_ | refine W_block ?_ | refine W_scp ?_ | ((first | refine W_regL ?_ | refine W_skip ?_ | refine W_exit ?_); simp (maxSteps := 400000) (disch := omega) only [push_cast, ↓reduceIte, reduceCtorEq, Nat.reduceAdd, Nat.reduceSub, Nat.reduceEqDiff, Nat.reduceLeDiff, Nat.reduceLT, Nat.reduceBEq, Nat.reduceDiv, Nat.reduceMod, Nat.reducePow, Nat.reduceMul, Int.reduceToNat, Int.reduceLT, Int.reduceLE, hgw]) | refine And.intro (by omega) ?_ | refine And.intro (by intro hq; (try simp only [Bool.and_eq_true, Bool.or_eq_true, Bool.and_eq_false_iff, Bool.or_eq_false_iff, decide_eq_true_eq, decide_eq_false_iff_not, Bool.not_eq_true', Bool.not_eq_false', beq_iff_eq, beq_eq_false_iff_ne, ne_eq] at hq); omega) ?_ | fail)
    refine W_condD (by rfl) (fun h6 => ?_) (fun h6 => ?_)
    · have e : chkM m = 6 := by
        unfold chkM manyB
        rw [if_pos]
        rw [any_yes dW hlt (decide_eq_true (by omega))]
        simp
      rw [e]
      repeat' (first | refine WK_go ?_ | refine W_seqL ?_ | refine W_seq ?_ | refine W_block ?_ | refine W_scp ?_ | ((first | refine W_regL ?_ | refine W_skip ?_ | refine W_exit ?_); simp (maxSteps := 400000) (disch := omega) only [push_cast, ↓reduceIte, reduceCtorEq, Nat.reduceAdd, Nat.reduceSub, Nat.reduceEqDiff, Nat.reduceLeDiff, Nat.reduceLT, Nat.reduceBEq, Nat.reduceDiv, Nat.reduceMod, Nat.reducePow, Nat.reduceMul, Int.reduceToNat, Int.reduceLT, Int.reduceLE]) | refine And.intro (by omega) ?_ | refine And.intro (by intro hq; (try simp only [Bool.and_eq_true, Bool.or_eq_true, Bool.and_eq_false_iff, Bool.or_eq_false_iff, decide_eq_true_eq, decide_eq_false_iff_not, Bool.not_eq_true', Bool.not_eq_false', beq_iff_eq, beq_eq_false_iff_ne, ne_eq] at hq); omega) ?_ | fail)
      exact W_ret ⟨[_], ⟨rfl, rfl⟩, rfl⟩
    · repeat' (first | refine WK_go ?_ | refine W_seqL ?_ | refine W_seq ?_ | refine W_block ?_ | refine W_scp ?_ | ((first | refine W_regL ?_ | refine W_skip ?_ | refine W_exit ?_); simp (maxSteps := 400000) (disch := omega) only [push_cast, ↓reduceIte, reduceCtorEq, Nat.reduceAdd, Nat.reduceSub, Nat.reduceEqDiff, Nat.reduceLeDiff, Nat.reduceLT, Nat.reduceBEq, Nat.reduceDiv, Nat.reduceMod, Nat.reducePow, Nat.reduceMul, Int.reduceToNat, Int.reduceLT, Int.reduceLE]) | refine And.intro (by omega) ?_ | refine And.intro (by intro hq; (try simp only [Bool.and_eq_true, Bool.or_eq_true, Bool.and_eq_false_iff, Bool.or_eq_false_iff, decide_eq_true_eq, decide_eq_false_iff_not, Bool.not_eq_true', Bool.not_eq_false', beq_iff_eq, beq_eq_false_iff_ne, ne_eq] at hq); omega) ?_ | fail)
      refine ⟨i + 1, ⟨by omega, up_all hp (decide_eq_false (by omega))⟩, by omega, by rfl, ?_⟩
      simp (maxSteps := 400000) (disch := omega) only [push_cast, ↓reduceIte, reduceCtorEq, Nat.reduceAdd, Nat.reduceSub, Nat.reduceEqDiff, Nat.reduceLeDiff, Nat.reduceLT, Nat.reduceBEq, Nat.reduceDiv, Nat.reduceMod, Nat.reducePow, Nat.reduceMul, Int.reduceToNat, Int.reduceLT, Int.reduceLE, S.mk.injEq, List.cons.injEq, Prod.mk.injEq, AV.v.injEq, Value.int.injEq, Value.bool.injEq, Blk.cells.injEq]
  have hmn : ¬ manyB m = true := by
    unfold manyB
    rw [any_no dW (fun j hj => hp j (by omega))]
    simp only [Bool.or_eq_true, decide_eq_true_eq]
    simp
    omega
  have hc : chkM m = if badM m = true then 2 else 0 := by unfold chkM; rw [if_neg hmn]
  clear hp h5 hi
  repeat' (first | refine WK_go ?_ | refine W_seqL ?_ | refine W_seq ?_ | refine W_block ?_ | refine W_scp ?_ | ((first | refine W_regL ?_ | refine W_skip ?_ | refine W_exit ?_); simp (maxSteps := 400000) (disch := omega) only [push_cast, ↓reduceIte, reduceCtorEq, Nat.reduceAdd, Nat.reduceSub, Nat.reduceEqDiff, Nat.reduceLeDiff, Nat.reduceLT, Nat.reduceBEq, Nat.reduceDiv, Nat.reduceMod, Nat.reducePow, Nat.reduceMul, Int.reduceToNat, Int.reduceLT, Int.reduceLE]) | refine And.intro (by omega) ?_ | refine And.intro (by intro hq; (try simp only [Bool.and_eq_true, Bool.or_eq_true, Bool.and_eq_false_iff, Bool.or_eq_false_iff, decide_eq_true_eq, decide_eq_false_iff_not, Bool.not_eq_true', Bool.not_eq_false', beq_iff_eq, beq_eq_false_iff_ne, ne_eq] at hq); omega) ?_ | fail)
  refine W_cond (by rfl) (fun hb2 => ?_) (fun hb2 => ?_)
  · have e : chkM m = 2 := by
      rw [hc, if_pos]
      unfold badM
      rw [hb2]; simp
    rw [e]
    repeat' (first | refine WK_go ?_ | refine W_seqL ?_ | refine W_seq ?_ | refine W_block ?_ | refine W_scp ?_ | ((first | refine W_regL ?_ | refine W_skip ?_ | refine W_exit ?_); simp (maxSteps := 400000) (disch := omega) only [push_cast, ↓reduceIte, reduceCtorEq, Nat.reduceAdd, Nat.reduceSub, Nat.reduceEqDiff, Nat.reduceLeDiff, Nat.reduceLT, Nat.reduceBEq, Nat.reduceDiv, Nat.reduceMod, Nat.reducePow, Nat.reduceMul, Int.reduceToNat, Int.reduceLT, Int.reduceLE]) | refine And.intro (by omega) ?_ | refine And.intro (by intro hq; (try simp only [Bool.and_eq_true, Bool.or_eq_true, Bool.and_eq_false_iff, Bool.or_eq_false_iff, decide_eq_true_eq, decide_eq_false_iff_not, Bool.not_eq_true', Bool.not_eq_false', beq_iff_eq, beq_eq_false_iff_ne, ne_eq] at hq); omega) ?_ | fail)
    exact W_ret ⟨[_], ⟨rfl, rfl⟩, rfl⟩
  repeat' (first | refine WK_go ?_ | refine W_seqL ?_ | refine W_seq ?_ | refine W_block ?_ | refine W_scp ?_ | ((first | refine W_regL ?_ | refine W_skip ?_ | refine W_exit ?_); simp (maxSteps := 400000) (disch := omega) only [push_cast, ↓reduceIte, reduceCtorEq, Nat.reduceAdd, Nat.reduceSub, Nat.reduceEqDiff, Nat.reduceLeDiff, Nat.reduceLT, Nat.reduceBEq, Nat.reduceDiv, Nat.reduceMod, Nat.reducePow, Nat.reduceMul, Int.reduceToNat, Int.reduceLT, Int.reduceLE]) | refine And.intro (by omega) ?_ | refine And.intro (by intro hq; (try simp only [Bool.and_eq_true, Bool.or_eq_true, Bool.and_eq_false_iff, Bool.or_eq_false_iff, decide_eq_true_eq, decide_eq_false_iff_not, Bool.not_eq_true', Bool.not_eq_false', beq_iff_eq, beq_eq_false_iff_ne, ne_eq] at hq); omega) ?_ | fail)
  refine W_loopU (fun i : Nat => [(4, iv i)]) (fun i => []) (fun i => i ≤ m.rs.length ∧ ∀ j, j < i → (!roadB m.n (gr m j)) = false) (fun i => m.rs.length - i) 0 ⟨by omega, fun j hj => by omega⟩ (by rfl) (by rfl) (fun i hi => ?_)
  obtain ⟨hi, hp⟩ := hi
  simp (maxSteps := 400000) (disch := omega) only [push_cast, ↓reduceIte, reduceCtorEq, Nat.reduceAdd, Nat.reduceSub, Nat.reduceEqDiff, Nat.reduceLeDiff, Nat.reduceLT, Nat.reduceBEq, Nat.reduceDiv, Nat.reduceMod, Nat.reducePow, Nat.reduceMul, Int.reduceToNat, Int.reduceLT, Int.reduceLE]
  repeat' (first | refine WK_go ?_ | refine W_seqL ?_ | refine W_seq ?_ | refine W_block ?_ | refine W_scp ?_ | ((first | refine W_regL ?_ | refine W_skip ?_ | refine W_exit ?_); simp (maxSteps := 400000) (disch := omega) only [push_cast, ↓reduceIte, reduceCtorEq, Nat.reduceAdd, Nat.reduceSub, Nat.reduceEqDiff, Nat.reduceLeDiff, Nat.reduceLT, Nat.reduceBEq, Nat.reduceDiv, Nat.reduceMod, Nat.reducePow, Nat.reduceMul, Int.reduceToNat, Int.reduceLT, Int.reduceLE]) | refine And.intro (by omega) ?_ | refine And.intro (by intro hq; (try simp only [Bool.and_eq_true, Bool.or_eq_true, Bool.and_eq_false_iff, Bool.or_eq_false_iff, decide_eq_true_eq, decide_eq_false_iff_not, Bool.not_eq_true', Bool.not_eq_false', beq_iff_eq, beq_eq_false_iff_ne, ne_eq] at hq); omega) ?_ | fail)
  refine W_condD (by rfl) (fun h5 => ?_) (fun h5 => ?_)
  · have hlt : i < m.rs.length := by omega
    have hgr : m.rs.getD i dR = gr m i := rfl
    repeat' (first | refine WK_go ?_ | refine W_seqL ?_ | refine W_seq ?_ | refine W_block ?_ | refine W_scp ?_ | ((first | refine W_regL ?_ | refine W_skip ?_ | refine W_exit ?_ | refine CallC.go _ (fun _ => ⟨trivial, fn66 _ _ _⟩) rfl ?_ | refine CallC.go _ (fun _ => ⟨trivial, fn29 _⟩) rfl ?_); simp (maxSteps := 400000) (disch := omega) only [push_cast, ↓reduceIte, reduceCtorEq, Nat.reduceAdd, Nat.reduceSub, Nat.reduceEqDiff, Nat.reduceLeDiff, Nat.reduceLT, Nat.reduceBEq, Nat.reduceDiv, Nat.reduceMod, Nat.reducePow, Nat.reduceMul, Int.reduceToNat, Int.reduceLT, Int.reduceLE, hgr]) | refine And.intro (by omega) ?_ | refine And.intro (by intro hq; (try simp only [Bool.and_eq_true, Bool.or_eq_true, Bool.and_eq_false_iff, Bool.or_eq_false_iff, decide_eq_true_eq, decide_eq_false_iff_not, Bool.not_eq_true', Bool.not_eq_false', beq_iff_eq, beq_eq_false_iff_ne, ne_eq] at hq); omega) ?_ | fail)
    rw [road_neg]
    refine W_cond (by rfl) (fun h6 => ?_) (fun h6 => ?_)
    · have e : chkM m = 2 := by
        rw [hc, if_pos]
        unfold badM
        rw [any_yes (q := fun r => !roadB m.n r) dR hlt h6]; simp
      rw [e]
      repeat' (first | refine WK_go ?_ | refine W_seqL ?_ | refine W_seq ?_ | refine W_block ?_ | refine W_scp ?_ | ((first | refine W_regL ?_ | refine W_skip ?_ | refine W_exit ?_); simp (maxSteps := 400000) (disch := omega) only [push_cast, ↓reduceIte, reduceCtorEq, Nat.reduceAdd, Nat.reduceSub, Nat.reduceEqDiff, Nat.reduceLeDiff, Nat.reduceLT, Nat.reduceBEq, Nat.reduceDiv, Nat.reduceMod, Nat.reducePow, Nat.reduceMul, Int.reduceToNat, Int.reduceLT, Int.reduceLE]) | refine And.intro (by omega) ?_ | refine And.intro (by intro hq; (try simp only [Bool.and_eq_true, Bool.or_eq_true, Bool.and_eq_false_iff, Bool.or_eq_false_iff, decide_eq_true_eq, decide_eq_false_iff_not, Bool.not_eq_true', Bool.not_eq_false', beq_iff_eq, beq_eq_false_iff_ne, ne_eq] at hq); omega) ?_ | fail)
      exact W_ret ⟨[_], ⟨rfl, rfl⟩, rfl⟩
    · repeat' (first | refine WK_go ?_ | refine W_seqL ?_ | refine W_seq ?_ | refine W_block ?_ | refine W_scp ?_ | ((first | refine W_regL ?_ | refine W_skip ?_ | refine W_exit ?_); simp (maxSteps := 400000) (disch := omega) only [push_cast, ↓reduceIte, reduceCtorEq, Nat.reduceAdd, Nat.reduceSub, Nat.reduceEqDiff, Nat.reduceLeDiff, Nat.reduceLT, Nat.reduceBEq, Nat.reduceDiv, Nat.reduceMod, Nat.reducePow, Nat.reduceMul, Int.reduceToNat, Int.reduceLT, Int.reduceLE]) | refine And.intro (by omega) ?_ | refine And.intro (by intro hq; (try simp only [Bool.and_eq_true, Bool.or_eq_true, Bool.and_eq_false_iff, Bool.or_eq_false_iff, decide_eq_true_eq, decide_eq_false_iff_not, Bool.not_eq_true', Bool.not_eq_false', beq_iff_eq, beq_eq_false_iff_ne, ne_eq] at hq); omega) ?_ | fail)
      refine ⟨i + 1, ⟨by omega, up_all hp h6⟩, by omega, by rfl, ?_⟩
      simp (maxSteps := 400000) (disch := omega) only [push_cast, ↓reduceIte, reduceCtorEq, Nat.reduceAdd, Nat.reduceSub, Nat.reduceEqDiff, Nat.reduceLeDiff, Nat.reduceLT, Nat.reduceBEq, Nat.reduceDiv, Nat.reduceMod, Nat.reducePow, Nat.reduceMul, Int.reduceToNat, Int.reduceLT, Int.reduceLE, S.mk.injEq, List.cons.injEq, Prod.mk.injEq, AV.v.injEq, Value.int.injEq, Value.bool.injEq, Blk.cells.injEq]
  have hra : (m.rs.any fun r => !roadB m.n r) = false := any_no dR (fun j hj => hp j (by omega))
  clear hp h5 hi
  repeat' (first | refine WK_go ?_ | refine W_seqL ?_ | refine W_seq ?_ | refine W_block ?_ | refine W_scp ?_ | ((first | refine W_regL ?_ | refine W_skip ?_ | refine W_exit ?_); simp (maxSteps := 400000) (disch := omega) only [push_cast, ↓reduceIte, reduceCtorEq, Nat.reduceAdd, Nat.reduceSub, Nat.reduceEqDiff, Nat.reduceLeDiff, Nat.reduceLT, Nat.reduceBEq, Nat.reduceDiv, Nat.reduceMod, Nat.reducePow, Nat.reduceMul, Int.reduceToNat, Int.reduceLT, Int.reduceLE]) | refine And.intro (by omega) ?_ | refine And.intro (by intro hq; (try simp only [Bool.and_eq_true, Bool.or_eq_true, Bool.and_eq_false_iff, Bool.or_eq_false_iff, decide_eq_true_eq, decide_eq_false_iff_not, Bool.not_eq_true', Bool.not_eq_false', beq_iff_eq, beq_eq_false_iff_ne, ne_eq] at hq); omega) ?_ | fail)
  refine W_loopU (fun i : Nat => [(6, iv i)]) (fun i => []) (fun i => i ≤ m.ws.length ∧ ∀ j, j < i → (!workB m.rs.length (gw m j)) = false) (fun i => m.ws.length - i) 0 ⟨by omega, fun j hj => by omega⟩ (by rfl) (by rfl) (fun i hi => ?_)
  obtain ⟨hi, hp⟩ := hi
  simp (maxSteps := 400000) (disch := omega) only [push_cast, ↓reduceIte, reduceCtorEq, Nat.reduceAdd, Nat.reduceSub, Nat.reduceEqDiff, Nat.reduceLeDiff, Nat.reduceLT, Nat.reduceBEq, Nat.reduceDiv, Nat.reduceMod, Nat.reducePow, Nat.reduceMul, Int.reduceToNat, Int.reduceLT, Int.reduceLE]
  repeat' (first | refine WK_go ?_ | refine W_seqL ?_ | refine W_seq ?_ | refine W_block ?_ | refine W_scp ?_ | ((first | refine W_regL ?_ | refine W_skip ?_ | refine W_exit ?_); simp (maxSteps := 400000) (disch := omega) only [push_cast, ↓reduceIte, reduceCtorEq, Nat.reduceAdd, Nat.reduceSub, Nat.reduceEqDiff, Nat.reduceLeDiff, Nat.reduceLT, Nat.reduceBEq, Nat.reduceDiv, Nat.reduceMod, Nat.reducePow, Nat.reduceMul, Int.reduceToNat, Int.reduceLT, Int.reduceLE]) | refine And.intro (by omega) ?_ | refine And.intro (by intro hq; (try simp only [Bool.and_eq_true, Bool.or_eq_true, Bool.and_eq_false_iff, Bool.or_eq_false_iff, decide_eq_true_eq, decide_eq_false_iff_not, Bool.not_eq_true', Bool.not_eq_false', beq_iff_eq, beq_eq_false_iff_ne, ne_eq] at hq); omega) ?_ | fail)
  refine W_condD (by rfl) (fun h5 => ?_) (fun h5 => ?_)
  · have hlt : i < m.ws.length := by omega
    have hgw : m.ws.getD i dW = gw m i := rfl
    have hwl := h.s (gw m i) (getD_mem dW _ i hlt)
    repeat' (first | refine WK_go ?_ | refine W_seqL ?_ | refine W_seq ?_ | refine W_block ?_ | refine W_scp ?_ | ((first | refine W_regL ?_ | refine W_skip ?_ | refine W_exit ?_ | refine CallC.go _ (fun _ => ⟨trivial, fn66 _ _ _⟩) rfl ?_ | refine CallC.go _ (fun _ => ⟨trivial, fn67 _ _ (by omega)⟩) rfl ?_); simp (maxSteps := 400000) (disch := omega) only [push_cast, ↓reduceIte, reduceCtorEq, Nat.reduceAdd, Nat.reduceSub, Nat.reduceEqDiff, Nat.reduceLeDiff, Nat.reduceLT, Nat.reduceBEq, Nat.reduceDiv, Nat.reduceMod, Nat.reducePow, Nat.reduceMul, Int.reduceToNat, Int.reduceLT, Int.reduceLE, hgw]) | refine And.intro (by omega) ?_ | refine And.intro (by intro hq; (try simp only [Bool.and_eq_true, Bool.or_eq_true, Bool.and_eq_false_iff, Bool.or_eq_false_iff, decide_eq_true_eq, decide_eq_false_iff_not, Bool.not_eq_true', Bool.not_eq_false', beq_iff_eq, beq_eq_false_iff_ne, ne_eq] at hq); omega) ?_ | fail)
    rw [work_neg]
    refine W_cond (by rfl) (fun h6 => ?_) (fun h6 => ?_)
    · have e : chkM m = 2 := by
        rw [hc, if_pos]
        unfold badM
        rw [any_yes (q := fun w => !workB m.rs.length w) dW hlt h6]; simp
      rw [e]
      repeat' (first | refine WK_go ?_ | refine W_seqL ?_ | refine W_seq ?_ | refine W_block ?_ | refine W_scp ?_ | ((first | refine W_regL ?_ | refine W_skip ?_ | refine W_exit ?_); simp (maxSteps := 400000) (disch := omega) only [push_cast, ↓reduceIte, reduceCtorEq, Nat.reduceAdd, Nat.reduceSub, Nat.reduceEqDiff, Nat.reduceLeDiff, Nat.reduceLT, Nat.reduceBEq, Nat.reduceDiv, Nat.reduceMod, Nat.reducePow, Nat.reduceMul, Int.reduceToNat, Int.reduceLT, Int.reduceLE]) | refine And.intro (by omega) ?_ | refine And.intro (by intro hq; (try simp only [Bool.and_eq_true, Bool.or_eq_true, Bool.and_eq_false_iff, Bool.or_eq_false_iff, decide_eq_true_eq, decide_eq_false_iff_not, Bool.not_eq_true', Bool.not_eq_false', beq_iff_eq, beq_eq_false_iff_ne, ne_eq] at hq); omega) ?_ | fail)
      exact W_ret ⟨[_], ⟨rfl, rfl⟩, rfl⟩
    · repeat' (first | refine WK_go ?_ | refine W_seqL ?_ | refine W_seq ?_ | refine W_block ?_ | refine W_scp ?_ | ((first | refine W_regL ?_ | refine W_skip ?_ | refine W_exit ?_); simp (maxSteps := 400000) (disch := omega) only [push_cast, ↓reduceIte, reduceCtorEq, Nat.reduceAdd, Nat.reduceSub, Nat.reduceEqDiff, Nat.reduceLeDiff, Nat.reduceLT, Nat.reduceBEq, Nat.reduceDiv, Nat.reduceMod, Nat.reducePow, Nat.reduceMul, Int.reduceToNat, Int.reduceLT, Int.reduceLE]) | refine And.intro (by omega) ?_ | refine And.intro (by intro hq; (try simp only [Bool.and_eq_true, Bool.or_eq_true, Bool.and_eq_false_iff, Bool.or_eq_false_iff, decide_eq_true_eq, decide_eq_false_iff_not, Bool.not_eq_true', Bool.not_eq_false', beq_iff_eq, beq_eq_false_iff_ne, ne_eq] at hq); omega) ?_ | fail)
      refine ⟨i + 1, ⟨by omega, up_all hp h6⟩, by omega, by rfl, ?_⟩
      simp (maxSteps := 400000) (disch := omega) only [push_cast, ↓reduceIte, reduceCtorEq, Nat.reduceAdd, Nat.reduceSub, Nat.reduceEqDiff, Nat.reduceLeDiff, Nat.reduceLT, Nat.reduceBEq, Nat.reduceDiv, Nat.reduceMod, Nat.reducePow, Nat.reduceMul, Int.reduceToNat, Int.reduceLT, Int.reduceLE, S.mk.injEq, List.cons.injEq, Prod.mk.injEq, AV.v.injEq, Value.int.injEq, Value.bool.injEq, Blk.cells.injEq]
  have hwa : (m.ws.any fun w => !workB m.rs.length w) = false := any_no dW (fun j hj => hp j (by omega))
  have e : chkM m = 0 := by
    rw [hc, if_neg]
    unfold badM
    rw [hb2, hra, hwa]
    decide
  rw [e]
  repeat' (first | refine WK_go ?_ | refine W_seqL ?_ | refine W_seq ?_ | refine W_block ?_ | refine W_scp ?_ | ((first | refine W_regL ?_ | refine W_skip ?_ | refine W_exit ?_); simp (maxSteps := 400000) (disch := omega) only [push_cast, ↓reduceIte, reduceCtorEq, Nat.reduceAdd, Nat.reduceSub, Nat.reduceEqDiff, Nat.reduceLeDiff, Nat.reduceLT, Nat.reduceBEq, Nat.reduceDiv, Nat.reduceMod, Nat.reducePow, Nat.reduceMul, Int.reduceToNat, Int.reduceLT, Int.reduceLE]) | refine And.intro (by omega) ?_ | refine And.intro (by intro hq; (try simp only [Bool.and_eq_true, Bool.or_eq_true, Bool.and_eq_false_iff, Bool.or_eq_false_iff, decide_eq_true_eq, decide_eq_false_iff_not, Bool.not_eq_true', Bool.not_eq_false', beq_iff_eq, beq_eq_false_iff_ne, ne_eq] at hq); omega) ?_ | fail)
  exact W_ret ⟨[_], ⟨rfl, rfl⟩, rfl⟩
end Go.Proofs.Ytfbdlmenhoagmaa

namespace Go.Proofs.Ytfbdlmenhoagmaa
open Go Sy
set_option maxRecDepth 100000
set_option maxHeartbeats 4000000
set_option linter.unusedVariables false
set_option linter.unusedSimpArgs false
def cAt (m : Mp) (f : Nat → Int) : List AV := [iv m.n, aR m.rs, aW m.ws, iv (f 0), iv (f 1), iv (f 2), iv (f 3), iv (f 4), iv (f 5)]
theorem nAt0 (m : Mp) (f : Nat → Int) : nth (cAt m f) 0 = iv m.n := rfl
theorem nAt1 (m : Mp) (f : Nat → Int) : nth (cAt m f) 1 = aR m.rs := rfl
theorem nAt2 (m : Mp) (f : Nat → Int) : nth (cAt m f) 2 = aW m.ws := rfl
theorem lAt (m : Mp) (f : Nat → Int) : (cAt m f).length = 9 := rfl
theorem frAt (m : Mp) (f : Nat → Int) : frzAll (cAt m f) = true := rfl
theorem tAt3 (m : Mp) (f : Nat → Int) : List.take 3 (cAt m f) = cM m := rfl
theorem tAt30 (m : Mp) (f : Nat → Int) : List.take 3 (List.drop 0 (cAt m f)) = cM m := rfl
theorem tAt6 (m : Mp) (f : Nat → Int) : List.take 6 (List.drop 3 (cAt m f)) = c6 f := rfl
theorem tAt9 (m : Mp) (f : Nat → Int) : List.take 9 (cAt m f) = cAt m f := rfl
theorem tAt90 (m : Mp) (f : Nat → Int) : List.take 9 (List.drop 0 (cAt m f)) = cAt m f := rfl
theorem iAt {g : Nat → Option Blk} {n : Nat} (m : Mp) (f : Nat → Int) : List.flatMap (ids g n) (cAt m f) = [] := flat_frz n _ (frAt m f)
theorem vAt {g : Nat → Option Blk} {n : Nat} (m : Mp) (f : Nat → Int) : List.map (view g n) (cAt m f) = cAt m f := viewL_frz n _ (frAt m f)
theorem mkAt (m : Mp) (f : Nat → Int) : cM m ++ c6 f = cAt m f := rfl
attribute [push_cast] nAt0 nAt1 nAt2 lAt frAt tAt3 tAt30 tAt6 tAt9 tAt90 iAt vAt mkAt
abbrev aAt (m : Mp) (f : Nat → Int) : AV := .agg (cAt m f)
def zAt : List AV := [iv 0, .v (.slice none 0 0), .v (.slice none 0 0), iv 0, iv 0, iv 0, iv 0, iv 0, iv 0]
def opE (m : Mp) (f : Nat → Int) : Int := if chkM m = 0 then szE f else chkM m
def opV (m : Mp) (f : Nat → Int) : List AV := if chkM m = 0 then cAt m f else zAt
theorem fn52 (m : Mp) (f : Nat → Int) (h : Gm m) : Sy.Fn Try.prog 52 [aM m, .agg (c6 f)] (.tup [.agg (opV m f), iv (opE m f)]) := by
  refine Fn_of_W mixed Xt52 rfl ?_
  unfold opE opV
  repeat' (first | refine WK_go ?_ | refine W_seqL ?_ | refine W_seq ?_ | refine W_block ?_ | refine W_scp ?_ | ((first | refine W_regL ?_ | refine W_skip ?_ | refine W_exit ?_ | refine CallC.now (fn27 m h) ?_); simp (maxSteps := 400000) (disch := omega) only [push_cast, ↓reduceIte, reduceCtorEq, Nat.reduceAdd, Nat.reduceSub, Nat.reduceEqDiff, Nat.reduceLeDiff, Nat.reduceLT, Nat.reduceBEq, Nat.reduceDiv, Nat.reduceMod, Nat.reducePow, Nat.reduceMul, Int.reduceToNat, Int.reduceLT, Int.reduceLE]) | refine And.intro (by omega) ?_ | refine And.intro (by intro hq; (try simp only [Bool.and_eq_true, Bool.or_eq_true, Bool.and_eq_false_iff, Bool.or_eq_false_iff, decide_eq_true_eq, decide_eq_false_iff_not, Bool.not_eq_true', Bool.not_eq_false', beq_iff_eq, beq_eq_false_iff_ne, ne_eq] at hq); omega) ?_ | fail)
  refine W_cond (by rfl) (fun hb => ?_) (fun hb => ?_)
  · rw [bne_iff_ne] at hb
    rw [if_neg hb, if_neg hb]
    repeat' (first | refine WK_go ?_ | refine W_seqL ?_ | refine W_seq ?_ | refine W_block ?_ | refine W_scp ?_ | ((first | refine W_regL ?_ | refine W_skip ?_ | refine W_exit ?_); simp (maxSteps := 400000) (disch := omega) only [push_cast, ↓reduceIte, reduceCtorEq, Nat.reduceAdd, Nat.reduceSub, Nat.reduceEqDiff, Nat.reduceLeDiff, Nat.reduceLT, Nat.reduceBEq, Nat.reduceDiv, Nat.reduceMod, Nat.reducePow, Nat.reduceMul, Int.reduceToNat, Int.reduceLT, Int.reduceLE]) | refine And.intro (by omega) ?_ | refine And.intro (by intro hq; (try simp only [Bool.and_eq_true, Bool.or_eq_true, Bool.and_eq_false_iff, Bool.or_eq_false_iff, decide_eq_true_eq, decide_eq_false_iff_not, Bool.not_eq_true', Bool.not_eq_false', beq_iff_eq, beq_eq_false_iff_ne, ne_eq] at hq); omega) ?_ | fail)
    exact W_ret ⟨[_, _], ⟨⟨by simp, rfl⟩, rfl, rfl⟩, rfl⟩
  · rw [bne_eq_false_iff_eq] at hb
    rw [if_pos hb, if_pos hb]
    repeat' (first | refine WK_go ?_ | refine W_seqL ?_ | refine W_seq ?_ | refine W_block ?_ | refine W_scp ?_ | ((first | refine W_regL ?_ | refine W_skip ?_ | refine W_exit ?_ | refine CallC.now (fn28 f) ?_); simp (maxSteps := 400000) (disch := omega) only [push_cast, ↓reduceIte, reduceCtorEq, Nat.reduceAdd, Nat.reduceSub, Nat.reduceEqDiff, Nat.reduceLeDiff, Nat.reduceLT, Nat.reduceBEq, Nat.reduceDiv, Nat.reduceMod, Nat.reducePow, Nat.reduceMul, Int.reduceToNat, Int.reduceLT, Int.reduceLE]) | refine And.intro (by omega) ?_ | refine And.intro (by intro hq; (try simp only [Bool.and_eq_true, Bool.or_eq_true, Bool.and_eq_false_iff, Bool.or_eq_false_iff, decide_eq_true_eq, decide_eq_false_iff_not, Bool.not_eq_true', Bool.not_eq_false', beq_iff_eq, beq_eq_false_iff_ne, ne_eq] at hq); omega) ?_ | fail)
    refine ⟨rfl, ?_⟩
    exact W_ret ⟨[_, _], ⟨⟨⟨trivial, Nat.le_of_ble_eq_true rfl⟩, rfl⟩, rfl, rfl⟩, rfl⟩
theorem fn113 (m : Mp) (x : Int) : Sy.Fn Try.prog 113 [iv x, .fp (cM m) 0] (bv (!plB m.n x)) := by
  refine Fn_of_W mixed Xt113 rfl ?_
  have e : (decide (x < 0) || decide (m.n ≤ x)) = !plB m.n x := by
    unfold plB
    rw [Bool.eq_iff_iff]
    simp only [Bool.or_eq_true, Bool.not_eq_true', Bool.and_eq_false_iff, decide_eq_true_eq, decide_eq_false_iff_not]
    omega
  rw [← e]
  repeat' (first | refine WK_go ?_ | refine W_seqL ?_ | refine W_seq ?_ | refine W_block ?_ | refine W_scp ?_ | ((first | refine W_regL ?_ | refine W_skip ?_ | refine W_exit ?_); simp (maxSteps := 400000) (disch := omega) only [push_cast, ↓reduceIte, reduceCtorEq, Nat.reduceAdd, Nat.reduceSub, Nat.reduceEqDiff, Nat.reduceLeDiff, Nat.reduceLT, Nat.reduceBEq, Nat.reduceDiv, Nat.reduceMod, Nat.reducePow, Nat.reduceMul, Int.reduceToNat, Int.reduceLT, Int.reduceLE]) | refine And.intro (by omega) ?_ | refine And.intro (by intro hq; (try simp only [Bool.and_eq_true, Bool.or_eq_true, Bool.and_eq_false_iff, Bool.or_eq_false_iff, decide_eq_true_eq, decide_eq_false_iff_not, Bool.not_eq_true', Bool.not_eq_false', beq_iff_eq, beq_eq_false_iff_ne, ne_eq] at hq); omega) ?_ | fail)
  exact W_ret ⟨[_], ⟨rfl, rfl⟩, rfl⟩
def plsB (m : Mp) (l : List Int) : Bool := !(l.any fun x => !plB m.n x)
theorem fn53 (m : Mp) (l : List Int) (hl : l.length ≤ 1000000) : Sy.Fn Try.prog 53 [aM m, aI l] (iv (if plsB m l = true then 0 else 3)) := by
  refine Fn_of_W mixed Xt53 rfl ?_
  have c70 := fn70 l hl 113 [] [.fp (cM m) 0] (fun x => !plB m.n x) (fun x _ => fn113 m x)
  unfold plsB
  repeat' (first | refine WK_go ?_ | refine W_seqL ?_ | refine W_seq ?_ | refine W_block ?_ | refine W_scp ?_ | ((first | refine W_regL ?_ | refine W_skip ?_ | refine W_exit ?_ | refine CallC.now (c70) ?_); simp (maxSteps := 400000) (disch := omega) only [push_cast, ↓reduceIte, reduceCtorEq, Nat.reduceAdd, Nat.reduceSub, Nat.reduceEqDiff, Nat.reduceLeDiff, Nat.reduceLT, Nat.reduceBEq, Nat.reduceDiv, Nat.reduceMod, Nat.reducePow, Nat.reduceMul, Int.reduceToNat, Int.reduceLT, Int.reduceLE]) | refine And.intro (by omega) ?_ | refine And.intro (by intro hq; (try simp only [Bool.and_eq_true, Bool.or_eq_true, Bool.and_eq_false_iff, Bool.or_eq_false_iff, decide_eq_true_eq, decide_eq_false_iff_not, Bool.not_eq_true', Bool.not_eq_false', beq_iff_eq, beq_eq_false_iff_ne, ne_eq] at hq); omega) ?_ | fail)
  cases l.any fun x => !plB m.n x
  · refine W_cond (by rfl) (fun h => by cases h) (fun _ => ?_)
    repeat' (first | refine WK_go ?_ | refine W_seqL ?_ | refine W_seq ?_ | refine W_block ?_ | refine W_scp ?_ | ((first | refine W_regL ?_ | refine W_skip ?_ | refine W_exit ?_); simp (maxSteps := 400000) (disch := omega) only [push_cast, ↓reduceIte, reduceCtorEq, Nat.reduceAdd, Nat.reduceSub, Nat.reduceEqDiff, Nat.reduceLeDiff, Nat.reduceLT, Nat.reduceBEq, Nat.reduceDiv, Nat.reduceMod, Nat.reducePow, Nat.reduceMul, Int.reduceToNat, Int.reduceLT, Int.reduceLE]) | refine And.intro (by omega) ?_ | refine And.intro (by intro hq; (try simp only [Bool.and_eq_true, Bool.or_eq_true, Bool.and_eq_false_iff, Bool.or_eq_false_iff, decide_eq_true_eq, decide_eq_false_iff_not, Bool.not_eq_true', Bool.not_eq_false', beq_iff_eq, beq_eq_false_iff_ne, ne_eq] at hq); omega) ?_ | fail)
    exact W_ret ⟨[_], ⟨rfl, rfl⟩, rfl⟩
  · refine W_cond (by rfl) (fun _ => ?_) (fun h => by cases h)
    repeat' (first | refine WK_go ?_ | refine W_seqL ?_ | refine W_seq ?_ | refine W_block ?_ | refine W_scp ?_ | ((first | refine W_regL ?_ | refine W_skip ?_ | refine W_exit ?_); simp (maxSteps := 400000) (disch := omega) only [push_cast, ↓reduceIte, reduceCtorEq, Nat.reduceAdd, Nat.reduceSub, Nat.reduceEqDiff, Nat.reduceLeDiff, Nat.reduceLT, Nat.reduceBEq, Nat.reduceDiv, Nat.reduceMod, Nat.reducePow, Nat.reduceMul, Int.reduceToNat, Int.reduceLT, Int.reduceLE]) | refine And.intro (by omega) ?_ | refine And.intro (by intro hq; (try simp only [Bool.and_eq_true, Bool.or_eq_true, Bool.and_eq_false_iff, Bool.or_eq_false_iff, decide_eq_true_eq, decide_eq_false_iff_not, Bool.not_eq_true', Bool.not_eq_false', beq_iff_eq, beq_eq_false_iff_ne, ne_eq] at hq); omega) ?_ | fail)
    exact W_ret ⟨[_], ⟨rfl, rfl⟩, rfl⟩
theorem fn119 (m : Mp) (x : Int) : Sy.Fn Try.prog 119 [iv x, .fp (cM m) 0] (bv (!plB m.rs.length x)) := by
  refine Fn_of_W mixed Xt119 rfl ?_
  have e : (decide (x < 0) || decide ((m.rs.length : Int) ≤ x)) = !plB m.rs.length x := by
    unfold plB
    rw [Bool.eq_iff_iff]
    simp only [Bool.or_eq_true, Bool.not_eq_true', Bool.and_eq_false_iff, decide_eq_true_eq, decide_eq_false_iff_not]
    omega
  rw [← e]
  repeat' (first | refine WK_go ?_ | refine W_seqL ?_ | refine W_seq ?_ | refine W_block ?_ | refine W_scp ?_ | ((first | refine W_regL ?_ | refine W_skip ?_ | refine W_exit ?_); simp (maxSteps := 400000) (disch := omega) only [push_cast, ↓reduceIte, reduceCtorEq, Nat.reduceAdd, Nat.reduceSub, Nat.reduceEqDiff, Nat.reduceLeDiff, Nat.reduceLT, Nat.reduceBEq, Nat.reduceDiv, Nat.reduceMod, Nat.reducePow, Nat.reduceMul, Int.reduceToNat, Int.reduceLT, Int.reduceLE]) | refine And.intro (by omega) ?_ | refine And.intro (by intro hq; (try simp only [Bool.and_eq_true, Bool.or_eq_true, Bool.and_eq_false_iff, Bool.or_eq_false_iff, decide_eq_true_eq, decide_eq_false_iff_not, Bool.not_eq_true', Bool.not_eq_false', beq_iff_eq, beq_eq_false_iff_ne, ne_eq] at hq); omega) ?_ | fail)
  exact W_ret ⟨[_], ⟨rfl, rfl⟩, rfl⟩
def rdE (m : Mp) (l : List Int) : Int := if 256 < l.length then 6 else if (l.any fun x => !plB m.rs.length x) = true then 3 else 0
theorem fn68 (m : Mp) (l : List Int) (hl : l.length ≤ 1000000) : Sy.Fn Try.prog 68 [aM m, aI l] (iv (rdE m l)) := by
  refine Fn_of_W mixed Xt68 rfl ?_
  have c70 := fn70 l hl 119 [] [.fp (cM m) 0] (fun x => !plB m.rs.length x) (fun x _ => fn119 m x)
  unfold rdE
  repeat' (first | refine WK_go ?_ | refine W_seqL ?_ | refine W_seq ?_ | refine W_block ?_ | refine W_scp ?_ | ((first | refine W_regL ?_ | refine W_skip ?_ | refine W_exit ?_); simp (maxSteps := 400000) (disch := omega) only [push_cast, ↓reduceIte, reduceCtorEq, Nat.reduceAdd, Nat.reduceSub, Nat.reduceEqDiff, Nat.reduceLeDiff, Nat.reduceLT, Nat.reduceBEq, Nat.reduceDiv, Nat.reduceMod, Nat.reducePow, Nat.reduceMul, Int.reduceToNat, Int.reduceLT, Int.reduceLE]) | refine And.intro (by omega) ?_ | refine And.intro (by intro hq; (try simp only [Bool.and_eq_true, Bool.or_eq_true, Bool.and_eq_false_iff, Bool.or_eq_false_iff, decide_eq_true_eq, decide_eq_false_iff_not, Bool.not_eq_true', Bool.not_eq_false', beq_iff_eq, beq_eq_false_iff_ne, ne_eq] at hq); omega) ?_ | fail)
  refine W_condD (by rfl) (fun h => ?_) (fun h => ?_)
  · rw [if_pos (by omega)]
    repeat' (first | refine WK_go ?_ | refine W_seqL ?_ | refine W_seq ?_ | refine W_block ?_ | refine W_scp ?_ | ((first | refine W_regL ?_ | refine W_skip ?_ | refine W_exit ?_); simp (maxSteps := 400000) (disch := omega) only [push_cast, ↓reduceIte, reduceCtorEq, Nat.reduceAdd, Nat.reduceSub, Nat.reduceEqDiff, Nat.reduceLeDiff, Nat.reduceLT, Nat.reduceBEq, Nat.reduceDiv, Nat.reduceMod, Nat.reducePow, Nat.reduceMul, Int.reduceToNat, Int.reduceLT, Int.reduceLE]) | refine And.intro (by omega) ?_ | refine And.intro (by intro hq; (try simp only [Bool.and_eq_true, Bool.or_eq_true, Bool.and_eq_false_iff, Bool.or_eq_false_iff, decide_eq_true_eq, decide_eq_false_iff_not, Bool.not_eq_true', Bool.not_eq_false', beq_iff_eq, beq_eq_false_iff_ne, ne_eq] at hq); omega) ?_ | fail)
    exact W_ret ⟨[_], ⟨rfl, rfl⟩, rfl⟩
  rw [if_neg (by omega)]
  repeat' (first | refine WK_go ?_ | refine W_seqL ?_ | refine W_seq ?_ | refine W_block ?_ | refine W_scp ?_ | ((first | refine W_regL ?_ | refine W_skip ?_ | refine W_exit ?_ | refine CallC.now (c70) ?_); simp (maxSteps := 400000) (disch := omega) only [push_cast, ↓reduceIte, reduceCtorEq, Nat.reduceAdd, Nat.reduceSub, Nat.reduceEqDiff, Nat.reduceLeDiff, Nat.reduceLT, Nat.reduceBEq, Nat.reduceDiv, Nat.reduceMod, Nat.reducePow, Nat.reduceMul, Int.reduceToNat, Int.reduceLT, Int.reduceLE]) | refine And.intro (by omega) ?_ | refine And.intro (by intro hq; (try simp only [Bool.and_eq_true, Bool.or_eq_true, Bool.and_eq_false_iff, Bool.or_eq_false_iff, decide_eq_true_eq, decide_eq_false_iff_not, Bool.not_eq_true', Bool.not_eq_false', beq_iff_eq, beq_eq_false_iff_ne, ne_eq] at hq); omega) ?_ | fail)
  cases l.any fun x => !plB m.rs.length x
  · refine W_cond (by rfl) (fun h => by cases h) (fun _ => ?_)
    repeat' (first | refine WK_go ?_ | refine W_seqL ?_ | refine W_seq ?_ | refine W_block ?_ | refine W_scp ?_ | ((first | refine W_regL ?_ | refine W_skip ?_ | refine W_exit ?_); simp (maxSteps := 400000) (disch := omega) only [push_cast, ↓reduceIte, reduceCtorEq, Nat.reduceAdd, Nat.reduceSub, Nat.reduceEqDiff, Nat.reduceLeDiff, Nat.reduceLT, Nat.reduceBEq, Nat.reduceDiv, Nat.reduceMod, Nat.reducePow, Nat.reduceMul, Int.reduceToNat, Int.reduceLT, Int.reduceLE]) | refine And.intro (by omega) ?_ | refine And.intro (by intro hq; (try simp only [Bool.and_eq_true, Bool.or_eq_true, Bool.and_eq_false_iff, Bool.or_eq_false_iff, decide_eq_true_eq, decide_eq_false_iff_not, Bool.not_eq_true', Bool.not_eq_false', beq_iff_eq, beq_eq_false_iff_ne, ne_eq] at hq); omega) ?_ | fail)
    exact W_ret ⟨[_], ⟨rfl, rfl⟩, rfl⟩
  · refine W_cond (by rfl) (fun _ => ?_) (fun h => by cases h)
    repeat' (first | refine WK_go ?_ | refine W_seqL ?_ | refine W_seq ?_ | refine W_block ?_ | refine W_scp ?_ | ((first | refine W_regL ?_ | refine W_skip ?_ | refine W_exit ?_); simp (maxSteps := 400000) (disch := omega) only [push_cast, ↓reduceIte, reduceCtorEq, Nat.reduceAdd, Nat.reduceSub, Nat.reduceEqDiff, Nat.reduceLeDiff, Nat.reduceLT, Nat.reduceBEq, Nat.reduceDiv, Nat.reduceMod, Nat.reducePow, Nat.reduceMul, Int.reduceToNat, Int.reduceLT, Int.reduceLE]) | refine And.intro (by omega) ?_ | refine And.intro (by intro hq; (try simp only [Bool.and_eq_true, Bool.or_eq_true, Bool.and_eq_false_iff, Bool.or_eq_false_iff, decide_eq_true_eq, decide_eq_false_iff_not, Bool.not_eq_true', Bool.not_eq_false', beq_iff_eq, beq_eq_false_iff_ne, ne_eq] at hq); omega) ?_ | fail)
    exact W_ret ⟨[_], ⟨rfl, rfl⟩, rfl⟩
theorem fn90 (m : Mp) (x : Int) : Sy.Fn Try.prog 90 [aM m, iv x] (bv (plB m.n x)) := by
  refine Fn_of_W mixed Xt90 rfl ?_
  repeat' (first | refine WK_go ?_ | refine W_seqL ?_ | refine W_seq ?_ | refine W_block ?_ | refine W_scp ?_ | ((first | refine W_regL ?_ | refine W_skip ?_ | refine W_exit ?_); simp (maxSteps := 400000) (disch := omega) only [push_cast, ↓reduceIte, reduceCtorEq, Nat.reduceAdd, Nat.reduceSub, Nat.reduceEqDiff, Nat.reduceLeDiff, Nat.reduceLT, Nat.reduceBEq, Nat.reduceDiv, Nat.reduceMod, Nat.reducePow, Nat.reduceMul, Int.reduceToNat, Int.reduceLT, Int.reduceLE]) | refine And.intro (by omega) ?_ | refine And.intro (by intro hq; (try simp only [Bool.and_eq_true, Bool.or_eq_true, Bool.and_eq_false_iff, Bool.or_eq_false_iff, decide_eq_true_eq, decide_eq_false_iff_not, Bool.not_eq_true', Bool.not_eq_false', beq_iff_eq, beq_eq_false_iff_ne, ne_eq] at hq); omega) ?_ | fail)
  exact W_ret ⟨[_], ⟨rfl, rfl⟩, rfl⟩
theorem fn78 (m : Mp) (f : Nat → Int) (h : Gm m) : Sy.Fn Try.prog 78 [aM m, .agg (c6 f)] (iv (opE m f)) := by
  refine Fn_of_W mixed Xt78 rfl ?_
  unfold opE
  repeat' (first | refine WK_go ?_ | refine W_seqL ?_ | refine W_seq ?_ | refine W_block ?_ | refine W_scp ?_ | ((first | refine W_regL ?_ | refine W_skip ?_ | refine W_exit ?_ | refine CallC.now (fn16 m h) ?_); simp (maxSteps := 400000) (disch := omega) only [push_cast, ↓reduceIte, reduceCtorEq, Nat.reduceAdd, Nat.reduceSub, Nat.reduceEqDiff, Nat.reduceLeDiff, Nat.reduceLT, Nat.reduceBEq, Nat.reduceDiv, Nat.reduceMod, Nat.reducePow, Nat.reduceMul, Int.reduceToNat, Int.reduceLT, Int.reduceLE]) | refine And.intro (by omega) ?_ | refine And.intro (by intro hq; (try simp only [Bool.and_eq_true, Bool.or_eq_true, Bool.and_eq_false_iff, Bool.or_eq_false_iff, decide_eq_true_eq, decide_eq_false_iff_not, Bool.not_eq_true', Bool.not_eq_false', beq_iff_eq, beq_eq_false_iff_ne, ne_eq] at hq); omega) ?_ | fail)
  refine W_cond (by rfl) (fun hb => ?_) (fun hb => ?_)
  · rw [bne_iff_ne] at hb
    rw [if_neg hb]
    repeat' (first | refine WK_go ?_ | refine W_seqL ?_ | refine W_seq ?_ | refine W_block ?_ | refine W_scp ?_ | ((first | refine W_regL ?_ | refine W_skip ?_ | refine W_exit ?_); simp (maxSteps := 400000) (disch := omega) only [push_cast, ↓reduceIte, reduceCtorEq, Nat.reduceAdd, Nat.reduceSub, Nat.reduceEqDiff, Nat.reduceLeDiff, Nat.reduceLT, Nat.reduceBEq, Nat.reduceDiv, Nat.reduceMod, Nat.reducePow, Nat.reduceMul, Int.reduceToNat, Int.reduceLT, Int.reduceLE]) | refine And.intro (by omega) ?_ | refine And.intro (by intro hq; (try simp only [Bool.and_eq_true, Bool.or_eq_true, Bool.and_eq_false_iff, Bool.or_eq_false_iff, decide_eq_true_eq, decide_eq_false_iff_not, Bool.not_eq_true', Bool.not_eq_false', beq_iff_eq, beq_eq_false_iff_ne, ne_eq] at hq); omega) ?_ | fail)
    exact W_ret ⟨[_], ⟨rfl, rfl⟩, rfl⟩
  · rw [bne_eq_false_iff_eq] at hb
    rw [if_pos hb]
    repeat' (first | refine WK_go ?_ | refine W_seqL ?_ | refine W_seq ?_ | refine W_block ?_ | refine W_scp ?_ | ((first | refine W_regL ?_ | refine W_skip ?_ | refine W_exit ?_ | refine CallC.now (fn29 f) ?_); simp (maxSteps := 400000) (disch := omega) only [push_cast, ↓reduceIte, reduceCtorEq, Nat.reduceAdd, Nat.reduceSub, Nat.reduceEqDiff, Nat.reduceLeDiff, Nat.reduceLT, Nat.reduceBEq, Nat.reduceDiv, Nat.reduceMod, Nat.reducePow, Nat.reduceMul, Int.reduceToNat, Int.reduceLT, Int.reduceLE]) | refine And.intro (by omega) ?_ | refine And.intro (by intro hq; (try simp only [Bool.and_eq_true, Bool.or_eq_true, Bool.and_eq_false_iff, Bool.or_eq_false_iff, decide_eq_true_eq, decide_eq_false_iff_not, Bool.not_eq_true', Bool.not_eq_false', beq_iff_eq, beq_eq_false_iff_ne, ne_eq] at hq); omega) ?_ | fail)
    exact W_ret ⟨[_], ⟨rfl, rfl⟩, rfl⟩
def greatB (m : Mp) : Bool := decide (300 < m.rs.length) || decide (20 < m.ws.length) || (m.ws.any fun w => decide (40 < w.rs.length)) || (chkM m == 0 && (decide (12 < m.n) || decide (30 < m.rs.length) || decide (5 < m.ws.length)))
theorem great_no {m : Mp} (h : greatB m = false) : Gm m ∧ (chkM m = 0 → m.n ≤ 12 ∧ m.rs.length ≤ 30 ∧ m.ws.length ≤ 5) := by
  unfold greatB at h
  simp only [Bool.or_eq_false_iff, Bool.and_eq_false_iff, decide_eq_false_iff_not, beq_eq_false_iff_ne] at h
  obtain ⟨⟨⟨h1, h2⟩, h3⟩, h4⟩ := h
  refine ⟨⟨by omega, by omega, fun w hw => ?_⟩, fun q => ?_⟩
  · have := List.any_eq_false.1 h3 w hw
    simp only [decide_eq_true_eq] at this
    omega
  · rcases h4 with h4 | h4
    · exact absurd q h4
    · omega
theorem fn25 (m : Mp) (hr : m.rs.length ≤ 140737488355328) (hw : m.ws.length ≤ 140737488355328) (hs : ∀ w ∈ m.ws, w.rs.length ≤ 140737488355328) : Sy.Fn Try.prog 25 [aM m] (bv (greatB m)) := by
  refine Fn_of_W mixed Xt25 rfl ?_
  repeat' (first | refine WK_go ?_ | refine W_seqL ?_ | refine W_seq ?_ | refine W_block ?_ | refine W_scp ?_ | ((first | refine W_regL ?_ | refine W_skip ?_ | refine W_exit ?_); simp (maxSteps := 400000) (disch := omega) only [push_cast, ↓reduceIte, reduceCtorEq, Nat.reduceAdd, Nat.reduceSub, Nat.reduceEqDiff, Nat.reduceLeDiff, Nat.reduceLT, Nat.reduceBEq, Nat.reduceDiv, Nat.reduceMod, Nat.reducePow, Nat.reduceMul, Int.reduceToNat, Int.reduceLT, Int.reduceLE]) | refine And.intro (by omega) ?_ | refine And.intro (by intro hq; (try simp only [Bool.and_eq_true, Bool.or_eq_true, Bool.and_eq_false_iff, Bool.or_eq_false_iff, decide_eq_true_eq, decide_eq_false_iff_not, Bool.not_eq_true', Bool.not_eq_false', beq_iff_eq, beq_eq_false_iff_ne, ne_eq] at hq); omega) ?_ | fail)
  refine W_cond (by rfl) (fun hb => ?_) (fun hb => ?_)
  · have e : greatB m = true := by
      unfold greatB
      simp only [Bool.or_eq_true, decide_eq_true_eq] at hb ⊢
      omega
    rw [e]
    repeat' (first | refine WK_go ?_ | refine W_seqL ?_ | refine W_seq ?_ | refine W_block ?_ | refine W_scp ?_ | ((first | refine W_regL ?_ | refine W_skip ?_ | refine W_exit ?_); simp (maxSteps := 400000) (disch := omega) only [push_cast, ↓reduceIte, reduceCtorEq, Nat.reduceAdd, Nat.reduceSub, Nat.reduceEqDiff, Nat.reduceLeDiff, Nat.reduceLT, Nat.reduceBEq, Nat.reduceDiv, Nat.reduceMod, Nat.reducePow, Nat.reduceMul, Int.reduceToNat, Int.reduceLT, Int.reduceLE]) | refine And.intro (by omega) ?_ | refine And.intro (by intro hq; (try simp only [Bool.and_eq_true, Bool.or_eq_true, Bool.and_eq_false_iff, Bool.or_eq_false_iff, decide_eq_true_eq, decide_eq_false_iff_not, Bool.not_eq_true', Bool.not_eq_false', beq_iff_eq, beq_eq_false_iff_ne, ne_eq] at hq); omega) ?_ | fail)
    exact W_ret ⟨[_], ⟨rfl, rfl⟩, rfl⟩
  simp only [Bool.or_eq_false_iff, decide_eq_false_iff_not] at hb
  repeat' (first | refine WK_go ?_ | refine W_seqL ?_ | refine W_seq ?_ | refine W_block ?_ | refine W_scp ?_ | ((first | refine W_regL ?_ | refine W_skip ?_ | refine W_exit ?_); simp (maxSteps := 400000) (disch := omega) only [push_cast, ↓reduceIte, reduceCtorEq, Nat.reduceAdd, Nat.reduceSub, Nat.reduceEqDiff, Nat.reduceLeDiff, Nat.reduceLT, Nat.reduceBEq, Nat.reduceDiv, Nat.reduceMod, Nat.reducePow, Nat.reduceMul, Int.reduceToNat, Int.reduceLT, Int.reduceLE]) | refine And.intro (by omega) ?_ | refine And.intro (by intro hq; (try simp only [Bool.and_eq_true, Bool.or_eq_true, Bool.and_eq_false_iff, Bool.or_eq_false_iff, decide_eq_true_eq, decide_eq_false_iff_not, Bool.not_eq_true', Bool.not_eq_false', beq_iff_eq, beq_eq_false_iff_ne, ne_eq] at hq); omega) ?_ | fail)
  refine W_loopU (fun i : Nat => [(3, iv i)]) (fun i => []) (fun i => i ≤ m.ws.length ∧ ∀ j, j < i → decide (40 < (gw m j).rs.length) = false) (fun i => m.ws.length - i) 0 ⟨by omega, fun j hj => by omega⟩ (by rfl) (by rfl) (fun i hi => ?_)
  obtain ⟨hi, hp⟩ := hi
  simp (maxSteps := 400000) (disch := omega) only [push_cast, ↓reduceIte, reduceCtorEq, Nat.reduceAdd, Nat.reduceSub, Nat.reduceEqDiff, Nat.reduceLeDiff, Nat.reduceLT, Nat.reduceBEq, Nat.reduceDiv, Nat.reduceMod, Nat.reducePow, Nat.reduceMul, Int.reduceToNat, Int.reduceLT, Int.reduceLE]
  repeat' (first | refine WK_go ?_ | refine W_seqL ?_ | refine W_seq ?_ | refine W_block ?_ | refine W_scp ?_ | ((first | refine W_regL ?_ | refine W_skip ?_ | refine W_exit ?_); simp (maxSteps := 400000) (disch := omega) only [push_cast, ↓reduceIte, reduceCtorEq, Nat.reduceAdd, Nat.reduceSub, Nat.reduceEqDiff, Nat.reduceLeDiff, Nat.reduceLT, Nat.reduceBEq, Nat.reduceDiv, Nat.reduceMod, Nat.reducePow, Nat.reduceMul, Int.reduceToNat, Int.reduceLT, Int.reduceLE]) | refine And.intro (by omega) ?_ | refine And.intro (by intro hq; (try simp only [Bool.and_eq_true, Bool.or_eq_true, Bool.and_eq_false_iff, Bool.or_eq_false_iff, decide_eq_true_eq, decide_eq_false_iff_not, Bool.not_eq_true', Bool.not_eq_false', beq_iff_eq, beq_eq_false_iff_ne, ne_eq] at hq); omega) ?_ | fail)
  refine W_condD (by rfl) (fun h5 => ?_) (fun h5 => ?_)
  · have hlt : i < m.ws.length := by omega
    have hgw : m.ws.getD i dW = gw m i := rfl
    have hgl : (gw m i).rs.length = (m.ws.getD i dW).rs.length := rfl
    repeat' (first | refine WK_go ?_ | refine W_seqL ?_ | refine W_seq ?_ | refine W_block ?_ | refine W_scp ?_ | ((first | refine W_regL ?_ | refine W_skip ?_ | refine W_exit ?_); simp (maxSteps := 400000) (disch := omega) only [push_cast, ↓reduceIte, reduceCtorEq, Nat.reduceAdd, Nat.reduceSub, Nat.reduceEqDiff, Nat.reduceLeDiff, Nat.reduceLT, Nat.reduceBEq, Nat.reduceDiv, Nat.reduceMod, Nat.reducePow, Nat.reduceMul, Int.reduceToNat, Int.reduceLT, Int.reduceLE, hgw]) | refine And.intro (by omega) ?_ | refine And.intro (by intro hq; (try simp only [Bool.and_eq_true, Bool.or_eq_true, Bool.and_eq_false_iff, Bool.or_eq_false_iff, decide_eq_true_eq, decide_eq_false_iff_not, Bool.not_eq_true', Bool.not_eq_false', beq_iff_eq, beq_eq_false_iff_ne, ne_eq] at hq); omega) ?_ | fail)
    refine W_condD (by rfl) (fun h6 => ?_) (fun h6 => ?_)
    · have e : greatB m = true := by
        unfold greatB
        rw [any_yes dW hlt (decide_eq_true (by omega))]
        simp
      rw [e]
      repeat' (first | refine WK_go ?_ | refine W_seqL ?_ | refine W_seq ?_ | refine W_block ?_ | refine W_scp ?_ | ((first | refine W_regL ?_ | refine W_skip ?_ | refine W_exit ?_); simp (maxSteps := 400000) (disch := omega) only [push_cast, ↓reduceIte, reduceCtorEq, Nat.reduceAdd, Nat.reduceSub, Nat.reduceEqDiff, Nat.reduceLeDiff, Nat.reduceLT, Nat.reduceBEq, Nat.reduceDiv, Nat.reduceMod, Nat.reducePow, Nat.reduceMul, Int.reduceToNat, Int.reduceLT, Int.reduceLE]) | refine And.intro (by omega) ?_ | refine And.intro (by intro hq; (try simp only [Bool.and_eq_true, Bool.or_eq_true, Bool.and_eq_false_iff, Bool.or_eq_false_iff, decide_eq_true_eq, decide_eq_false_iff_not, Bool.not_eq_true', Bool.not_eq_false', beq_iff_eq, beq_eq_false_iff_ne, ne_eq] at hq); omega) ?_ | fail)
      exact W_ret ⟨[_], ⟨rfl, rfl⟩, rfl⟩
    · repeat' (first | refine WK_go ?_ | refine W_seqL ?_ | refine W_seq ?_ | refine W_block ?_ | refine W_scp ?_ | ((first | refine W_regL ?_ | refine W_skip ?_ | refine W_exit ?_); simp (maxSteps := 400000) (disch := omega) only [push_cast, ↓reduceIte, reduceCtorEq, Nat.reduceAdd, Nat.reduceSub, Nat.reduceEqDiff, Nat.reduceLeDiff, Nat.reduceLT, Nat.reduceBEq, Nat.reduceDiv, Nat.reduceMod, Nat.reducePow, Nat.reduceMul, Int.reduceToNat, Int.reduceLT, Int.reduceLE]) | refine And.intro (by omega) ?_ | refine And.intro (by intro hq; (try simp only [Bool.and_eq_true, Bool.or_eq_true, Bool.and_eq_false_iff, Bool.or_eq_false_iff, decide_eq_true_eq, decide_eq_false_iff_not, Bool.not_eq_true', Bool.not_eq_false', beq_iff_eq, beq_eq_false_iff_ne, ne_eq] at hq); omega) ?_ | fail)
      refine ⟨i + 1, ⟨by omega, up_all hp (decide_eq_false (by omega))⟩, by omega, by rfl, ?_⟩
      simp (maxSteps := 400000) (disch := omega) only [push_cast, ↓reduceIte, reduceCtorEq, Nat.reduceAdd, Nat.reduceSub, Nat.reduceEqDiff, Nat.reduceLeDiff, Nat.reduceLT, Nat.reduceBEq, Nat.reduceDiv, Nat.reduceMod, Nat.reducePow, Nat.reduceMul, Int.reduceToNat, Int.reduceLT, Int.reduceLE, S.mk.injEq, List.cons.injEq, Prod.mk.injEq, AV.v.injEq, Value.int.injEq, Value.bool.injEq, Blk.cells.injEq]
  have ha : (m.ws.any fun w => decide (40 < w.rs.length)) = false := any_no dW (fun j hj => hp j (by omega))
  have hg : Gm m := ⟨by omega, by omega, fun w hw => by
    have := List.any_eq_false.1 ha w hw
    simp only [decide_eq_true_eq] at this
    omega⟩
  have e : greatB m = (chkM m == 0 && (decide (12 < m.n) || decide ((30 : Int) < (m.rs.length : Int)) || decide ((5 : Int) < (m.ws.length : Int)))) := by
    unfold greatB
    rw [ha, decide_eq_false (show ¬ 300 < m.rs.length by omega), decide_eq_false (show ¬ 20 < m.ws.length by omega)]
    have e1 : decide ((30 : Int) < (m.rs.length : Int)) = decide (30 < m.rs.length) := by rw [Bool.eq_iff_iff, decide_eq_true_eq, decide_eq_true_eq]; omega
    have e2 : decide ((5 : Int) < (m.ws.length : Int)) = decide (5 < m.ws.length) := by rw [Bool.eq_iff_iff, decide_eq_true_eq, decide_eq_true_eq]; omega
    rw [e1, e2]
    simp
  rw [e]
  repeat' (first | refine WK_go ?_ | refine W_seqL ?_ | refine W_seq ?_ | refine W_block ?_ | refine W_scp ?_ | ((first | refine W_regL ?_ | refine W_skip ?_ | refine W_exit ?_ | refine CallC.now (fn16 m hg) ?_); simp (maxSteps := 400000) (disch := omega) only [push_cast, ↓reduceIte, reduceCtorEq, Nat.reduceAdd, Nat.reduceSub, Nat.reduceEqDiff, Nat.reduceLeDiff, Nat.reduceLT, Nat.reduceBEq, Nat.reduceDiv, Nat.reduceMod, Nat.reducePow, Nat.reduceMul, Int.reduceToNat, Int.reduceLT, Int.reduceLE]) | refine And.intro (by omega) ?_ | refine And.intro (by intro hq; (try simp only [Bool.and_eq_true, Bool.or_eq_true, Bool.and_eq_false_iff, Bool.or_eq_false_iff, decide_eq_true_eq, decide_eq_false_iff_not, Bool.not_eq_true', Bool.not_eq_false', beq_iff_eq, beq_eq_false_iff_ne, ne_eq] at hq); omega) ?_ | fail)
  exact W_ret ⟨[_], ⟨rfl, rfl⟩, rfl⟩
end Go.Proofs.Ytfbdlmenhoagmaa

namespace Go.Proofs.Ytfbdlmenhoagmaa
open Go Sy
set_option maxRecDepth 100000
set_option maxHeartbeats 4000000
set_option linter.unusedVariables false
set_option linter.unusedSimpArgs false
theorem fn61 (s : Nat) : Sy.Fn Try.prog 61 [uv s] (.clo 118 [] [.fp [uv s] 0]) := by
  refine Fn_of_W mixed Xt61 rfl ?_
  repeat' (first | refine WK_go ?_ | refine W_seqL ?_ | refine W_seq ?_ | refine W_block ?_ | refine W_scp ?_ | ((first | refine W_regL ?_ | refine W_skip ?_ | refine W_exit ?_); simp (maxSteps := 400000) (disch := omega) only [push_cast, ↓reduceIte, reduceCtorEq, Nat.reduceAdd, Nat.reduceSub, Nat.reduceEqDiff, Nat.reduceLeDiff, Nat.reduceLT, Nat.reduceBEq, Nat.reduceDiv, Nat.reduceMod, Nat.reducePow, Nat.reduceMul, Int.reduceToNat, Int.reduceLT, Int.reduceLE]) | refine And.intro (by omega) ?_ | refine And.intro (by intro hq; (try simp only [Bool.and_eq_true, Bool.or_eq_true, Bool.and_eq_false_iff, Bool.or_eq_false_iff, decide_eq_true_eq, decide_eq_false_iff_not, Bool.not_eq_true', Bool.not_eq_false', beq_iff_eq, beq_eq_false_iff_ne, ne_eq] at hq); omega) ?_ | fail)
  exact W_ret ⟨[_], ⟨rfl, rfl⟩, rfl⟩
theorem shrS (s : Nat) {i : Nat} (hi : i ≤ 64) : (s : Int).fdiv (2 ^ min i IntKind.u64.bits) = ((s / 2 ^ i : Nat) : Int) := by
  have e : min i IntKind.u64.bits = i := Nat.min_eq_left hi
  rw [e, Int.fdiv_eq_ediv_of_nonneg _ (Int.pow_nonneg (by omega))]
  rw [Int.natCast_ediv, Int.natCast_pow]
  rfl
theorem andS (x : Nat) (hx : x < 18446744073709551616) : bits .and .u64 (x : Int) 1 = ((x % 2 : Nat) : Int) := by
  have h := bits_and_u64_nat x 1 hx (by omega)
  rw [Nat.and_one_is_mod] at h
  exact h
theorem div_lt64 {s : Nat} (h : s < 1024) (i : Nat) : s / 2 ^ i < 18446744073709551616 := by
  have := Nat.div_le_self s (2 ^ i)
  omega
theorem pre_mem {l : List Int} {i : Nat} {x : Int} (h : x ∈ pre l i) : x ∈ l := by
  unfold pre at h
  exact (List.mem_filter.1 h).1
structure SetW (m : Mp) (l : List Int) (s : Nat) : Prop where
  b : BitsOf s l
  s : Srt m.ws.length 0 l
theorem fn59 (m : Mp) (f : Nat → Int) (l : List Int) (s : Nat) (h : OkM m) (hs : SetW m l s) : Sy.Fn Try.prog 59 [aAt m f, uv s] (iv (costL m l)) := by
  refine Fn_of_W mixed Xt59 rfl ?_
  have hw := h.nw
  have hlt := bits_lt hs.b (fun x hx => (hs.s.mem x hx).2)
  repeat' (first | refine WK_go ?_ | refine W_seqL ?_ | refine W_seq ?_ | refine W_block ?_ | refine W_scp ?_ | ((first | refine W_regL ?_ | refine W_skip ?_ | refine W_exit ?_ | refine CallC.now (fn61 s) ?_); simp (maxSteps := 400000) (disch := omega) only [push_cast, ↓reduceIte, reduceCtorEq, Nat.reduceAdd, Nat.reduceSub, Nat.reduceEqDiff, Nat.reduceLeDiff, Nat.reduceLT, Nat.reduceBEq, Nat.reduceDiv, Nat.reduceMod, Nat.reducePow, Nat.reduceMul, Int.reduceToNat, Int.reduceLT, Int.reduceLE]) | refine And.intro (by omega) ?_ | refine And.intro (by intro hq; (try simp only [Bool.and_eq_true, Bool.or_eq_true, Bool.and_eq_false_iff, Bool.or_eq_false_iff, decide_eq_true_eq, decide_eq_false_iff_not, Bool.not_eq_true', Bool.not_eq_false', beq_iff_eq, beq_eq_false_iff_ne, ne_eq] at hq); omega) ?_ | fail)
  refine W_rfn (.inl rfl) (fun lp R hR => Inl_of_W mixed Xt118 rfl (fun vs => ?_))
  simp (maxSteps := 400000) (disch := omega) only [push_cast, ↓reduceIte, reduceCtorEq, Nat.reduceAdd, Nat.reduceSub, Nat.reduceEqDiff, Nat.reduceLeDiff, Nat.reduceLT, Nat.reduceBEq, Nat.reduceDiv, Nat.reduceMod, Nat.reducePow, Nat.reduceMul, Int.reduceToNat, Int.reduceLT, Int.reduceLE]
  repeat' (first | refine WK_go ?_ | refine W_seqL ?_ | refine W_seq ?_ | refine W_block ?_ | refine W_scp ?_ | ((first | refine W_regL ?_ | refine W_skip ?_ | refine W_exit ?_); simp (maxSteps := 400000) (disch := omega) only [push_cast, ↓reduceIte, reduceCtorEq, Nat.reduceAdd, Nat.reduceSub, Nat.reduceEqDiff, Nat.reduceLeDiff, Nat.reduceLT, Nat.reduceBEq, Nat.reduceDiv, Nat.reduceMod, Nat.reducePow, Nat.reduceMul, Int.reduceToNat, Int.reduceLT, Int.reduceLE]) | refine And.intro (by omega) ?_ | refine And.intro (by intro hq; (try simp only [Bool.and_eq_true, Bool.or_eq_true, Bool.and_eq_false_iff, Bool.or_eq_false_iff, decide_eq_true_eq, decide_eq_false_iff_not, Bool.not_eq_true', Bool.not_eq_false', beq_iff_eq, beq_eq_false_iff_ne, ne_eq] at hq); omega) ?_ | fail)
  refine W_loopU (fun i : Nat => [(3, iv i)]) (fun i => [(2, .cells [iv (costL m (pre l i))])]) (fun i => i ≤ 10) (fun i => 11 - i) 0 (by omega) (by rfl) (by rw [pre_zero hs.s]; rfl) (fun i hi => ?_)
  have hs1 : s < 1024 := by
    have := bits_lt (n := 10) hs.b (fun x hx => by have := (hs.s.mem x hx).2; omega)
    simpa using this
  obtain ⟨q, hq⟩ : ∃ q, q = s / 2 ^ i := ⟨_, rfl⟩
  have e1 := shrS s (i := i) (by omega)
  have e2 := andS (s / 2 ^ i) (div_lt64 hs1 i)
  rw [bits_shr hs.b i] at e2
  rw [← hq] at e1 e2
  have e4 := pre_succ (i := i) hs.s
  simp (maxSteps := 400000) (disch := omega) only [push_cast, ↓reduceIte, reduceCtorEq, Nat.reduceAdd, Nat.reduceSub, Nat.reduceEqDiff, Nat.reduceLeDiff, Nat.reduceLT, Nat.reduceBEq, Nat.reduceDiv, Nat.reduceMod, Nat.reducePow, Nat.reduceMul, Int.reduceToNat, Int.reduceLT, Int.reduceLE]
  repeat' (first | refine WK_go ?_ | refine W_seqL ?_ | refine W_seq ?_ | refine W_block ?_ | refine W_scp ?_ | ((first | refine W_regL ?_ | refine W_skip ?_ | refine W_exit ?_); simp (maxSteps := 400000) (disch := omega) only [push_cast, ↓reduceIte, reduceCtorEq, Nat.reduceAdd, Nat.reduceSub, Nat.reduceEqDiff, Nat.reduceLeDiff, Nat.reduceLT, Nat.reduceBEq, Nat.reduceDiv, Nat.reduceMod, Nat.reducePow, Nat.reduceMul, Int.reduceToNat, Int.reduceLT, Int.reduceLE, e1]) | refine And.intro (by omega) ?_ | refine And.intro (by intro hq; (try simp only [Bool.and_eq_true, Bool.or_eq_true, Bool.and_eq_false_iff, Bool.or_eq_false_iff, decide_eq_true_eq, decide_eq_false_iff_not, Bool.not_eq_true', Bool.not_eq_false', beq_iff_eq, beq_eq_false_iff_ne, ne_eq] at hq); omega) ?_ | fail)
  refine W_cond (by rfl) (fun hb => ?_) (fun hb => ?_)
  · have hi10 : i < 10 := bits_more hs.b (by rw [← hq]; intro z; rw [z] at hb; simp at hb) (fun x hx => by have := (hs.s.mem x hx).2; omega)
    by_cases hm : (i : Int) ∈ l
    · rw [if_pos hm] at e2 e4
      have e2 : bits .and .u64 (q : Int) 1 = 1 := e2
      have hir := hs.s.mem _ hm
      have ec : costL m (pre l (i + 1)) = costL m (pre l i) + (gw m i).c := by rw [e4, costL_snoc]; rfl
      have hcr := costL_rng h (l := pre l i) (fun x hx => hs.s.mem x (pre_mem hx))
      have hlen : (pre l i).length ≤ 10 := by
        have h1 := hs.s.len (by omega)
        have h2 := List.length_filter_le (fun x => decide (x < (i : Int))) l
        unfold pre
        omega
      have hwc := (workB_ok (h.w i (by omega))).c
      have hgw : m.ws.getD i dW = gw m i := rfl
      generalize costL m (pre l i) = C at *
      repeat' (first | refine WK_go ?_ | refine W_seqL ?_ | refine W_seq ?_ | refine W_block ?_ | refine W_scp ?_ | ((first | refine W_regL ?_ | refine W_skip ?_ | refine W_exit ?_); simp (maxSteps := 400000) (disch := omega) only [push_cast, ↓reduceIte, reduceCtorEq, Nat.reduceAdd, Nat.reduceSub, Nat.reduceEqDiff, Nat.reduceLeDiff, Nat.reduceLT, Nat.reduceBEq, Nat.reduceDiv, Nat.reduceMod, Nat.reducePow, Nat.reduceMul, Int.reduceToNat, Int.reduceLT, Int.reduceLE, e1, e2]) | refine And.intro (by omega) ?_ | refine And.intro (by intro hq; (try simp only [Bool.and_eq_true, Bool.or_eq_true, Bool.and_eq_false_iff, Bool.or_eq_false_iff, decide_eq_true_eq, decide_eq_false_iff_not, Bool.not_eq_true', Bool.not_eq_false', beq_iff_eq, beq_eq_false_iff_ne, ne_eq] at hq); omega) ?_ | fail)
      refine StopC.yld (fun hpc => ⟨trivial, Yl_of_W (k := 6) mixed hR rfl rfl rfl (fun vs2 => ?_)⟩) (fun hpc => absurd (by simp [pc]) hpc)
      simp (maxSteps := 400000) (disch := omega) only [push_cast, ↓reduceIte, reduceCtorEq, Nat.reduceAdd, Nat.reduceSub, Nat.reduceEqDiff, Nat.reduceLeDiff, Nat.reduceLT, Nat.reduceBEq, Nat.reduceDiv, Nat.reduceMod, Nat.reducePow, Nat.reduceMul, Int.reduceToNat, Int.reduceLT, Int.reduceLE]
      repeat' (first | refine WK_go ?_ | refine W_seqL ?_ | refine W_seq ?_ | refine W_block ?_ | refine W_scp ?_ | ((first | refine W_regL ?_ | refine W_skip ?_ | refine W_exit ?_); simp (maxSteps := 400000) (disch := omega) only [push_cast, ↓reduceIte, reduceCtorEq, Nat.reduceAdd, Nat.reduceSub, Nat.reduceEqDiff, Nat.reduceLeDiff, Nat.reduceLT, Nat.reduceBEq, Nat.reduceDiv, Nat.reduceMod, Nat.reducePow, Nat.reduceMul, Int.reduceToNat, Int.reduceLT, Int.reduceLE]) | refine And.intro (by omega) ?_ | refine And.intro (by intro hq; (try simp only [Bool.and_eq_true, Bool.or_eq_true, Bool.and_eq_false_iff, Bool.or_eq_false_iff, decide_eq_true_eq, decide_eq_false_iff_not, Bool.not_eq_true', Bool.not_eq_false', beq_iff_eq, beq_eq_false_iff_ne, ne_eq] at hq); omega) ?_ | fail)
      refine ⟨_, rfl, ?_⟩
      simp (maxSteps := 400000) (disch := omega) only [push_cast, ↓reduceIte, reduceCtorEq, Nat.reduceAdd, Nat.reduceSub, Nat.reduceEqDiff, Nat.reduceLeDiff, Nat.reduceLT, Nat.reduceBEq, Nat.reduceDiv, Nat.reduceMod, Nat.reducePow, Nat.reduceMul, Int.reduceToNat, Int.reduceLT, Int.reduceLE]
      repeat' (first | refine WK_go ?_ | refine W_seqL ?_ | refine W_seq ?_ | refine W_block ?_ | refine W_scp ?_ | ((first | refine W_regL ?_ | refine W_skip ?_ | refine W_exit ?_); simp (maxSteps := 400000) (disch := omega) only [push_cast, ↓reduceIte, reduceCtorEq, Nat.reduceAdd, Nat.reduceSub, Nat.reduceEqDiff, Nat.reduceLeDiff, Nat.reduceLT, Nat.reduceBEq, Nat.reduceDiv, Nat.reduceMod, Nat.reducePow, Nat.reduceMul, Int.reduceToNat, Int.reduceLT, Int.reduceLE, hgw]) | refine And.intro (by omega) ?_ | refine And.intro (by intro hq; (try simp only [Bool.and_eq_true, Bool.or_eq_true, Bool.and_eq_false_iff, Bool.or_eq_false_iff, decide_eq_true_eq, decide_eq_false_iff_not, Bool.not_eq_true', Bool.not_eq_false', beq_iff_eq, beq_eq_false_iff_ne, ne_eq] at hq); omega) ?_ | fail)
      refine ⟨_, _, rfl, rfl, ?_⟩
      simp (maxSteps := 400000) (disch := omega) only [push_cast, ↓reduceIte, reduceCtorEq, Nat.reduceAdd, Nat.reduceSub, Nat.reduceEqDiff, Nat.reduceLeDiff, Nat.reduceLT, Nat.reduceBEq, Nat.reduceDiv, Nat.reduceMod, Nat.reducePow, Nat.reduceMul, Int.reduceToNat, Int.reduceLT, Int.reduceLE]
      repeat' (first | refine WK_go ?_ | refine W_seqL ?_ | refine W_seq ?_ | refine W_block ?_ | refine W_scp ?_ | ((first | refine W_regL ?_ | refine W_skip ?_ | refine W_exit ?_); simp (maxSteps := 400000) (disch := omega) only [push_cast, ↓reduceIte, reduceCtorEq, Nat.reduceAdd, Nat.reduceSub, Nat.reduceEqDiff, Nat.reduceLeDiff, Nat.reduceLT, Nat.reduceBEq, Nat.reduceDiv, Nat.reduceMod, Nat.reducePow, Nat.reduceMul, Int.reduceToNat, Int.reduceLT, Int.reduceLE]) | refine And.intro (by omega) ?_ | refine And.intro (by intro hq; (try simp only [Bool.and_eq_true, Bool.or_eq_true, Bool.and_eq_false_iff, Bool.or_eq_false_iff, decide_eq_true_eq, decide_eq_false_iff_not, Bool.not_eq_true', Bool.not_eq_false', beq_iff_eq, beq_eq_false_iff_ne, ne_eq] at hq); omega) ?_ | fail)
      refine W_cond (by rfl) (fun h => by cases h) (fun _ => ?_)
      repeat' (first | refine WK_go ?_ | refine W_seqL ?_ | refine W_seq ?_ | refine W_block ?_ | refine W_scp ?_ | ((first | refine W_regL ?_ | refine W_skip ?_ | refine W_exit ?_); simp (maxSteps := 400000) (disch := omega) only [push_cast, ↓reduceIte, reduceCtorEq, Nat.reduceAdd, Nat.reduceSub, Nat.reduceEqDiff, Nat.reduceLeDiff, Nat.reduceLT, Nat.reduceBEq, Nat.reduceDiv, Nat.reduceMod, Nat.reducePow, Nat.reduceMul, Int.reduceToNat, Int.reduceLT, Int.reduceLE]) | refine And.intro (by omega) ?_ | refine And.intro (by intro hq; (try simp only [Bool.and_eq_true, Bool.or_eq_true, Bool.and_eq_false_iff, Bool.or_eq_false_iff, decide_eq_true_eq, decide_eq_false_iff_not, Bool.not_eq_true', Bool.not_eq_false', beq_iff_eq, beq_eq_false_iff_ne, ne_eq] at hq); omega) ?_ | fail)
      refine ⟨i + 1, by omega, by omega, by rfl, ?_⟩
      rw [ec]
      simp (maxSteps := 400000) (disch := omega) only [push_cast, ↓reduceIte, reduceCtorEq, Nat.reduceAdd, Nat.reduceSub, Nat.reduceEqDiff, Nat.reduceLeDiff, Nat.reduceLT, Nat.reduceBEq, Nat.reduceDiv, Nat.reduceMod, Nat.reducePow, Nat.reduceMul, Int.reduceToNat, Int.reduceLT, Int.reduceLE, S.mk.injEq, List.cons.injEq, Prod.mk.injEq, AV.v.injEq, Value.int.injEq, Value.bool.injEq, Blk.cells.injEq]
    · rw [if_neg hm] at e2 e4
      have e2 : bits .and .u64 (q : Int) 1 = 0 := e2
      have z01 : ((0 : Int) == 1) = false := rfl
      repeat' (first | refine WK_go ?_ | refine W_seqL ?_ | refine W_seq ?_ | refine W_block ?_ | refine W_scp ?_ | ((first | refine W_regL ?_ | refine W_skip ?_ | refine W_exit ?_); simp (maxSteps := 400000) (disch := omega) only [push_cast, ↓reduceIte, reduceCtorEq, Nat.reduceAdd, Nat.reduceSub, Nat.reduceEqDiff, Nat.reduceLeDiff, Nat.reduceLT, Nat.reduceBEq, Nat.reduceDiv, Nat.reduceMod, Nat.reducePow, Nat.reduceMul, Int.reduceToNat, Int.reduceLT, Int.reduceLE, e1, e2, z01]) | refine And.intro (by omega) ?_ | refine And.intro (by intro hq; (try simp only [Bool.and_eq_true, Bool.or_eq_true, Bool.and_eq_false_iff, Bool.or_eq_false_iff, decide_eq_true_eq, decide_eq_false_iff_not, Bool.not_eq_true', Bool.not_eq_false', beq_iff_eq, beq_eq_false_iff_ne, ne_eq] at hq); omega) ?_ | fail)
      refine StopC.yld (fun hpc => absurd hpc (by simp [pc])) (fun hpc => ?_)
      simp (maxSteps := 400000) (disch := omega) only [push_cast, ↓reduceIte, reduceCtorEq, Nat.reduceAdd, Nat.reduceSub, Nat.reduceEqDiff, Nat.reduceLeDiff, Nat.reduceLT, Nat.reduceBEq, Nat.reduceDiv, Nat.reduceMod, Nat.reducePow, Nat.reduceMul, Int.reduceToNat, Int.reduceLT, Int.reduceLE]
      repeat' (first | refine WK_go ?_ | refine W_seqL ?_ | refine W_seq ?_ | refine W_block ?_ | refine W_scp ?_ | ((first | refine W_regL ?_ | refine W_skip ?_ | refine W_exit ?_); simp (maxSteps := 400000) (disch := omega) only [push_cast, ↓reduceIte, reduceCtorEq, Nat.reduceAdd, Nat.reduceSub, Nat.reduceEqDiff, Nat.reduceLeDiff, Nat.reduceLT, Nat.reduceBEq, Nat.reduceDiv, Nat.reduceMod, Nat.reducePow, Nat.reduceMul, Int.reduceToNat, Int.reduceLT, Int.reduceLE]) | refine And.intro (by omega) ?_ | refine And.intro (by intro hq; (try simp only [Bool.and_eq_true, Bool.or_eq_true, Bool.and_eq_false_iff, Bool.or_eq_false_iff, decide_eq_true_eq, decide_eq_false_iff_not, Bool.not_eq_true', Bool.not_eq_false', beq_iff_eq, beq_eq_false_iff_ne, ne_eq] at hq); omega) ?_ | fail)
      refine W_cond (by rfl) (fun h => by cases h) (fun _ => ?_)
      repeat' (first | refine WK_go ?_ | refine W_seqL ?_ | refine W_seq ?_ | refine W_block ?_ | refine W_scp ?_ | ((first | refine W_regL ?_ | refine W_skip ?_ | refine W_exit ?_); simp (maxSteps := 400000) (disch := omega) only [push_cast, ↓reduceIte, reduceCtorEq, Nat.reduceAdd, Nat.reduceSub, Nat.reduceEqDiff, Nat.reduceLeDiff, Nat.reduceLT, Nat.reduceBEq, Nat.reduceDiv, Nat.reduceMod, Nat.reducePow, Nat.reduceMul, Int.reduceToNat, Int.reduceLT, Int.reduceLE]) | refine And.intro (by omega) ?_ | refine And.intro (by intro hq; (try simp only [Bool.and_eq_true, Bool.or_eq_true, Bool.and_eq_false_iff, Bool.or_eq_false_iff, decide_eq_true_eq, decide_eq_false_iff_not, Bool.not_eq_true', Bool.not_eq_false', beq_iff_eq, beq_eq_false_iff_ne, ne_eq] at hq); omega) ?_ | fail)
      refine ⟨i + 1, by omega, by omega, by rfl, ?_⟩
      rw [e4, List.append_nil]
      simp (maxSteps := 400000) (disch := omega) only [push_cast, ↓reduceIte, reduceCtorEq, Nat.reduceAdd, Nat.reduceSub, Nat.reduceEqDiff, Nat.reduceLeDiff, Nat.reduceLT, Nat.reduceBEq, Nat.reduceDiv, Nat.reduceMod, Nat.reducePow, Nat.reduceMul, Int.reduceToNat, Int.reduceLT, Int.reduceLE, S.mk.injEq, List.cons.injEq, Prod.mk.injEq, AV.v.injEq, Value.int.injEq, Value.bool.injEq, Blk.cells.injEq]
  · have hq0 : s / 2 ^ i = 0 := by
      rw [← hq]
      have := bne_eq_false_iff_eq.1 hb
      omega
    have hall := pre_all (bits_end hs.b (fun x hx => (hs.s.mem x hx).1) hq0)
    rw [hall]
    repeat' (first | refine WK_go ?_ | refine W_seqL ?_ | refine W_seq ?_ | refine W_block ?_ | refine W_scp ?_ | ((first | refine W_regL ?_ | refine W_skip ?_ | refine W_exit ?_); simp (maxSteps := 400000) (disch := omega) only [push_cast, ↓reduceIte, reduceCtorEq, Nat.reduceAdd, Nat.reduceSub, Nat.reduceEqDiff, Nat.reduceLeDiff, Nat.reduceLT, Nat.reduceBEq, Nat.reduceDiv, Nat.reduceMod, Nat.reducePow, Nat.reduceMul, Int.reduceToNat, Int.reduceLT, Int.reduceLE]) | refine And.intro (by omega) ?_ | refine And.intro (by intro hq; (try simp only [Bool.and_eq_true, Bool.or_eq_true, Bool.and_eq_false_iff, Bool.or_eq_false_iff, decide_eq_true_eq, decide_eq_false_iff_not, Bool.not_eq_true', Bool.not_eq_false', beq_iff_eq, beq_eq_false_iff_ne, ne_eq] at hq); omega) ?_ | fail)
    refine ⟨_, _, rfl, rfl, ⟨_, _, rfl, by rw [hR.st]; simp, ?_⟩⟩
    rw [hR.pe]
    simp (maxSteps := 400000) (disch := omega) only [push_cast, ↓reduceIte, reduceCtorEq, Nat.reduceAdd, Nat.reduceSub, Nat.reduceEqDiff, Nat.reduceLeDiff, Nat.reduceLT, Nat.reduceBEq, Nat.reduceDiv, Nat.reduceMod, Nat.reducePow, Nat.reduceMul, Int.reduceToNat, Int.reduceLT, Int.reduceLE, EndP]
    repeat' (first | refine WK_go ?_ | refine W_seqL ?_ | refine W_seq ?_ | refine W_block ?_ | refine W_scp ?_ | ((first | refine W_regL ?_ | refine W_skip ?_ | refine W_exit ?_); simp (maxSteps := 400000) (disch := omega) only [push_cast, ↓reduceIte, reduceCtorEq, Nat.reduceAdd, Nat.reduceSub, Nat.reduceEqDiff, Nat.reduceLeDiff, Nat.reduceLT, Nat.reduceBEq, Nat.reduceDiv, Nat.reduceMod, Nat.reducePow, Nat.reduceMul, Int.reduceToNat, Int.reduceLT, Int.reduceLE]) | refine And.intro (by omega) ?_ | refine And.intro (by intro hq; (try simp only [Bool.and_eq_true, Bool.or_eq_true, Bool.and_eq_false_iff, Bool.or_eq_false_iff, decide_eq_true_eq, decide_eq_false_iff_not, Bool.not_eq_true', Bool.not_eq_false', beq_iff_eq, beq_eq_false_iff_ne, ne_eq] at hq); omega) ?_ | fail)
    exact W_ret ⟨[_], ⟨rfl, rfl⟩, rfl⟩
theorem fn122 (m : Mp) (f : Nat → Int) (l : List Int) (s : Nat) (road k : Nat) (h : OkM m) (hs : SetW m l s) (hr : road < m.rs.length) (hk : k < 6) : Sy.Fn Try.prog 122 [aAt m f, uv s, iv road, iv k] (iv (limL m l road k)) := by
  refine Fn_of_W mixed Xt122 rfl ?_
  have hw := h.nw
  have hs1 : s < 1024 := by
    have := bits_lt (n := 10) hs.b (fun x hx => by have := (hs.s.mem x hx).2; omega)
    simpa using this
  have hlim : nth (cR (gr m road)) (6 + k) = iv ((gr m road).lim k) := by
    rcases k with _ | _ | _ | _ | _ | _ | k <;> first | rfl | omega
  have hgr : m.rs.getD road dR = gr m road := rfl
  repeat' (first | refine WK_go ?_ | refine W_seqL ?_ | refine W_seq ?_ | refine W_block ?_ | refine W_scp ?_ | ((first | refine W_regL ?_ | refine W_skip ?_ | refine W_exit ?_ | refine CallC.now (fn61 s) ?_); simp (maxSteps := 400000) (disch := omega) only [push_cast, ↓reduceIte, reduceCtorEq, Nat.reduceAdd, Nat.reduceSub, Nat.reduceEqDiff, Nat.reduceLeDiff, Nat.reduceLT, Nat.reduceBEq, Nat.reduceDiv, Nat.reduceMod, Nat.reducePow, Nat.reduceMul, Int.reduceToNat, Int.reduceLT, Int.reduceLE, hgr, hlim, Nat.mul_one, Nat.add_assoc]) | refine And.intro (by omega) ?_ | refine And.intro (by intro hq; (try simp only [Bool.and_eq_true, Bool.or_eq_true, Bool.and_eq_false_iff, Bool.or_eq_false_iff, decide_eq_true_eq, decide_eq_false_iff_not, Bool.not_eq_true', Bool.not_eq_false', beq_iff_eq, beq_eq_false_iff_ne, ne_eq] at hq); omega) ?_ | fail)
  refine W_rfn (.inl rfl) (fun lp R hR => Inl_of_W mixed Xt118 rfl (fun vs => ?_))
  simp (maxSteps := 400000) (disch := omega) only [push_cast, ↓reduceIte, reduceCtorEq, Nat.reduceAdd, Nat.reduceSub, Nat.reduceEqDiff, Nat.reduceLeDiff, Nat.reduceLT, Nat.reduceBEq, Nat.reduceDiv, Nat.reduceMod, Nat.reducePow, Nat.reduceMul, Int.reduceToNat, Int.reduceLT, Int.reduceLE]
  repeat' (first | refine WK_go ?_ | refine W_seqL ?_ | refine W_seq ?_ | refine W_block ?_ | refine W_scp ?_ | ((first | refine W_regL ?_ | refine W_skip ?_ | refine W_exit ?_); simp (maxSteps := 400000) (disch := omega) only [push_cast, ↓reduceIte, reduceCtorEq, Nat.reduceAdd, Nat.reduceSub, Nat.reduceEqDiff, Nat.reduceLeDiff, Nat.reduceLT, Nat.reduceBEq, Nat.reduceDiv, Nat.reduceMod, Nat.reducePow, Nat.reduceMul, Int.reduceToNat, Int.reduceLT, Int.reduceLE]) | refine And.intro (by omega) ?_ | refine And.intro (by intro hq; (try simp only [Bool.and_eq_true, Bool.or_eq_true, Bool.and_eq_false_iff, Bool.or_eq_false_iff, decide_eq_true_eq, decide_eq_false_iff_not, Bool.not_eq_true', Bool.not_eq_false', beq_iff_eq, beq_eq_false_iff_ne, ne_eq] at hq); omega) ?_ | fail)
  refine W_loopU (fun i : Nat => [(3, iv i)]) (fun i => [(13, .cells [iv (limL m (pre l i) road k)])]) (fun i => i ≤ 10) (fun i => 11 - i) 0 (by omega) (by rfl) (by rw [pre_zero hs.s]; rfl) (fun i hi => ?_)
  obtain ⟨q, hq⟩ : ∃ q, q = s / 2 ^ i := ⟨_, rfl⟩
  have e1 := shrS s (i := i) (by omega)
  have e2 := andS (s / 2 ^ i) (div_lt64 hs1 i)
  rw [bits_shr hs.b i] at e2
  rw [← hq] at e1 e2
  have e4 := pre_succ (i := i) hs.s
  simp (maxSteps := 400000) (disch := omega) only [push_cast, ↓reduceIte, reduceCtorEq, Nat.reduceAdd, Nat.reduceSub, Nat.reduceEqDiff, Nat.reduceLeDiff, Nat.reduceLT, Nat.reduceBEq, Nat.reduceDiv, Nat.reduceMod, Nat.reducePow, Nat.reduceMul, Int.reduceToNat, Int.reduceLT, Int.reduceLE]
  repeat' (first | refine WK_go ?_ | refine W_seqL ?_ | refine W_seq ?_ | refine W_block ?_ | refine W_scp ?_ | ((first | refine W_regL ?_ | refine W_skip ?_ | refine W_exit ?_); simp (maxSteps := 400000) (disch := omega) only [push_cast, ↓reduceIte, reduceCtorEq, Nat.reduceAdd, Nat.reduceSub, Nat.reduceEqDiff, Nat.reduceLeDiff, Nat.reduceLT, Nat.reduceBEq, Nat.reduceDiv, Nat.reduceMod, Nat.reducePow, Nat.reduceMul, Int.reduceToNat, Int.reduceLT, Int.reduceLE, e1]) | refine And.intro (by omega) ?_ | refine And.intro (by intro hq; (try simp only [Bool.and_eq_true, Bool.or_eq_true, Bool.and_eq_false_iff, Bool.or_eq_false_iff, decide_eq_true_eq, decide_eq_false_iff_not, Bool.not_eq_true', Bool.not_eq_false', beq_iff_eq, beq_eq_false_iff_ne, ne_eq] at hq); omega) ?_ | fail)
  refine W_cond (by rfl) (fun hb => ?_) (fun hb => ?_)
  · have hi10 : i < 10 := bits_more hs.b (by rw [← hq]; intro z; rw [z] at hb; simp at hb) (fun x hx => by have := (hs.s.mem x hx).2; omega)
    by_cases hm : (i : Int) ∈ l
    · rw [if_pos hm] at e2 e4
      have e2 : bits .and .u64 (q : Int) 1 = 1 := e2
      have hir := hs.s.mem _ hm
      have ec : limL m (pre l (i + 1)) road k = limS m road k (limL m (pre l i) road k) i := by rw [e4, limL_snoc]
      have es : ∀ n : Int, limS m road k n i = if (gw m i).k = k ∧ (road : Int) ∈ (gw m i).rs then max n (gw m i).l else n := fun _ => rfl
      have hgw : m.ws.getD i dW = gw m i := rfl
      have hwl := h.s i (by omega)
      have c129 := fn129 (gw m i).rs (road : Int) (by omega)
      rw [es] at ec
      generalize limL m (pre l i) road k = C at *
      generalize gw m i = w at *
      repeat' (first | refine WK_go ?_ | refine W_seqL ?_ | refine W_seq ?_ | refine W_block ?_ | refine W_scp ?_ | ((first | refine W_regL ?_ | refine W_skip ?_ | refine W_exit ?_); simp (maxSteps := 400000) (disch := omega) only [push_cast, ↓reduceIte, reduceCtorEq, Nat.reduceAdd, Nat.reduceSub, Nat.reduceEqDiff, Nat.reduceLeDiff, Nat.reduceLT, Nat.reduceBEq, Nat.reduceDiv, Nat.reduceMod, Nat.reducePow, Nat.reduceMul, Int.reduceToNat, Int.reduceLT, Int.reduceLE, e1, e2]) | refine And.intro (by omega) ?_ | refine And.intro (by intro hq; (try simp only [Bool.and_eq_true, Bool.or_eq_true, Bool.and_eq_false_iff, Bool.or_eq_false_iff, decide_eq_true_eq, decide_eq_false_iff_not, Bool.not_eq_true', Bool.not_eq_false', beq_iff_eq, beq_eq_false_iff_ne, ne_eq] at hq); omega) ?_ | fail)
      refine StopC.yld (fun hpc => ⟨trivial, Yl_of_W (k := 17) mixed hR rfl rfl rfl (fun vs2 => ?_)⟩) (fun hpc => absurd (by simp [pc]) hpc)
      simp (maxSteps := 400000) (disch := omega) only [push_cast, ↓reduceIte, reduceCtorEq, Nat.reduceAdd, Nat.reduceSub, Nat.reduceEqDiff, Nat.reduceLeDiff, Nat.reduceLT, Nat.reduceBEq, Nat.reduceDiv, Nat.reduceMod, Nat.reducePow, Nat.reduceMul, Int.reduceToNat, Int.reduceLT, Int.reduceLE]
      repeat' (first | refine WK_go ?_ | refine W_seqL ?_ | refine W_seq ?_ | refine W_block ?_ | refine W_scp ?_ | ((first | refine W_regL ?_ | refine W_skip ?_ | refine W_exit ?_); simp (maxSteps := 400000) (disch := omega) only [push_cast, ↓reduceIte, reduceCtorEq, Nat.reduceAdd, Nat.reduceSub, Nat.reduceEqDiff, Nat.reduceLeDiff, Nat.reduceLT, Nat.reduceBEq, Nat.reduceDiv, Nat.reduceMod, Nat.reducePow, Nat.reduceMul, Int.reduceToNat, Int.reduceLT, Int.reduceLE]) | refine And.intro (by omega) ?_ | refine And.intro (by intro hq; (try simp only [Bool.and_eq_true, Bool.or_eq_true, Bool.and_eq_false_iff, Bool.or_eq_false_iff, decide_eq_true_eq, decide_eq_false_iff_not, Bool.not_eq_true', Bool.not_eq_false', beq_iff_eq, beq_eq_false_iff_ne, ne_eq] at hq); omega) ?_ | fail)
      refine ⟨_, rfl, ?_⟩
      simp (maxSteps := 400000) (disch := omega) only [push_cast, ↓reduceIte, reduceCtorEq, Nat.reduceAdd, Nat.reduceSub, Nat.reduceEqDiff, Nat.reduceLeDiff, Nat.reduceLT, Nat.reduceBEq, Nat.reduceDiv, Nat.reduceMod, Nat.reducePow, Nat.reduceMul, Int.reduceToNat, Int.reduceLT, Int.reduceLE]
      repeat' (first | refine WK_go ?_ | refine W_seqL ?_ | refine W_seq ?_ | refine W_block ?_ | refine W_scp ?_ | ((first | refine W_regL ?_ | refine W_skip ?_ | refine W_exit ?_ | refine CallC.go _ (fun _ => ⟨trivial, c129⟩) rfl ?_); simp (maxSteps := 400000) (disch := omega) only [push_cast, ↓reduceIte, reduceCtorEq, Nat.reduceAdd, Nat.reduceSub, Nat.reduceEqDiff, Nat.reduceLeDiff, Nat.reduceLT, Nat.reduceBEq, Nat.reduceDiv, Nat.reduceMod, Nat.reducePow, Nat.reduceMul, Int.reduceToNat, Int.reduceLT, Int.reduceLE, hgw]) | refine And.intro (by omega) ?_ | refine And.intro (by intro hq; (try simp only [Bool.and_eq_true, Bool.or_eq_true, Bool.and_eq_false_iff, Bool.or_eq_false_iff, decide_eq_true_eq, decide_eq_false_iff_not, Bool.not_eq_true', Bool.not_eq_false', beq_iff_eq, beq_eq_false_iff_ne, ne_eq] at hq); omega) ?_ | fail)
      refine W_cond (by rfl) (fun hz => ?_) (fun hz => ?_)
      · rw [Bool.and_eq_true, beq_iff_eq, decide_eq_true_eq] at hz
        rw [if_pos hz] at ec
        repeat' (first | refine WK_go ?_ | refine W_seqL ?_ | refine W_seq ?_ | refine W_block ?_ | refine W_scp ?_ | ((first | refine W_regL ?_ | refine W_skip ?_ | refine W_exit ?_); simp (maxSteps := 400000) (disch := omega) only [push_cast, ↓reduceIte, reduceCtorEq, Nat.reduceAdd, Nat.reduceSub, Nat.reduceEqDiff, Nat.reduceLeDiff, Nat.reduceLT, Nat.reduceBEq, Nat.reduceDiv, Nat.reduceMod, Nat.reducePow, Nat.reduceMul, Int.reduceToNat, Int.reduceLT, Int.reduceLE]) | refine And.intro (by omega) ?_ | refine And.intro (by intro hq; (try simp only [Bool.and_eq_true, Bool.or_eq_true, Bool.and_eq_false_iff, Bool.or_eq_false_iff, decide_eq_true_eq, decide_eq_false_iff_not, Bool.not_eq_true', Bool.not_eq_false', beq_iff_eq, beq_eq_false_iff_ne, ne_eq] at hq); omega) ?_ | fail)
        refine ⟨_, _, rfl, rfl, ?_⟩
        simp (maxSteps := 400000) (disch := omega) only [push_cast, ↓reduceIte, reduceCtorEq, Nat.reduceAdd, Nat.reduceSub, Nat.reduceEqDiff, Nat.reduceLeDiff, Nat.reduceLT, Nat.reduceBEq, Nat.reduceDiv, Nat.reduceMod, Nat.reducePow, Nat.reduceMul, Int.reduceToNat, Int.reduceLT, Int.reduceLE]
        repeat' (first | refine WK_go ?_ | refine W_seqL ?_ | refine W_seq ?_ | refine W_block ?_ | refine W_scp ?_ | ((first | refine W_regL ?_ | refine W_skip ?_ | refine W_exit ?_); simp (maxSteps := 400000) (disch := omega) only [push_cast, ↓reduceIte, reduceCtorEq, Nat.reduceAdd, Nat.reduceSub, Nat.reduceEqDiff, Nat.reduceLeDiff, Nat.reduceLT, Nat.reduceBEq, Nat.reduceDiv, Nat.reduceMod, Nat.reducePow, Nat.reduceMul, Int.reduceToNat, Int.reduceLT, Int.reduceLE]) | refine And.intro (by omega) ?_ | refine And.intro (by intro hq; (try simp only [Bool.and_eq_true, Bool.or_eq_true, Bool.and_eq_false_iff, Bool.or_eq_false_iff, decide_eq_true_eq, decide_eq_false_iff_not, Bool.not_eq_true', Bool.not_eq_false', beq_iff_eq, beq_eq_false_iff_ne, ne_eq] at hq); omega) ?_ | fail)
        refine W_cond (by rfl) (fun h => by cases h) (fun _ => ?_)
        repeat' (first | refine WK_go ?_ | refine W_seqL ?_ | refine W_seq ?_ | refine W_block ?_ | refine W_scp ?_ | ((first | refine W_regL ?_ | refine W_skip ?_ | refine W_exit ?_); simp (maxSteps := 400000) (disch := omega) only [push_cast, ↓reduceIte, reduceCtorEq, Nat.reduceAdd, Nat.reduceSub, Nat.reduceEqDiff, Nat.reduceLeDiff, Nat.reduceLT, Nat.reduceBEq, Nat.reduceDiv, Nat.reduceMod, Nat.reducePow, Nat.reduceMul, Int.reduceToNat, Int.reduceLT, Int.reduceLE]) | refine And.intro (by omega) ?_ | refine And.intro (by intro hq; (try simp only [Bool.and_eq_true, Bool.or_eq_true, Bool.and_eq_false_iff, Bool.or_eq_false_iff, decide_eq_true_eq, decide_eq_false_iff_not, Bool.not_eq_true', Bool.not_eq_false', beq_iff_eq, beq_eq_false_iff_ne, ne_eq] at hq); omega) ?_ | fail)
        refine ⟨i + 1, by omega, by omega, by rfl, ?_⟩
        rw [ec]
        simp (maxSteps := 400000) (disch := omega) only [push_cast, ↓reduceIte, reduceCtorEq, Nat.reduceAdd, Nat.reduceSub, Nat.reduceEqDiff, Nat.reduceLeDiff, Nat.reduceLT, Nat.reduceBEq, Nat.reduceDiv, Nat.reduceMod, Nat.reducePow, Nat.reduceMul, Int.reduceToNat, Int.reduceLT, Int.reduceLE, S.mk.injEq, List.cons.injEq, Prod.mk.injEq, AV.v.injEq, Value.int.injEq, Value.bool.injEq, Blk.cells.injEq]
      · have hz : ¬ (w.k = k ∧ (road : Int) ∈ w.rs) := by
          rintro ⟨z1, z2⟩
          rw [z1, decide_eq_true z2] at hz
          simp at hz
        rw [if_neg hz] at ec
        repeat' (first | refine WK_go ?_ | refine W_seqL ?_ | refine W_seq ?_ | refine W_block ?_ | refine W_scp ?_ | ((first | refine W_regL ?_ | refine W_skip ?_ | refine W_exit ?_); simp (maxSteps := 400000) (disch := omega) only [push_cast, ↓reduceIte, reduceCtorEq, Nat.reduceAdd, Nat.reduceSub, Nat.reduceEqDiff, Nat.reduceLeDiff, Nat.reduceLT, Nat.reduceBEq, Nat.reduceDiv, Nat.reduceMod, Nat.reducePow, Nat.reduceMul, Int.reduceToNat, Int.reduceLT, Int.reduceLE]) | refine And.intro (by omega) ?_ | refine And.intro (by intro hq; (try simp only [Bool.and_eq_true, Bool.or_eq_true, Bool.and_eq_false_iff, Bool.or_eq_false_iff, decide_eq_true_eq, decide_eq_false_iff_not, Bool.not_eq_true', Bool.not_eq_false', beq_iff_eq, beq_eq_false_iff_ne, ne_eq] at hq); omega) ?_ | fail)
        refine ⟨_, _, rfl, rfl, ?_⟩
        simp (maxSteps := 400000) (disch := omega) only [push_cast, ↓reduceIte, reduceCtorEq, Nat.reduceAdd, Nat.reduceSub, Nat.reduceEqDiff, Nat.reduceLeDiff, Nat.reduceLT, Nat.reduceBEq, Nat.reduceDiv, Nat.reduceMod, Nat.reducePow, Nat.reduceMul, Int.reduceToNat, Int.reduceLT, Int.reduceLE]
        repeat' (first | refine WK_go ?_ | refine W_seqL ?_ | refine W_seq ?_ | refine W_block ?_ | refine W_scp ?_ | ((first | refine W_regL ?_ | refine W_skip ?_ | refine W_exit ?_); simp (maxSteps := 400000) (disch := omega) only [push_cast, ↓reduceIte, reduceCtorEq, Nat.reduceAdd, Nat.reduceSub, Nat.reduceEqDiff, Nat.reduceLeDiff, Nat.reduceLT, Nat.reduceBEq, Nat.reduceDiv, Nat.reduceMod, Nat.reducePow, Nat.reduceMul, Int.reduceToNat, Int.reduceLT, Int.reduceLE]) | refine And.intro (by omega) ?_ | refine And.intro (by intro hq; (try simp only [Bool.and_eq_true, Bool.or_eq_true, Bool.and_eq_false_iff, Bool.or_eq_false_iff, decide_eq_true_eq, decide_eq_false_iff_not, Bool.not_eq_true', Bool.not_eq_false', beq_iff_eq, beq_eq_false_iff_ne, ne_eq] at hq); omega) ?_ | fail)
        refine W_cond (by rfl) (fun h => by cases h) (fun _ => ?_)
        repeat' (first | refine WK_go ?_ | refine W_seqL ?_ | refine W_seq ?_ | refine W_block ?_ | refine W_scp ?_ | ((first | refine W_regL ?_ | refine W_skip ?_ | refine W_exit ?_); simp (maxSteps := 400000) (disch := omega) only [push_cast, ↓reduceIte, reduceCtorEq, Nat.reduceAdd, Nat.reduceSub, Nat.reduceEqDiff, Nat.reduceLeDiff, Nat.reduceLT, Nat.reduceBEq, Nat.reduceDiv, Nat.reduceMod, Nat.reducePow, Nat.reduceMul, Int.reduceToNat, Int.reduceLT, Int.reduceLE]) | refine And.intro (by omega) ?_ | refine And.intro (by intro hq; (try simp only [Bool.and_eq_true, Bool.or_eq_true, Bool.and_eq_false_iff, Bool.or_eq_false_iff, decide_eq_true_eq, decide_eq_false_iff_not, Bool.not_eq_true', Bool.not_eq_false', beq_iff_eq, beq_eq_false_iff_ne, ne_eq] at hq); omega) ?_ | fail)
        refine ⟨i + 1, by omega, by omega, by rfl, ?_⟩
        rw [ec]
        simp (maxSteps := 400000) (disch := omega) only [push_cast, ↓reduceIte, reduceCtorEq, Nat.reduceAdd, Nat.reduceSub, Nat.reduceEqDiff, Nat.reduceLeDiff, Nat.reduceLT, Nat.reduceBEq, Nat.reduceDiv, Nat.reduceMod, Nat.reducePow, Nat.reduceMul, Int.reduceToNat, Int.reduceLT, Int.reduceLE, S.mk.injEq, List.cons.injEq, Prod.mk.injEq, AV.v.injEq, Value.int.injEq, Value.bool.injEq, Blk.cells.injEq]
    · rw [if_neg hm] at e2 e4
      have e2 : bits .and .u64 (q : Int) 1 = 0 := e2
      have z01 : ((0 : Int) == 1) = false := rfl
      repeat' (first | refine WK_go ?_ | refine W_seqL ?_ | refine W_seq ?_ | refine W_block ?_ | refine W_scp ?_ | ((first | refine W_regL ?_ | refine W_skip ?_ | refine W_exit ?_); simp (maxSteps := 400000) (disch := omega) only [push_cast, ↓reduceIte, reduceCtorEq, Nat.reduceAdd, Nat.reduceSub, Nat.reduceEqDiff, Nat.reduceLeDiff, Nat.reduceLT, Nat.reduceBEq, Nat.reduceDiv, Nat.reduceMod, Nat.reducePow, Nat.reduceMul, Int.reduceToNat, Int.reduceLT, Int.reduceLE, e1, e2, z01]) | refine And.intro (by omega) ?_ | refine And.intro (by intro hq; (try simp only [Bool.and_eq_true, Bool.or_eq_true, Bool.and_eq_false_iff, Bool.or_eq_false_iff, decide_eq_true_eq, decide_eq_false_iff_not, Bool.not_eq_true', Bool.not_eq_false', beq_iff_eq, beq_eq_false_iff_ne, ne_eq] at hq); omega) ?_ | fail)
      refine StopC.yld (fun hpc => absurd hpc (by simp [pc])) (fun hpc => ?_)
      simp (maxSteps := 400000) (disch := omega) only [push_cast, ↓reduceIte, reduceCtorEq, Nat.reduceAdd, Nat.reduceSub, Nat.reduceEqDiff, Nat.reduceLeDiff, Nat.reduceLT, Nat.reduceBEq, Nat.reduceDiv, Nat.reduceMod, Nat.reducePow, Nat.reduceMul, Int.reduceToNat, Int.reduceLT, Int.reduceLE]
      repeat' (first | refine WK_go ?_ | refine W_seqL ?_ | refine W_seq ?_ | refine W_block ?_ | refine W_scp ?_ | ((first | refine W_regL ?_ | refine W_skip ?_ | refine W_exit ?_); simp (maxSteps := 400000) (disch := omega) only [push_cast, ↓reduceIte, reduceCtorEq, Nat.reduceAdd, Nat.reduceSub, Nat.reduceEqDiff, Nat.reduceLeDiff, Nat.reduceLT, Nat.reduceBEq, Nat.reduceDiv, Nat.reduceMod, Nat.reducePow, Nat.reduceMul, Int.reduceToNat, Int.reduceLT, Int.reduceLE]) | refine And.intro (by omega) ?_ | refine And.intro (by intro hq; (try simp only [Bool.and_eq_true, Bool.or_eq_true, Bool.and_eq_false_iff, Bool.or_eq_false_iff, decide_eq_true_eq, decide_eq_false_iff_not, Bool.not_eq_true', Bool.not_eq_false', beq_iff_eq, beq_eq_false_iff_ne, ne_eq] at hq); omega) ?_ | fail)
      refine W_cond (by rfl) (fun h => by cases h) (fun _ => ?_)
      repeat' (first | refine WK_go ?_ | refine W_seqL ?_ | refine W_seq ?_ | refine W_block ?_ | refine W_scp ?_ | ((first | refine W_regL ?_ | refine W_skip ?_ | refine W_exit ?_); simp (maxSteps := 400000) (disch := omega) only [push_cast, ↓reduceIte, reduceCtorEq, Nat.reduceAdd, Nat.reduceSub, Nat.reduceEqDiff, Nat.reduceLeDiff, Nat.reduceLT, Nat.reduceBEq, Nat.reduceDiv, Nat.reduceMod, Nat.reducePow, Nat.reduceMul, Int.reduceToNat, Int.reduceLT, Int.reduceLE]) | refine And.intro (by omega) ?_ | refine And.intro (by intro hq; (try simp only [Bool.and_eq_true, Bool.or_eq_true, Bool.and_eq_false_iff, Bool.or_eq_false_iff, decide_eq_true_eq, decide_eq_false_iff_not, Bool.not_eq_true', Bool.not_eq_false', beq_iff_eq, beq_eq_false_iff_ne, ne_eq] at hq); omega) ?_ | fail)
      refine ⟨i + 1, by omega, by omega, by rfl, ?_⟩
      rw [e4, List.append_nil]
      simp (maxSteps := 400000) (disch := omega) only [push_cast, ↓reduceIte, reduceCtorEq, Nat.reduceAdd, Nat.reduceSub, Nat.reduceEqDiff, Nat.reduceLeDiff, Nat.reduceLT, Nat.reduceBEq, Nat.reduceDiv, Nat.reduceMod, Nat.reducePow, Nat.reduceMul, Int.reduceToNat, Int.reduceLT, Int.reduceLE, S.mk.injEq, List.cons.injEq, Prod.mk.injEq, AV.v.injEq, Value.int.injEq, Value.bool.injEq, Blk.cells.injEq]
  · have hq0 : s / 2 ^ i = 0 := by
      rw [← hq]
      have := bne_eq_false_iff_eq.1 hb
      omega
    have hall := pre_all (bits_end hs.b (fun x hx => (hs.s.mem x hx).1) hq0)
    rw [hall]
    repeat' (first | refine WK_go ?_ | refine W_seqL ?_ | refine W_seq ?_ | refine W_block ?_ | refine W_scp ?_ | ((first | refine W_regL ?_ | refine W_skip ?_ | refine W_exit ?_); simp (maxSteps := 400000) (disch := omega) only [push_cast, ↓reduceIte, reduceCtorEq, Nat.reduceAdd, Nat.reduceSub, Nat.reduceEqDiff, Nat.reduceLeDiff, Nat.reduceLT, Nat.reduceBEq, Nat.reduceDiv, Nat.reduceMod, Nat.reducePow, Nat.reduceMul, Int.reduceToNat, Int.reduceLT, Int.reduceLE]) | refine And.intro (by omega) ?_ | refine And.intro (by intro hq; (try simp only [Bool.and_eq_true, Bool.or_eq_true, Bool.and_eq_false_iff, Bool.or_eq_false_iff, decide_eq_true_eq, decide_eq_false_iff_not, Bool.not_eq_true', Bool.not_eq_false', beq_iff_eq, beq_eq_false_iff_ne, ne_eq] at hq); omega) ?_ | fail)
    refine ⟨_, _, rfl, rfl, ⟨_, _, rfl, by rw [hR.st]; simp, ?_⟩⟩
    rw [hR.pe]
    simp (maxSteps := 400000) (disch := omega) only [push_cast, ↓reduceIte, reduceCtorEq, Nat.reduceAdd, Nat.reduceSub, Nat.reduceEqDiff, Nat.reduceLeDiff, Nat.reduceLT, Nat.reduceBEq, Nat.reduceDiv, Nat.reduceMod, Nat.reducePow, Nat.reduceMul, Int.reduceToNat, Int.reduceLT, Int.reduceLE, EndP]
    repeat' (first | refine WK_go ?_ | refine W_seqL ?_ | refine W_seq ?_ | refine W_block ?_ | refine W_scp ?_ | ((first | refine W_regL ?_ | refine W_skip ?_ | refine W_exit ?_); simp (maxSteps := 400000) (disch := omega) only [push_cast, ↓reduceIte, reduceCtorEq, Nat.reduceAdd, Nat.reduceSub, Nat.reduceEqDiff, Nat.reduceLeDiff, Nat.reduceLT, Nat.reduceBEq, Nat.reduceDiv, Nat.reduceMod, Nat.reducePow, Nat.reduceMul, Int.reduceToNat, Int.reduceLT, Int.reduceLE]) | refine And.intro (by omega) ?_ | refine And.intro (by intro hq; (try simp only [Bool.and_eq_true, Bool.or_eq_true, Bool.and_eq_false_iff, Bool.or_eq_false_iff, decide_eq_true_eq, decide_eq_false_iff_not, Bool.not_eq_true', Bool.not_eq_false', beq_iff_eq, beq_eq_false_iff_ne, ne_eq] at hq); omega) ?_ | fail)
    exact W_ret ⟨[_], ⟨rfl, rfl⟩, rfl⟩
end Go.Proofs.Ytfbdlmenhoagmaa

namespace Go.Proofs.Ytfbdlmenhoagmaa
open Go Sy
set_option maxRecDepth 100000
set_option maxHeartbeats 4000000
set_option linter.unusedVariables false
set_option linter.unusedSimpArgs false
theorem fn75 (m : Mp) (f : Nat → Int) (s : Nat) (road : Int) : Sy.Fn Try.prog 75 [aAt m f, uv s, iv road] (.clo 121 [] [.fp (cAt m f) 0, .fp [uv s] 0, .fp [iv road] 0]) := by
  refine Fn_of_W mixed Xt75 rfl ?_
  repeat' (first | refine WK_go ?_ | refine W_seqL ?_ | refine W_seq ?_ | refine W_block ?_ | refine W_scp ?_ | ((first | refine W_regL ?_ | refine W_skip ?_ | refine W_exit ?_); simp (maxSteps := 400000) (disch := omega) only [push_cast, ↓reduceIte, reduceCtorEq, Nat.reduceAdd, Nat.reduceSub, Nat.reduceEqDiff, Nat.reduceLeDiff, Nat.reduceLT, Nat.reduceBEq, Nat.reduceDiv, Nat.reduceMod, Nat.reducePow, Nat.reduceMul, Int.reduceToNat, Int.reduceLT, Int.reduceLE]) | refine And.intro (by omega) ?_ | refine And.intro (by intro hq; (try simp only [Bool.and_eq_true, Bool.or_eq_true, Bool.and_eq_false_iff, Bool.or_eq_false_iff, decide_eq_true_eq, decide_eq_false_iff_not, Bool.not_eq_true', Bool.not_eq_false', beq_iff_eq, beq_eq_false_iff_ne, ne_eq] at hq); omega) ?_ | fail)
  exact W_ret ⟨[_], ⟨rfl, rfl⟩, rfl⟩
theorem fn64 (m : Mp) (f : Nat → Int) (l : List Int) (s : Nat) (road : Nat) (h : OkM m) (hs : SetW m l s) (hr : road < m.rs.length) : Sy.Fn Try.prog 64 [aAt m f, uv s, iv road] (bv (usB m f l road)) := by
  refine Fn_of_W mixed Xt64 rfl ?_
  repeat' (first | refine WK_go ?_ | refine W_seqL ?_ | refine W_seq ?_ | refine W_block ?_ | refine W_scp ?_ | ((first | refine W_regL ?_ | refine W_skip ?_ | refine W_exit ?_ | refine CallC.now (fn75 m f s road) ?_); simp (maxSteps := 400000) (disch := omega) only [push_cast, ↓reduceIte, reduceCtorEq, Nat.reduceAdd, Nat.reduceSub, Nat.reduceEqDiff, Nat.reduceLeDiff, Nat.reduceLT, Nat.reduceBEq, Nat.reduceDiv, Nat.reduceMod, Nat.reducePow, Nat.reduceMul, Int.reduceToNat, Int.reduceLT, Int.reduceLE]) | refine And.intro (by omega) ?_ | refine And.intro (by intro hq; (try simp only [Bool.and_eq_true, Bool.or_eq_true, Bool.and_eq_false_iff, Bool.or_eq_false_iff, decide_eq_true_eq, decide_eq_false_iff_not, Bool.not_eq_true', Bool.not_eq_false', beq_iff_eq, beq_eq_false_iff_ne, ne_eq] at hq); omega) ?_ | fail)
  refine W_rfn (.inl rfl) (fun lp R hR => Inl_of_W mixed Xt121 rfl (fun vs => ?_))
  simp (maxSteps := 400000) (disch := omega) only [push_cast, ↓reduceIte, reduceCtorEq, Nat.reduceAdd, Nat.reduceSub, Nat.reduceEqDiff, Nat.reduceLeDiff, Nat.reduceLT, Nat.reduceBEq, Nat.reduceDiv, Nat.reduceMod, Nat.reducePow, Nat.reduceMul, Int.reduceToNat, Int.reduceLT, Int.reduceLE]
  repeat' (first | refine WK_go ?_ | refine W_seqL ?_ | refine W_seq ?_ | refine W_block ?_ | refine W_scp ?_ | ((first | refine W_regL ?_ | refine W_skip ?_ | refine W_exit ?_); simp (maxSteps := 400000) (disch := omega) only [push_cast, ↓reduceIte, reduceCtorEq, Nat.reduceAdd, Nat.reduceSub, Nat.reduceEqDiff, Nat.reduceLeDiff, Nat.reduceLT, Nat.reduceBEq, Nat.reduceDiv, Nat.reduceMod, Nat.reducePow, Nat.reduceMul, Int.reduceToNat, Int.reduceLT, Int.reduceLE]) | refine And.intro (by omega) ?_ | refine And.intro (by intro hq; (try simp only [Bool.and_eq_true, Bool.or_eq_true, Bool.and_eq_false_iff, Bool.or_eq_false_iff, decide_eq_true_eq, decide_eq_false_iff_not, Bool.not_eq_true', Bool.not_eq_false', beq_iff_eq, beq_eq_false_iff_ne, ne_eq] at hq); omega) ?_ | fail)
  refine W_loopU (fun k : Nat => [(10, iv k)]) (fun k => []) (fun k => k ≤ 6 ∧ ∀ j, j < k → f j ≤ limL m l road j) (fun k => 6 - k) 0 ⟨by omega, fun j hj => by omega⟩ (by rfl) (by rfl) (fun k hk => ?_)
  obtain ⟨hk, hall⟩ := hk
  simp (maxSteps := 400000) (disch := omega) only [push_cast, ↓reduceIte, reduceCtorEq, Nat.reduceAdd, Nat.reduceSub, Nat.reduceEqDiff, Nat.reduceLeDiff, Nat.reduceLT, Nat.reduceBEq, Nat.reduceDiv, Nat.reduceMod, Nat.reducePow, Nat.reduceMul, Int.reduceToNat, Int.reduceLT, Int.reduceLE]
  repeat' (first | refine WK_go ?_ | refine W_seqL ?_ | refine W_seq ?_ | refine W_block ?_ | refine W_scp ?_ | ((first | refine W_regL ?_ | refine W_skip ?_ | refine W_exit ?_); simp (maxSteps := 400000) (disch := omega) only [push_cast, ↓reduceIte, reduceCtorEq, Nat.reduceAdd, Nat.reduceSub, Nat.reduceEqDiff, Nat.reduceLeDiff, Nat.reduceLT, Nat.reduceBEq, Nat.reduceDiv, Nat.reduceMod, Nat.reducePow, Nat.reduceMul, Int.reduceToNat, Int.reduceLT, Int.reduceLE]) | refine And.intro (by omega) ?_ | refine And.intro (by intro hq; (try simp only [Bool.and_eq_true, Bool.or_eq_true, Bool.and_eq_false_iff, Bool.or_eq_false_iff, decide_eq_true_eq, decide_eq_false_iff_not, Bool.not_eq_true', Bool.not_eq_false', beq_iff_eq, beq_eq_false_iff_ne, ne_eq] at hq); omega) ?_ | fail)
  refine W_condD (by rfl) (fun h5 => ?_) (fun h5 => ?_)
  · have hk6 : k < 6 := by omega
    have c122 := fn122 m f l s road k h hs hr hk6
    have us : limL m l road k < f k → usB m f l road = false := fun q => by
      rw [← Bool.not_eq_true]
      intro z
      have := usN_iff.1 z k hk6
      omega
    obtain ⟨n, hnl⟩ : ∃ n, n = limL m l road k := ⟨_, rfl⟩
    rw [← hnl] at c122 us
    by_cases q : n < f k
    · have qb : decide (n < f k) = true := decide_eq_true q
      repeat' (first | refine WK_go ?_ | refine W_seqL ?_ | refine W_seq ?_ | refine W_block ?_ | refine W_scp ?_ | ((first | refine W_regL ?_ | refine W_skip ?_ | refine W_exit ?_ | refine CallC.now (c122) ?_); simp (maxSteps := 400000) (disch := omega) only [push_cast, ↓reduceIte, reduceCtorEq, Nat.reduceAdd, Nat.reduceSub, Nat.reduceEqDiff, Nat.reduceLeDiff, Nat.reduceLT, Nat.reduceBEq, Nat.reduceDiv, Nat.reduceMod, Nat.reducePow, Nat.reduceMul, Int.reduceToNat, Int.reduceLT, Int.reduceLE, Nat.mul_one, Nat.zero_add, qb]) | refine And.intro (by omega) ?_ | refine And.intro (by intro hq; (try simp only [Bool.and_eq_true, Bool.or_eq_true, Bool.and_eq_false_iff, Bool.or_eq_false_iff, decide_eq_true_eq, decide_eq_false_iff_not, Bool.not_eq_true', Bool.not_eq_false', beq_iff_eq, beq_eq_false_iff_ne, ne_eq] at hq); omega) ?_ | fail)
      refine StopC.yld (fun hpc => ⟨trivial, Yl_of_W (k := 6) mixed hR rfl rfl rfl (fun vs2 => ?_)⟩) (fun hpc => absurd (by simp [pc]) hpc)
      refine W_skip ?_
      refine ⟨_, rfl, ?_⟩
      simp (maxSteps := 400000) (disch := omega) only [push_cast, ↓reduceIte, reduceCtorEq, Nat.reduceAdd, Nat.reduceSub, Nat.reduceEqDiff, Nat.reduceLeDiff, Nat.reduceLT, Nat.reduceBEq, Nat.reduceDiv, Nat.reduceMod, Nat.reducePow, Nat.reduceMul, Int.reduceToNat, Int.reduceLT, Int.reduceLE]
      repeat' (first | refine WK_go ?_ | refine W_seqL ?_ | refine W_seq ?_ | refine W_block ?_ | refine W_scp ?_ | ((first | refine W_regL ?_ | refine W_skip ?_ | refine W_exit ?_); simp (maxSteps := 400000) (disch := omega) only [push_cast, ↓reduceIte, reduceCtorEq, Nat.reduceAdd, Nat.reduceSub, Nat.reduceEqDiff, Nat.reduceLeDiff, Nat.reduceLT, Nat.reduceBEq, Nat.reduceDiv, Nat.reduceMod, Nat.reducePow, Nat.reduceMul, Int.reduceToNat, Int.reduceLT, Int.reduceLE]) | refine And.intro (by omega) ?_ | refine And.intro (by intro hq; (try simp only [Bool.and_eq_true, Bool.or_eq_true, Bool.and_eq_false_iff, Bool.or_eq_false_iff, decide_eq_true_eq, decide_eq_false_iff_not, Bool.not_eq_true', Bool.not_eq_false', beq_iff_eq, beq_eq_false_iff_ne, ne_eq] at hq); omega) ?_ | fail)
      refine W_ret ?_
      refine ⟨_, _, rfl, rfl, ?_⟩
      simp (maxSteps := 400000) (disch := omega) only [push_cast, ↓reduceIte, reduceCtorEq, Nat.reduceAdd, Nat.reduceSub, Nat.reduceEqDiff, Nat.reduceLeDiff, Nat.reduceLT, Nat.reduceBEq, Nat.reduceDiv, Nat.reduceMod, Nat.reducePow, Nat.reduceMul, Int.reduceToNat, Int.reduceLT, Int.reduceLE]
      repeat' (first | refine WK_go ?_ | refine W_seqL ?_ | refine W_seq ?_ | refine W_block ?_ | refine W_scp ?_ | ((first | refine W_regL ?_ | refine W_skip ?_ | refine W_exit ?_); simp (maxSteps := 400000) (disch := omega) only [push_cast, ↓reduceIte, reduceCtorEq, Nat.reduceAdd, Nat.reduceSub, Nat.reduceEqDiff, Nat.reduceLeDiff, Nat.reduceLT, Nat.reduceBEq, Nat.reduceDiv, Nat.reduceMod, Nat.reducePow, Nat.reduceMul, Int.reduceToNat, Int.reduceLT, Int.reduceLE]) | refine And.intro (by omega) ?_ | refine And.intro (by intro hq; (try simp only [Bool.and_eq_true, Bool.or_eq_true, Bool.and_eq_false_iff, Bool.or_eq_false_iff, decide_eq_true_eq, decide_eq_false_iff_not, Bool.not_eq_true', Bool.not_eq_false', beq_iff_eq, beq_eq_false_iff_ne, ne_eq] at hq); omega) ?_ | fail)
      refine W_cond (by rfl) (fun _ => ?_) (fun h => by cases h)
      repeat' (first | refine WK_go ?_ | refine W_seqL ?_ | refine W_seq ?_ | refine W_block ?_ | refine W_scp ?_ | ((first | refine W_regL ?_ | refine W_skip ?_ | refine W_exit ?_); simp (maxSteps := 400000) (disch := omega) only [push_cast, ↓reduceIte, reduceCtorEq, Nat.reduceAdd, Nat.reduceSub, Nat.reduceEqDiff, Nat.reduceLeDiff, Nat.reduceLT, Nat.reduceBEq, Nat.reduceDiv, Nat.reduceMod, Nat.reducePow, Nat.reduceMul, Int.reduceToNat, Int.reduceLT, Int.reduceLE]) | refine And.intro (by omega) ?_ | refine And.intro (by intro hq; (try simp only [Bool.and_eq_true, Bool.or_eq_true, Bool.and_eq_false_iff, Bool.or_eq_false_iff, decide_eq_true_eq, decide_eq_false_iff_not, Bool.not_eq_true', Bool.not_eq_false', beq_iff_eq, beq_eq_false_iff_ne, ne_eq] at hq); omega) ?_ | fail)
      refine W_ret ?_
      refine ⟨_, _, rfl, rfl, ⟨_, _, rfl, by simp [doneL], ?_⟩⟩
      rw [us q]
      simp (maxSteps := 400000) (disch := omega) only [push_cast, ↓reduceIte, reduceCtorEq, Nat.reduceAdd, Nat.reduceSub, Nat.reduceEqDiff, Nat.reduceLeDiff, Nat.reduceLT, Nat.reduceBEq, Nat.reduceDiv, Nat.reduceMod, Nat.reducePow, Nat.reduceMul, Int.reduceToNat, Int.reduceLT, Int.reduceLE, doneL, EndP]
      exact ⟨[_], ⟨⟨by simp, rfl⟩, rfl⟩, rfl⟩
    · have qb : decide (n < f k) = false := decide_eq_false q
      repeat' (first | refine WK_go ?_ | refine W_seqL ?_ | refine W_seq ?_ | refine W_block ?_ | refine W_scp ?_ | ((first | refine W_regL ?_ | refine W_skip ?_ | refine W_exit ?_ | refine CallC.now (c122) ?_); simp (maxSteps := 400000) (disch := omega) only [push_cast, ↓reduceIte, reduceCtorEq, Nat.reduceAdd, Nat.reduceSub, Nat.reduceEqDiff, Nat.reduceLeDiff, Nat.reduceLT, Nat.reduceBEq, Nat.reduceDiv, Nat.reduceMod, Nat.reducePow, Nat.reduceMul, Int.reduceToNat, Int.reduceLT, Int.reduceLE, Nat.mul_one, Nat.zero_add, qb]) | refine And.intro (by omega) ?_ | refine And.intro (by intro hq; (try simp only [Bool.and_eq_true, Bool.or_eq_true, Bool.and_eq_false_iff, Bool.or_eq_false_iff, decide_eq_true_eq, decide_eq_false_iff_not, Bool.not_eq_true', Bool.not_eq_false', beq_iff_eq, beq_eq_false_iff_ne, ne_eq] at hq); omega) ?_ | fail)
      refine StopC.yld (fun hpc => absurd hpc (by simp [pc])) (fun hpc => ?_)
      simp (maxSteps := 400000) (disch := omega) only [push_cast, ↓reduceIte, reduceCtorEq, Nat.reduceAdd, Nat.reduceSub, Nat.reduceEqDiff, Nat.reduceLeDiff, Nat.reduceLT, Nat.reduceBEq, Nat.reduceDiv, Nat.reduceMod, Nat.reducePow, Nat.reduceMul, Int.reduceToNat, Int.reduceLT, Int.reduceLE]
      repeat' (first | refine WK_go ?_ | refine W_seqL ?_ | refine W_seq ?_ | refine W_block ?_ | refine W_scp ?_ | ((first | refine W_regL ?_ | refine W_skip ?_ | refine W_exit ?_); simp (maxSteps := 400000) (disch := omega) only [push_cast, ↓reduceIte, reduceCtorEq, Nat.reduceAdd, Nat.reduceSub, Nat.reduceEqDiff, Nat.reduceLeDiff, Nat.reduceLT, Nat.reduceBEq, Nat.reduceDiv, Nat.reduceMod, Nat.reducePow, Nat.reduceMul, Int.reduceToNat, Int.reduceLT, Int.reduceLE]) | refine And.intro (by omega) ?_ | refine And.intro (by intro hq; (try simp only [Bool.and_eq_true, Bool.or_eq_true, Bool.and_eq_false_iff, Bool.or_eq_false_iff, decide_eq_true_eq, decide_eq_false_iff_not, Bool.not_eq_true', Bool.not_eq_false', beq_iff_eq, beq_eq_false_iff_ne, ne_eq] at hq); omega) ?_ | fail)
      refine W_cond (by rfl) (fun h => by cases h) (fun _ => ?_)
      repeat' (first | refine WK_go ?_ | refine W_seqL ?_ | refine W_seq ?_ | refine W_block ?_ | refine W_scp ?_ | ((first | refine W_regL ?_ | refine W_skip ?_ | refine W_exit ?_); simp (maxSteps := 400000) (disch := omega) only [push_cast, ↓reduceIte, reduceCtorEq, Nat.reduceAdd, Nat.reduceSub, Nat.reduceEqDiff, Nat.reduceLeDiff, Nat.reduceLT, Nat.reduceBEq, Nat.reduceDiv, Nat.reduceMod, Nat.reducePow, Nat.reduceMul, Int.reduceToNat, Int.reduceLT, Int.reduceLE]) | refine And.intro (by omega) ?_ | refine And.intro (by intro hq; (try simp only [Bool.and_eq_true, Bool.or_eq_true, Bool.and_eq_false_iff, Bool.or_eq_false_iff, decide_eq_true_eq, decide_eq_false_iff_not, Bool.not_eq_true', Bool.not_eq_false', beq_iff_eq, beq_eq_false_iff_ne, ne_eq] at hq); omega) ?_ | fail)
      refine ⟨k + 1, ⟨by omega, up_all hall (by rw [← hnl]; omega)⟩, by omega, by rfl, ?_⟩
      simp (maxSteps := 400000) (disch := omega) only [push_cast, ↓reduceIte, reduceCtorEq, Nat.reduceAdd, Nat.reduceSub, Nat.reduceEqDiff, Nat.reduceLeDiff, Nat.reduceLT, Nat.reduceBEq, Nat.reduceDiv, Nat.reduceMod, Nat.reducePow, Nat.reduceMul, Int.reduceToNat, Int.reduceLT, Int.reduceLE, S.mk.injEq, List.cons.injEq, Prod.mk.injEq, AV.v.injEq, Value.int.injEq, Value.bool.injEq, Blk.cells.injEq]
  · have e : usB m f l road = true := usN_iff.2 (fun j hj => hall j (by omega))
    rw [e]
    repeat' (first | refine WK_go ?_ | refine W_seqL ?_ | refine W_seq ?_ | refine W_block ?_ | refine W_scp ?_ | ((first | refine W_regL ?_ | refine W_skip ?_ | refine W_exit ?_); simp (maxSteps := 400000) (disch := omega) only [push_cast, ↓reduceIte, reduceCtorEq, Nat.reduceAdd, Nat.reduceSub, Nat.reduceEqDiff, Nat.reduceLeDiff, Nat.reduceLT, Nat.reduceBEq, Nat.reduceDiv, Nat.reduceMod, Nat.reducePow, Nat.reduceMul, Int.reduceToNat, Int.reduceLT, Int.reduceLE]) | refine And.intro (by omega) ?_ | refine And.intro (by intro hq; (try simp only [Bool.and_eq_true, Bool.or_eq_true, Bool.and_eq_false_iff, Bool.or_eq_false_iff, decide_eq_true_eq, decide_eq_false_iff_not, Bool.not_eq_true', Bool.not_eq_false', beq_iff_eq, beq_eq_false_iff_ne, ne_eq] at hq); omega) ?_ | fail)
    refine ⟨_, _, rfl, rfl, ⟨_, _, rfl, by rw [hR.st]; simp, ?_⟩⟩
    rw [hR.pe]
    simp (maxSteps := 400000) (disch := omega) only [push_cast, ↓reduceIte, reduceCtorEq, Nat.reduceAdd, Nat.reduceSub, Nat.reduceEqDiff, Nat.reduceLeDiff, Nat.reduceLT, Nat.reduceBEq, Nat.reduceDiv, Nat.reduceMod, Nat.reducePow, Nat.reduceMul, Int.reduceToNat, Int.reduceLT, Int.reduceLE, EndP]
    repeat' (first | refine WK_go ?_ | refine W_seqL ?_ | refine W_seq ?_ | refine W_block ?_ | refine W_scp ?_ | ((first | refine W_regL ?_ | refine W_skip ?_ | refine W_exit ?_); simp (maxSteps := 400000) (disch := omega) only [push_cast, ↓reduceIte, reduceCtorEq, Nat.reduceAdd, Nat.reduceSub, Nat.reduceEqDiff, Nat.reduceLeDiff, Nat.reduceLT, Nat.reduceBEq, Nat.reduceDiv, Nat.reduceMod, Nat.reducePow, Nat.reduceMul, Int.reduceToNat, Int.reduceLT, Int.reduceLE]) | refine And.intro (by omega) ?_ | refine And.intro (by intro hq; (try simp only [Bool.and_eq_true, Bool.or_eq_true, Bool.and_eq_false_iff, Bool.or_eq_false_iff, decide_eq_true_eq, decide_eq_false_iff_not, Bool.not_eq_true', Bool.not_eq_false', beq_iff_eq, beq_eq_false_iff_ne, ne_eq] at hq); omega) ?_ | fail)
    exact W_ret ⟨[_], ⟨⟨by simp, rfl⟩, rfl⟩, rfl⟩
theorem fn58 (m : Mp) (f : Nat → Int) (s : Nat) : Sy.Fn Try.prog 58 [aAt m f, uv s] (.clo 116 [] [.fp (cAt m f) 0, .fp [uv s] 0]) := by
  refine Fn_of_W mixed Xt58 rfl ?_
  repeat' (first | refine WK_go ?_ | refine W_seqL ?_ | refine W_seq ?_ | refine W_block ?_ | refine W_scp ?_ | ((first | refine W_regL ?_ | refine W_skip ?_ | refine W_exit ?_); simp (maxSteps := 400000) (disch := omega) only [push_cast, ↓reduceIte, reduceCtorEq, Nat.reduceAdd, Nat.reduceSub, Nat.reduceEqDiff, Nat.reduceLeDiff, Nat.reduceLT, Nat.reduceBEq, Nat.reduceDiv, Nat.reduceMod, Nat.reducePow, Nat.reduceMul, Int.reduceToNat, Int.reduceLT, Int.reduceLE]) | refine And.intro (by omega) ?_ | refine And.intro (by intro hq; (try simp only [Bool.and_eq_true, Bool.or_eq_true, Bool.and_eq_false_iff, Bool.or_eq_false_iff, decide_eq_true_eq, decide_eq_false_iff_not, Bool.not_eq_true', Bool.not_eq_false', beq_iff_eq, beq_eq_false_iff_ne, ne_eq] at hq); omega) ?_ | fail)
  exact W_ret ⟨[_], ⟨rfl, rfl⟩, rfl⟩
theorem fn116 (m : Mp) (f : Nat → Int) (l : List Int) (s : Nat) (road : Nat) (h : OkM m) (hs : SetW m l s) (hr : road < m.rs.length) : Sy.Fn Try.prog 116 [iv road, .fp (cAt m f) 0, .fp [uv s] 0] (iv (edB m (usB m f l) road).c) := by
  refine Fn_of_W mixed Xt116 rfl ?_
  have hgr : m.rs.getD road dR = gr m road := rfl
  have e : (edB m (usB m f l) road).c = if usB m f l road = true then (gr m road).c else -1 := rfl
  rw [e]
  repeat' (first | refine WK_go ?_ | refine W_seqL ?_ | refine W_seq ?_ | refine W_block ?_ | refine W_scp ?_ | ((first | refine W_regL ?_ | refine W_skip ?_ | refine W_exit ?_ | refine CallC.now (fn64 m f l s road h hs hr) ?_); simp (maxSteps := 400000) (disch := omega) only [push_cast, ↓reduceIte, reduceCtorEq, Nat.reduceAdd, Nat.reduceSub, Nat.reduceEqDiff, Nat.reduceLeDiff, Nat.reduceLT, Nat.reduceBEq, Nat.reduceDiv, Nat.reduceMod, Nat.reducePow, Nat.reduceMul, Int.reduceToNat, Int.reduceLT, Int.reduceLE]) | refine And.intro (by omega) ?_ | refine And.intro (by intro hq; (try simp only [Bool.and_eq_true, Bool.or_eq_true, Bool.and_eq_false_iff, Bool.or_eq_false_iff, decide_eq_true_eq, decide_eq_false_iff_not, Bool.not_eq_true', Bool.not_eq_false', beq_iff_eq, beq_eq_false_iff_ne, ne_eq] at hq); omega) ?_ | fail)
  cases usB m f l road
  · refine W_cond (by rfl) (fun _ => ?_) (fun h => by cases h)
    repeat' (first | refine WK_go ?_ | refine W_seqL ?_ | refine W_seq ?_ | refine W_block ?_ | refine W_scp ?_ | ((first | refine W_regL ?_ | refine W_skip ?_ | refine W_exit ?_); simp (maxSteps := 400000) (disch := omega) only [push_cast, ↓reduceIte, reduceCtorEq, Nat.reduceAdd, Nat.reduceSub, Nat.reduceEqDiff, Nat.reduceLeDiff, Nat.reduceLT, Nat.reduceBEq, Nat.reduceDiv, Nat.reduceMod, Nat.reducePow, Nat.reduceMul, Int.reduceToNat, Int.reduceLT, Int.reduceLE]) | refine And.intro (by omega) ?_ | refine And.intro (by intro hq; (try simp only [Bool.and_eq_true, Bool.or_eq_true, Bool.and_eq_false_iff, Bool.or_eq_false_iff, decide_eq_true_eq, decide_eq_false_iff_not, Bool.not_eq_true', Bool.not_eq_false', beq_iff_eq, beq_eq_false_iff_ne, ne_eq] at hq); omega) ?_ | fail)
    exact W_ret ⟨[_], ⟨rfl, rfl⟩, rfl⟩
  · refine W_cond (by rfl) (fun h => by cases h) (fun _ => ?_)
    repeat' (first | refine WK_go ?_ | refine W_seqL ?_ | refine W_seq ?_ | refine W_block ?_ | refine W_scp ?_ | ((first | refine W_regL ?_ | refine W_skip ?_ | refine W_exit ?_); simp (maxSteps := 400000) (disch := omega) only [push_cast, ↓reduceIte, reduceCtorEq, Nat.reduceAdd, Nat.reduceSub, Nat.reduceEqDiff, Nat.reduceLeDiff, Nat.reduceLT, Nat.reduceBEq, Nat.reduceDiv, Nat.reduceMod, Nat.reducePow, Nat.reduceMul, Int.reduceToNat, Int.reduceLT, Int.reduceLE, hgr]) | refine And.intro (by omega) ?_ | refine And.intro (by intro hq; (try simp only [Bool.and_eq_true, Bool.or_eq_true, Bool.and_eq_false_iff, Bool.or_eq_false_iff, decide_eq_true_eq, decide_eq_false_iff_not, Bool.not_eq_true', Bool.not_eq_false', beq_iff_eq, beq_eq_false_iff_ne, ne_eq] at hq); omega) ?_ | fail)
    exact W_ret ⟨[_], ⟨rfl, rfl⟩, rfl⟩
end Go.Proofs.Ytfbdlmenhoagmaa

namespace Go.Proofs.Ytfbdlmenhoagmaa
open Go Sy
set_option maxRecDepth 100000
set_option maxHeartbeats 4000000
set_option linter.unusedVariables false
set_option linter.unusedSimpArgs false
def tbl (n : Nat) (g : Nat → Int) : List Int := (List.range n).map g
theorem tbl_len (n : Nat) (g : Nat → Int) : (tbl n g).length = n := by simp [tbl]
theorem tbl_at {n j : Nat} (g : Nat → Int) (h : j < n) : (tbl n g).getD j 0 = g j := by simp [tbl, List.getD, h]
theorem tbl_congr {n : Nat} {g h : Nat → Int} (hh : ∀ i, i < n → g i = h i) : tbl n g = tbl n h := List.map_congr_left (fun i hi => hh i (List.mem_range.1 hi))
theorem tbl_set {n j : Nat} {g h : Nat → Int} {v : Int} (hj : h j = v) (hh : ∀ i, i < n → i ≠ j → g i = h i) : (tbl n g).set j v = tbl n h := by
  apply List.ext_getElem (by rw [List.length_set, tbl_len, tbl_len])
  intro i h1 h2
  rw [tbl_len] at h2
  rw [List.getElem_set]
  split
  · rename_i q; subst q; rw [← hj]; simp [tbl]
  · rename_i q
    simp only [tbl, List.getElem_map, List.getElem_range]
    exact hh i h2 (fun e => q e.symm)
theorem tbl_rep (n : Nat) (v : Int) : tbl n (fun _ => v) = List.replicate n v := by
  unfold tbl
  rw [List.eq_replicate_iff]
  refine ⟨by simp, fun b hb => ?_⟩
  obtain ⟨i, _, rfl⟩ := List.mem_map.1 hb
  rfl
def upT (g : Nat → Int) (j i : Nat) : Int := if i < j then g i else 0
theorem upT_zero (g : Nat → Int) (n : Nat) : tbl n (upT g 0) = List.replicate n 0 := by
  rw [← tbl_rep]
  exact tbl_congr (fun i _ => by unfold upT; rw [if_neg (by omega)])
theorem upT_set (g : Nat → Int) {j n : Nat} : (tbl n (upT g j)).set j (g j) = tbl n (upT g (j + 1)) := tbl_set (by unfold upT; rw [if_pos (by omega)]) (fun i _ hi => by
  unfold upT
  by_cases r : i < j
  · rw [if_pos r, if_pos (by omega)]
  · rw [if_neg r, if_neg (by omega)])
theorem upT_all (g : Nat → Int) (n : Nat) : tbl n (upT g n) = tbl n g := tbl_congr (fun i hi => by unfold upT; rw [if_pos hi])
def edC (m : Mp) (bk : Bool) (c : Nat → Int) (i : Nat) : Edg := if bk = true then ⟨(gr m i).t.toNat, (gr m i).f.toNat, c i⟩ else ⟨(gr m i).f.toNat, (gr m i).t.toNat, c i⟩
def edgC (m : Mp) (bk : Bool) (c : Nat → Int) : List Edg := (List.range m.rs.length).map (edC m bk c)
theorem edgC_ok {m : Mp} (h : OkM m) (bk : Bool) {c : Nat → Int} (hc : ∀ i, i < m.rs.length → 0 ≤ c i → 1 ≤ c i) : (∀ e ∈ edgC m bk c, e.x < m.n.toNat ∧ e.y < m.n.toNat) ∧ ∀ e ∈ edgC m bk c, 0 ≤ e.c → 1 ≤ e.c := by
  constructor
  · intro e he
    obtain ⟨i, hi, rfl⟩ := List.mem_map.1 he
    have hr := roadB_ok (h.r i (List.mem_range.1 hi))
    have := hr.f
    have := hr.t
    unfold edC
    split
    · constructor
      · show (gr m i).t.toNat < _; omega
      · show (gr m i).f.toNat < _; omega
    · constructor
      · show (gr m i).f.toNat < _; omega
      · show (gr m i).t.toNat < _; omega
  · intro e he h0
    obtain ⟨i, hi, rfl⟩ := List.mem_map.1 he
    have hi := List.mem_range.1 hi
    have e : (edC m bk c i).c = c i := by unfold edC; split <;> rfl
    rw [e] at h0 ⊢
    exact hc i hi h0
theorem take_edC {m : Mp} {bk : Bool} {c : Nat → Int} {i : Nat} (h : i < m.rs.length) : (edgC m bk c).take (i + 1) = (edgC m bk c).take i ++ [edC m bk c i] := by
  rw [List.take_succ_eq_append_getElem (by simp [edgC]; exact h)]
  simp [edgC]
theorem pas_snoc (o : List Int) (es : List Edg) (e : Edg) : pas o (es ++ [e]) = stp (pas o es) e := by
  unfold pas
  rw [List.foldl_append]; rfl
def dstC (m : Mp) (bk : Bool) (c : Nat → Int) (a : Int) : List Int := dst (edgC m bk c) m.n.toNat a.toNat
theorem w57 (m : Mp) (f : Nat → Int) (a : Int) (bk : Bool) (g : Nat) (fi ca : List AV) (c : Nat → Int) (h : OkM m) (ha : 0 ≤ a ∧ a < m.n) (hc : ∀ i, i < m.rs.length → 0 ≤ c i → 1 ≤ c i) (hcb : ∀ i, i < m.rs.length → -1099511627776 ≤ c i ∧ c i ≤ 1099511627776)
    (hg : ∀ i, i < m.rs.length → Sy.Fn Try.prog g (fi ++ [iv (i : Nat)] ++ ca) (iv (c i))) : W Try.prog 102 Xn57_0 (init [aAt m f, iv a, bv bk, .clo g fi ca]) (FinO [.t 8] 2 1 0 cI (dstC m bk c a)) := by
  have hn := h.n
  have hnr := h.nr
  obtain ⟨n, hnn⟩ : ∃ n : Nat, m.n = n := ⟨m.n.toNat, by omega⟩
  repeat' (first | refine WK_go ?_ | refine W_seqL ?_ | refine W_seq ?_ | refine W_block ?_ | refine W_scp ?_ | ((first | refine W_regL ?_ | refine W_skip ?_ | refine W_exit ?_); simp (maxSteps := 400000) (disch := omega) only [push_cast, ↓reduceIte, reduceCtorEq, Nat.reduceAdd, Nat.reduceSub, Nat.reduceEqDiff, Nat.reduceLeDiff, Nat.reduceLT, Nat.reduceBEq, Nat.reduceDiv, Nat.reduceMod, Nat.reducePow, Nat.reduceMul, Int.reduceToNat, Int.reduceLT, Int.reduceLE, hnn]) | refine And.intro (by omega) ?_ | refine And.intro (by intro hq; (try simp only [Bool.and_eq_true, Bool.or_eq_true, Bool.and_eq_false_iff, Bool.or_eq_false_iff, decide_eq_true_eq, decide_eq_false_iff_not, Bool.not_eq_true', Bool.not_eq_false', beq_iff_eq, beq_eq_false_iff_ne, ne_eq] at hq); omega) ?_ | fail)
  refine ⟨rfl, ⟨by omega, by omega, by omega⟩, Int, 0, cI, 0, rfl, rfl, by omega, rfl, ?_⟩
  simp (maxSteps := 400000) (disch := omega) only [push_cast, ↓reduceIte, reduceCtorEq, Nat.reduceAdd, Nat.reduceSub, Nat.reduceEqDiff, Nat.reduceLeDiff, Nat.reduceLT, Nat.reduceBEq, Nat.reduceDiv, Nat.reduceMod, Nat.reducePow, Nat.reduceMul, Int.reduceToNat, Int.reduceLT, Int.reduceLE, Int.toNat_natCast]
  repeat' (first | refine WK_go ?_ | refine W_seqL ?_ | refine W_seq ?_ | refine W_block ?_ | refine W_scp ?_ | ((first | refine W_regL ?_ | refine W_skip ?_ | refine W_exit ?_); simp (maxSteps := 400000) (disch := omega) only [push_cast, ↓reduceIte, reduceCtorEq, Nat.reduceAdd, Nat.reduceSub, Nat.reduceEqDiff, Nat.reduceLeDiff, Nat.reduceLT, Nat.reduceBEq, Nat.reduceDiv, Nat.reduceMod, Nat.reducePow, Nat.reduceMul, Int.reduceToNat, Int.reduceLT, Int.reduceLE, List.length_replicate]) | refine And.intro (by omega) ?_ | refine And.intro (by intro hq; (try simp only [Bool.and_eq_true, Bool.or_eq_true, Bool.and_eq_false_iff, Bool.or_eq_false_iff, decide_eq_true_eq, decide_eq_false_iff_not, Bool.not_eq_true', Bool.not_eq_false', beq_iff_eq, beq_eq_false_iff_ne, ne_eq] at hq); omega) ?_ | fail)
  refine W_loopU (fun j : Nat => [(25, iv j)]) (fun j => [(5, .row 0 2 1 0 cI (tbl n (upT (fun _ => far) j)))]) (fun j => j ≤ n) (fun j => n - j) 0 (by omega) (by rfl) (by rw [upT_zero]; rfl) (fun j hj => ?_)
  have tl := tbl_len n (upT (fun _ => far) j)
  simp (maxSteps := 400000) (disch := omega) only [push_cast, ↓reduceIte, reduceCtorEq, Nat.reduceAdd, Nat.reduceSub, Nat.reduceEqDiff, Nat.reduceLeDiff, Nat.reduceLT, Nat.reduceBEq, Nat.reduceDiv, Nat.reduceMod, Nat.reducePow, Nat.reduceMul, Int.reduceToNat, Int.reduceLT, Int.reduceLE]
  repeat' (first | refine WK_go ?_ | refine W_seqL ?_ | refine W_seq ?_ | refine W_block ?_ | refine W_scp ?_ | ((first | refine W_regL ?_ | refine W_skip ?_ | refine W_exit ?_); simp (maxSteps := 400000) (disch := omega) only [push_cast, ↓reduceIte, reduceCtorEq, Nat.reduceAdd, Nat.reduceSub, Nat.reduceEqDiff, Nat.reduceLeDiff, Nat.reduceLT, Nat.reduceBEq, Nat.reduceDiv, Nat.reduceMod, Nat.reducePow, Nat.reduceMul, Int.reduceToNat, Int.reduceLT, Int.reduceLE]) | refine And.intro (by omega) ?_ | refine And.intro (by intro hq; (try simp only [Bool.and_eq_true, Bool.or_eq_true, Bool.and_eq_false_iff, Bool.or_eq_false_iff, decide_eq_true_eq, decide_eq_false_iff_not, Bool.not_eq_true', Bool.not_eq_false', beq_iff_eq, beq_eq_false_iff_ne, ne_eq] at hq); omega) ?_ | fail)
  refine W_condD (by rfl) (fun h5 => ?_) (fun h5 => ?_)
  · have e3 := upT_set (fun _ => far) (j := j) (n := n)
    repeat' (first | refine WK_go ?_ | refine W_seqL ?_ | refine W_seq ?_ | refine W_block ?_ | refine W_scp ?_ | ((first | refine W_regL ?_ | refine W_skip ?_ | refine W_exit ?_); simp (maxSteps := 400000) (disch := omega) only [push_cast, ↓reduceIte, reduceCtorEq, Nat.reduceAdd, Nat.reduceSub, Nat.reduceEqDiff, Nat.reduceLeDiff, Nat.reduceLT, Nat.reduceBEq, Nat.reduceDiv, Nat.reduceMod, Nat.reducePow, Nat.reduceMul, Int.reduceToNat, Int.reduceLT, Int.reduceLE, tl]) | refine And.intro (by omega) ?_ | refine And.intro (by intro hq; (try simp only [Bool.and_eq_true, Bool.or_eq_true, Bool.and_eq_false_iff, Bool.or_eq_false_iff, decide_eq_true_eq, decide_eq_false_iff_not, Bool.not_eq_true', Bool.not_eq_false', beq_iff_eq, beq_eq_false_iff_ne, ne_eq] at hq); omega) ?_ | fail)
    refine ⟨rfl, ⟨Nat.le_of_ble_eq_true rfl, rfl⟩, by omega, far, rfl, rfl, ?_⟩
    rw [e3]
    simp (maxSteps := 400000) (disch := omega) only [push_cast, ↓reduceIte, reduceCtorEq, Nat.reduceAdd, Nat.reduceSub, Nat.reduceEqDiff, Nat.reduceLeDiff, Nat.reduceLT, Nat.reduceBEq, Nat.reduceDiv, Nat.reduceMod, Nat.reducePow, Nat.reduceMul, Int.reduceToNat, Int.reduceLT, Int.reduceLE]
    repeat' (first | refine WK_go ?_ | refine W_seqL ?_ | refine W_seq ?_ | refine W_block ?_ | refine W_scp ?_ | ((first | refine W_regL ?_ | refine W_skip ?_ | refine W_exit ?_); simp (maxSteps := 400000) (disch := omega) only [push_cast, ↓reduceIte, reduceCtorEq, Nat.reduceAdd, Nat.reduceSub, Nat.reduceEqDiff, Nat.reduceLeDiff, Nat.reduceLT, Nat.reduceBEq, Nat.reduceDiv, Nat.reduceMod, Nat.reducePow, Nat.reduceMul, Int.reduceToNat, Int.reduceLT, Int.reduceLE]) | refine And.intro (by omega) ?_ | refine And.intro (by intro hq; (try simp only [Bool.and_eq_true, Bool.or_eq_true, Bool.and_eq_false_iff, Bool.or_eq_false_iff, decide_eq_true_eq, decide_eq_false_iff_not, Bool.not_eq_true', Bool.not_eq_false', beq_iff_eq, beq_eq_false_iff_ne, ne_eq] at hq); omega) ?_ | fail)
    refine ⟨j + 1, by omega, by omega, by rfl, ?_⟩
    simp (maxSteps := 400000) (disch := omega) only [push_cast, ↓reduceIte, reduceCtorEq, Nat.reduceAdd, Nat.reduceSub, Nat.reduceEqDiff, Nat.reduceLeDiff, Nat.reduceLT, Nat.reduceBEq, Nat.reduceDiv, Nat.reduceMod, Nat.reducePow, Nat.reduceMul, Int.reduceToNat, Int.reduceLT, Int.reduceLE, S.mk.injEq, List.cons.injEq, Prod.mk.injEq, AV.v.injEq, Value.int.injEq, Value.bool.injEq, Blk.cells.injEq]
  have hjn : j = n := by omega
  subst hjn
  have ea : (a.toNat : Int) = a := by omega
  have ei : (tbl j (upT (fun _ => far) j)).set a.toNat 0 = ini j a.toNat := by rw [upT_all, tbl_rep]; rfl
  repeat' (first | refine WK_go ?_ | refine W_seqL ?_ | refine W_seq ?_ | refine W_block ?_ | refine W_scp ?_ | ((first | refine W_regL ?_ | refine W_skip ?_ | refine W_exit ?_); simp (maxSteps := 400000) (disch := omega) only [push_cast, ↓reduceIte, reduceCtorEq, Nat.reduceAdd, Nat.reduceSub, Nat.reduceEqDiff, Nat.reduceLeDiff, Nat.reduceLT, Nat.reduceBEq, Nat.reduceDiv, Nat.reduceMod, Nat.reducePow, Nat.reduceMul, Int.reduceToNat, Int.reduceLT, Int.reduceLE, tl]) | refine And.intro (by omega) ?_ | refine And.intro (by intro hq; (try simp only [Bool.and_eq_true, Bool.or_eq_true, Bool.and_eq_false_iff, Bool.or_eq_false_iff, decide_eq_true_eq, decide_eq_false_iff_not, Bool.not_eq_true', Bool.not_eq_false', beq_iff_eq, beq_eq_false_iff_ne, ne_eq] at hq); omega) ?_ | fail)
  refine ⟨rfl, ⟨Nat.le_of_ble_eq_true rfl, rfl⟩, by omega, 0, rfl, rfl, ?_⟩
  rw [ei]
  simp (maxSteps := 400000) (disch := omega) only [push_cast, ↓reduceIte, reduceCtorEq, Nat.reduceAdd, Nat.reduceSub, Nat.reduceEqDiff, Nat.reduceLeDiff, Nat.reduceLT, Nat.reduceBEq, Nat.reduceDiv, Nat.reduceMod, Nat.reducePow, Nat.reduceMul, Int.reduceToNat, Int.reduceLT, Int.reduceLE]
  repeat' (first | refine WK_go ?_ | refine W_seqL ?_ | refine W_seq ?_ | refine W_block ?_ | refine W_scp ?_ | ((first | refine W_regL ?_ | refine W_skip ?_ | refine W_exit ?_); simp (maxSteps := 400000) (disch := omega) only [push_cast, ↓reduceIte, reduceCtorEq, Nat.reduceAdd, Nat.reduceSub, Nat.reduceEqDiff, Nat.reduceLeDiff, Nat.reduceLT, Nat.reduceBEq, Nat.reduceDiv, Nat.reduceMod, Nat.reducePow, Nat.reduceMul, Int.reduceToNat, Int.reduceLT, Int.reduceLE]) | refine And.intro (by omega) ?_ | refine And.intro (by intro hq; (try simp only [Bool.and_eq_true, Bool.or_eq_true, Bool.and_eq_false_iff, Bool.or_eq_false_iff, decide_eq_true_eq, decide_eq_false_iff_not, Bool.not_eq_true', Bool.not_eq_false', beq_iff_eq, beq_eq_false_iff_ne, ne_eq] at hq); omega) ?_ | fail)
  refine ⟨rfl, ⟨by omega, by omega, by omega⟩, Int, 0, cI, 0, rfl, rfl, by omega, rfl, ?_⟩
  simp (maxSteps := 400000) (disch := omega) only [push_cast, ↓reduceIte, reduceCtorEq, Nat.reduceAdd, Nat.reduceSub, Nat.reduceEqDiff, Nat.reduceLeDiff, Nat.reduceLT, Nat.reduceBEq, Nat.reduceDiv, Nat.reduceMod, Nat.reducePow, Nat.reduceMul, Int.reduceToNat, Int.reduceLT, Int.reduceLE, Int.toNat_natCast]
  repeat' (first | refine WK_go ?_ | refine W_seqL ?_ | refine W_seq ?_ | refine W_block ?_ | refine W_scp ?_ | ((first | refine W_regL ?_ | refine W_skip ?_ | refine W_exit ?_); simp (maxSteps := 400000) (disch := omega) only [push_cast, ↓reduceIte, reduceCtorEq, Nat.reduceAdd, Nat.reduceSub, Nat.reduceEqDiff, Nat.reduceLeDiff, Nat.reduceLT, Nat.reduceBEq, Nat.reduceDiv, Nat.reduceMod, Nat.reducePow, Nat.reduceMul, Int.reduceToNat, Int.reduceLT, Int.reduceLE, List.length_replicate]) | refine And.intro (by omega) ?_ | refine And.intro (by intro hq; (try simp only [Bool.and_eq_true, Bool.or_eq_true, Bool.and_eq_false_iff, Bool.or_eq_false_iff, decide_eq_true_eq, decide_eq_false_iff_not, Bool.not_eq_true', Bool.not_eq_false', beq_iff_eq, beq_eq_false_iff_ne, ne_eq] at hq); omega) ?_ | fail)
  refine W_loopU (fun i : Nat => [(42, iv i)]) (fun i => [(19, .row 0 2 1 0 cI (tbl m.rs.length (upT c i)))]) (fun i => i ≤ m.rs.length) (fun i => m.rs.length - i) 0 (by omega) (by rfl) (by rw [upT_zero]; rfl) (fun i hi => ?_)
  have tc := tbl_len m.rs.length (upT c i)
  simp (maxSteps := 400000) (disch := omega) only [push_cast, ↓reduceIte, reduceCtorEq, Nat.reduceAdd, Nat.reduceSub, Nat.reduceEqDiff, Nat.reduceLeDiff, Nat.reduceLT, Nat.reduceBEq, Nat.reduceDiv, Nat.reduceMod, Nat.reducePow, Nat.reduceMul, Int.reduceToNat, Int.reduceLT, Int.reduceLE]
  repeat' (first | refine WK_go ?_ | refine W_seqL ?_ | refine W_seq ?_ | refine W_block ?_ | refine W_scp ?_ | ((first | refine W_regL ?_ | refine W_skip ?_ | refine W_exit ?_); simp (maxSteps := 400000) (disch := omega) only [push_cast, ↓reduceIte, reduceCtorEq, Nat.reduceAdd, Nat.reduceSub, Nat.reduceEqDiff, Nat.reduceLeDiff, Nat.reduceLT, Nat.reduceBEq, Nat.reduceDiv, Nat.reduceMod, Nat.reducePow, Nat.reduceMul, Int.reduceToNat, Int.reduceLT, Int.reduceLE]) | refine And.intro (by omega) ?_ | refine And.intro (by intro hq; (try simp only [Bool.and_eq_true, Bool.or_eq_true, Bool.and_eq_false_iff, Bool.or_eq_false_iff, decide_eq_true_eq, decide_eq_false_iff_not, Bool.not_eq_true', Bool.not_eq_false', beq_iff_eq, beq_eq_false_iff_ne, ne_eq] at hq); omega) ?_ | fail)
  refine W_condD (by rfl) (fun h6 => ?_) (fun h6 => ?_)
  · have hlt : i < m.rs.length := by omega
    have e3 := upT_set c (j := i) (n := m.rs.length)
    have cg := hg i hlt
    repeat' (first | refine WK_go ?_ | refine W_seqL ?_ | refine W_seq ?_ | refine W_block ?_ | refine W_scp ?_ | ((first | refine W_regL ?_ | refine W_skip ?_ | refine W_exit ?_ | refine CallC.now (cg) ?_); simp (maxSteps := 400000) (disch := omega) only [push_cast, ↓reduceIte, reduceCtorEq, Nat.reduceAdd, Nat.reduceSub, Nat.reduceEqDiff, Nat.reduceLeDiff, Nat.reduceLT, Nat.reduceBEq, Nat.reduceDiv, Nat.reduceMod, Nat.reducePow, Nat.reduceMul, Int.reduceToNat, Int.reduceLT, Int.reduceLE, tc]) | refine And.intro (by omega) ?_ | refine And.intro (by intro hq; (try simp only [Bool.and_eq_true, Bool.or_eq_true, Bool.and_eq_false_iff, Bool.or_eq_false_iff, decide_eq_true_eq, decide_eq_false_iff_not, Bool.not_eq_true', Bool.not_eq_false', beq_iff_eq, beq_eq_false_iff_ne, ne_eq] at hq); omega) ?_ | fail)
    refine ⟨rfl, ⟨Nat.le_of_ble_eq_true rfl, rfl⟩, by omega, c i, rfl, rfl, ?_⟩
    rw [e3]
    simp (maxSteps := 400000) (disch := omega) only [push_cast, ↓reduceIte, reduceCtorEq, Nat.reduceAdd, Nat.reduceSub, Nat.reduceEqDiff, Nat.reduceLeDiff, Nat.reduceLT, Nat.reduceBEq, Nat.reduceDiv, Nat.reduceMod, Nat.reducePow, Nat.reduceMul, Int.reduceToNat, Int.reduceLT, Int.reduceLE]
    repeat' (first | refine WK_go ?_ | refine W_seqL ?_ | refine W_seq ?_ | refine W_block ?_ | refine W_scp ?_ | ((first | refine W_regL ?_ | refine W_skip ?_ | refine W_exit ?_); simp (maxSteps := 400000) (disch := omega) only [push_cast, ↓reduceIte, reduceCtorEq, Nat.reduceAdd, Nat.reduceSub, Nat.reduceEqDiff, Nat.reduceLeDiff, Nat.reduceLT, Nat.reduceBEq, Nat.reduceDiv, Nat.reduceMod, Nat.reducePow, Nat.reduceMul, Int.reduceToNat, Int.reduceLT, Int.reduceLE]) | refine And.intro (by omega) ?_ | refine And.intro (by intro hq; (try simp only [Bool.and_eq_true, Bool.or_eq_true, Bool.and_eq_false_iff, Bool.or_eq_false_iff, decide_eq_true_eq, decide_eq_false_iff_not, Bool.not_eq_true', Bool.not_eq_false', beq_iff_eq, beq_eq_false_iff_ne, ne_eq] at hq); omega) ?_ | fail)
    refine ⟨i + 1, by omega, by omega, by rfl, ?_⟩
    simp (maxSteps := 400000) (disch := omega) only [push_cast, ↓reduceIte, reduceCtorEq, Nat.reduceAdd, Nat.reduceSub, Nat.reduceEqDiff, Nat.reduceLeDiff, Nat.reduceLT, Nat.reduceBEq, Nat.reduceDiv, Nat.reduceMod, Nat.reducePow, Nat.reduceMul, Int.reduceToNat, Int.reduceLT, Int.reduceLE, S.mk.injEq, List.cons.injEq, Prod.mk.injEq, AV.v.injEq, Value.int.injEq, Value.bool.injEq, Blk.cells.injEq]
  have hin : i = m.rs.length := by omega
  rw [hin, upT_all]
  clear tc tl ei h5 hj h6 hi
  obtain ⟨es, hes⟩ : ∃ es, es = edgC m bk c := ⟨_, rfl⟩
  obtain ⟨k1, k2⟩ := edgC_ok h bk hc
  rw [← hes, hnn, Int.toNat_natCast] at k1
  rw [← hes] at k2
  have hsj : a.toNat < j := by omega
  have hres : dstC m bk c a = dst es j a.toNat := by unfold dstC; rw [← hes, hnn, Int.toNat_natCast]
  rw [hres]
  repeat' (first | refine WK_go ?_ | refine W_seqL ?_ | refine W_seq ?_ | refine W_block ?_ | refine W_scp ?_ | ((first | refine W_regL ?_ | refine W_skip ?_ | refine W_exit ?_); simp (maxSteps := 400000) (disch := omega) only [push_cast, ↓reduceIte, reduceCtorEq, Nat.reduceAdd, Nat.reduceSub, Nat.reduceEqDiff, Nat.reduceLeDiff, Nat.reduceLT, Nat.reduceBEq, Nat.reduceDiv, Nat.reduceMod, Nat.reducePow, Nat.reduceMul, Int.reduceToNat, Int.reduceLT, Int.reduceLE]) | refine And.intro (by omega) ?_ | refine And.intro (by intro hq; (try simp only [Bool.and_eq_true, Bool.or_eq_true, Bool.and_eq_false_iff, Bool.or_eq_false_iff, decide_eq_true_eq, decide_eq_false_iff_not, Bool.not_eq_true', Bool.not_eq_false', beq_iff_eq, beq_eq_false_iff_ne, ne_eq] at hq); omega) ?_ | fail)
  refine W_loopU (fun u : List Int × Bool => [(13, bv u.2)]) (fun u => [(5, .row 0 2 1 0 cI u.1)]) (fun u => Dst es a.toNat j u.1 ∧ (u.2 = false → ∀ e ∈ es, stp u.1 e = u.1)) (fun u => 2 * (tot u.1).toNat + (if u.2 = true then 1 else 0)) (ini j a.toNat, true) ⟨ini_dst hsj, fun q => by cases q⟩ (by rfl) (by rfl) (fun u hu => ?_)
  obtain ⟨o, ch⟩ := u
  obtain ⟨hd, hch⟩ := hu
  dsimp only at hd hch ⊢
  have lo := hd.len
  have gI : ∀ (l : List Int) i, l.getD i 0 = gi l i := fun _ _ => rfl
  simp (maxSteps := 400000) (disch := omega) only [push_cast, ↓reduceIte, reduceCtorEq, Nat.reduceAdd, Nat.reduceSub, Nat.reduceEqDiff, Nat.reduceLeDiff, Nat.reduceLT, Nat.reduceBEq, Nat.reduceDiv, Nat.reduceMod, Nat.reducePow, Nat.reduceMul, Int.reduceToNat, Int.reduceLT, Int.reduceLE]
  repeat' (first | refine WK_go ?_ | refine W_seqL ?_ | refine W_seq ?_ | refine W_block ?_ | refine W_scp ?_ | ((first | refine W_regL ?_ | refine W_skip ?_ | refine W_exit ?_); simp (maxSteps := 400000) (disch := omega) only [push_cast, ↓reduceIte, reduceCtorEq, Nat.reduceAdd, Nat.reduceSub, Nat.reduceEqDiff, Nat.reduceLeDiff, Nat.reduceLT, Nat.reduceBEq, Nat.reduceDiv, Nat.reduceMod, Nat.reducePow, Nat.reduceMul, Int.reduceToNat, Int.reduceLT, Int.reduceLE]) | refine And.intro (by omega) ?_ | refine And.intro (by intro hq; (try simp only [Bool.and_eq_true, Bool.or_eq_true, Bool.and_eq_false_iff, Bool.or_eq_false_iff, decide_eq_true_eq, decide_eq_false_iff_not, Bool.not_eq_true', Bool.not_eq_false', beq_iff_eq, beq_eq_false_iff_ne, ne_eq] at hq); omega) ?_ | fail)
  refine W_cond (by rfl) (fun hb => ?_) (fun hb => ?_)
  · subst hb
    repeat' (first | refine WK_go ?_ | refine W_seqL ?_ | refine W_seq ?_ | refine W_block ?_ | refine W_scp ?_ | ((first | refine W_regL ?_ | refine W_skip ?_ | refine W_exit ?_); simp (maxSteps := 400000) (disch := omega) only [push_cast, ↓reduceIte, reduceCtorEq, Nat.reduceAdd, Nat.reduceSub, Nat.reduceEqDiff, Nat.reduceLeDiff, Nat.reduceLT, Nat.reduceBEq, Nat.reduceDiv, Nat.reduceMod, Nat.reducePow, Nat.reduceMul, Int.reduceToNat, Int.reduceLT, Int.reduceLE]) | refine And.intro (by omega) ?_ | refine And.intro (by intro hq; (try simp only [Bool.and_eq_true, Bool.or_eq_true, Bool.and_eq_false_iff, Bool.or_eq_false_iff, decide_eq_true_eq, decide_eq_false_iff_not, Bool.not_eq_true', Bool.not_eq_false', beq_iff_eq, beq_eq_false_iff_ne, ne_eq] at hq); omega) ?_ | fail)
    refine W_loopU (fun v : Nat × Bool => [(13, bv v.2), (57, iv v.1)]) (fun v => [(5, .row 0 2 1 0 cI (pas o (es.take v.1)))]) (fun v => v.1 ≤ m.rs.length ∧ (v.2 = true → tot (pas o (es.take v.1)) < tot o) ∧ (v.2 = false → ∀ e ∈ es.take v.1, stp o e = o)) (fun v => m.rs.length - v.1) (0, false) ⟨Nat.zero_le _, (fun q => absurd q (by decide)), fun _ e he => by rw [List.take_zero] at he; cases he⟩ (by rfl) (by rfl) (fun v hv => ?_)
    obtain ⟨i, cv⟩ := v
    obtain ⟨hi, hv1, hv2⟩ := hv
    dsimp only at hi hv1 hv2 ⊢
    simp (maxSteps := 400000) (disch := omega) only [push_cast, ↓reduceIte, reduceCtorEq, Nat.reduceAdd, Nat.reduceSub, Nat.reduceEqDiff, Nat.reduceLeDiff, Nat.reduceLT, Nat.reduceBEq, Nat.reduceDiv, Nat.reduceMod, Nat.reducePow, Nat.reduceMul, Int.reduceToNat, Int.reduceLT, Int.reduceLE]
    repeat' (first | refine WK_go ?_ | refine W_seqL ?_ | refine W_seq ?_ | refine W_block ?_ | refine W_scp ?_ | ((first | refine W_regL ?_ | refine W_skip ?_ | refine W_exit ?_); simp (maxSteps := 400000) (disch := omega) only [push_cast, ↓reduceIte, reduceCtorEq, Nat.reduceAdd, Nat.reduceSub, Nat.reduceEqDiff, Nat.reduceLeDiff, Nat.reduceLT, Nat.reduceBEq, Nat.reduceDiv, Nat.reduceMod, Nat.reducePow, Nat.reduceMul, Int.reduceToNat, Int.reduceLT, Int.reduceLE]) | refine And.intro (by omega) ?_ | refine And.intro (by intro hq; (try simp only [Bool.and_eq_true, Bool.or_eq_true, Bool.and_eq_false_iff, Bool.or_eq_false_iff, decide_eq_true_eq, decide_eq_false_iff_not, Bool.not_eq_true', Bool.not_eq_false', beq_iff_eq, beq_eq_false_iff_ne, ne_eq] at hq); omega) ?_ | fail)
    refine W_condD (by rfl) (fun h6 => ?_) (fun h6 => ?_)
    · have hlt : i < m.rs.length := by omega
      have hgr : m.rs.getD i dR = gr m i := rfl
      have e3 : es.take (i + 1) = es.take i ++ [edC m bk c i] := by rw [hes]; exact take_edC hlt
      have e4 : pas o (es.take (i + 1)) = stp (pas o (es.take i)) (edC m bk c i) := by rw [e3, pas_snoc]
      have hci := tbl_at c hlt
      have hcb := hcb i hlt
      repeat' (first | refine WK_go ?_ | refine W_seqL ?_ | refine W_seq ?_ | refine W_block ?_ | refine W_scp ?_ | ((first | refine W_regL ?_ | refine W_skip ?_ | refine W_exit ?_); simp (maxSteps := 400000) (disch := omega) only [push_cast, ↓reduceIte, reduceCtorEq, Nat.reduceAdd, Nat.reduceSub, Nat.reduceEqDiff, Nat.reduceLeDiff, Nat.reduceLT, Nat.reduceBEq, Nat.reduceDiv, Nat.reduceMod, Nat.reducePow, Nat.reduceMul, Int.reduceToNat, Int.reduceLT, Int.reduceLE, hgr, hci, tbl_len]) | refine And.intro (by omega) ?_ | refine And.intro (by intro hq; (try simp only [Bool.and_eq_true, Bool.or_eq_true, Bool.and_eq_false_iff, Bool.or_eq_false_iff, decide_eq_true_eq, decide_eq_false_iff_not, Bool.not_eq_true', Bool.not_eq_false', beq_iff_eq, beq_eq_false_iff_ne, ne_eq] at hq); omega) ?_ | fail)
      have hdu := pas_dst k1 (es.take i) o (fun e he => List.mem_of_mem_take he) hd
      have hel : edC m bk c i ∈ es := by rw [hes]; exact List.mem_map.2 ⟨i, List.mem_range.2 hlt, rfl⟩
      obtain ⟨X, hX⟩ : ∃ X, X = if bk = true then (gr m i).t else (gr m i).f := ⟨_, rfl⟩
      obtain ⟨Y, hY⟩ : ∃ Y, Y = if bk = true then (gr m i).f else (gr m i).t := ⟨_, rfl⟩
      have hr := roadB_ok (h.r i hlt)
      have hXr : 0 ≤ X ∧ X < j := by have := hr.f; have := hr.t; rw [hX]; split <;> omega
      have hYr : 0 ≤ Y ∧ Y < j := by have := hr.f; have := hr.t; rw [hY]; split <;> omega
      have hex : (edC m bk c i).x = X.toNat := by unfold edC; rw [hX]; split <;> rfl
      have hey : (edC m bk c i).y = Y.toNat := by unfold edC; rw [hY]; split <;> rfl
      have hec : (edC m bk c i).c = c i := by unfold edC; split <;> rfl
      have htk : ∀ e ∈ es.take (i + 1), e ∈ es.take i ∨ e = edC m bk c i := fun e he => by
        rw [e3] at he
        rcases List.mem_append.1 he with he | he
        · exact .inl he
        · exact .inr (List.mem_singleton.1 he)
      have hsame : cv = false → pas o (es.take i) = o := fun q => pas_same _ _ (hv2 q)
      generalize edC m bk c i = e at *
      have hst : ∀ z, stp z e = if 0 ≤ c i ∧ gi z X.toNat < far ∧ gi z X.toNat + c i < gi z Y.toNat then z.set Y.toNat (gi z X.toNat + c i) else z := fun z => by unfold stp; rw [hec, hex, hey]
      have hux := hdu.le (y := X.toNat) (by omega)
      have huy := hdu.le (y := Y.toNat) (by omega)
      have hux2 : gi (pas o (es.take i)) X.toNat ≤ 1125899906842624 := hux.2
      have huy2 : gi (pas o (es.take i)) Y.toNat ≤ 1125899906842624 := huy.2
      have hlu := hdu.len
      have htot := stp_tot (pas o (es.take i)) e (by rw [hey]; omega)
      have hto := pas_tot (es.take i) o (fun e he => by rw [lo]; exact (k1 e (List.mem_of_mem_take he)).2)
      generalize pas o (es.take i) = u at *
      refine W_condD (by rfl) (fun h7 => ?_) (fun h7 => ?_)
      · have hz : ∀ z, stp z e = z := fun z => by rw [hst, if_neg (by omega)]
        repeat' (first | refine WK_go ?_ | refine W_seqL ?_ | refine W_seq ?_ | refine W_block ?_ | refine W_scp ?_ | ((first | refine W_regL ?_ | refine W_skip ?_ | refine W_exit ?_); simp (maxSteps := 400000) (disch := omega) only [push_cast, ↓reduceIte, reduceCtorEq, Nat.reduceAdd, Nat.reduceSub, Nat.reduceEqDiff, Nat.reduceLeDiff, Nat.reduceLT, Nat.reduceBEq, Nat.reduceDiv, Nat.reduceMod, Nat.reducePow, Nat.reduceMul, Int.reduceToNat, Int.reduceLT, Int.reduceLE]) | refine And.intro (by omega) ?_ | refine And.intro (by intro hq; (try simp only [Bool.and_eq_true, Bool.or_eq_true, Bool.and_eq_false_iff, Bool.or_eq_false_iff, decide_eq_true_eq, decide_eq_false_iff_not, Bool.not_eq_true', Bool.not_eq_false', beq_iff_eq, beq_eq_false_iff_ne, ne_eq] at hq); omega) ?_ | fail)
        refine ⟨(i + 1, cv), ⟨by dsimp only; omega, fun q => by dsimp only at q ⊢; rw [e4, hz]; exact hv1 q, fun q e' he' => ?_⟩, by dsimp only; omega, by rfl, ?_⟩
        · rcases htk e' he' with he' | rfl
          · exact hv2 q e' he'
          · exact hz o
        dsimp only
        rw [e4, hz]
        simp (maxSteps := 400000) (disch := omega) only [push_cast, ↓reduceIte, reduceCtorEq, Nat.reduceAdd, Nat.reduceSub, Nat.reduceEqDiff, Nat.reduceLeDiff, Nat.reduceLT, Nat.reduceBEq, Nat.reduceDiv, Nat.reduceMod, Nat.reducePow, Nat.reduceMul, Int.reduceToNat, Int.reduceLT, Int.reduceLE, S.mk.injEq, List.cons.injEq, Prod.mk.injEq, AV.v.injEq, Value.int.injEq, Value.bool.injEq, Blk.cells.injEq]
      repeat' (first | refine WK_go ?_ | refine W_seqL ?_ | refine W_seq ?_ | refine W_block ?_ | refine W_scp ?_ | ((first | refine W_regL ?_ | refine W_skip ?_ | refine W_exit ?_); simp (maxSteps := 400000) (disch := omega) only [push_cast, ↓reduceIte, reduceCtorEq, Nat.reduceAdd, Nat.reduceSub, Nat.reduceEqDiff, Nat.reduceLeDiff, Nat.reduceLT, Nat.reduceBEq, Nat.reduceDiv, Nat.reduceMod, Nat.reducePow, Nat.reduceMul, Int.reduceToNat, Int.reduceLT, Int.reduceLE]) | refine And.intro (by omega) ?_ | refine And.intro (by intro hq; (try simp only [Bool.and_eq_true, Bool.or_eq_true, Bool.and_eq_false_iff, Bool.or_eq_false_iff, decide_eq_true_eq, decide_eq_false_iff_not, Bool.not_eq_true', Bool.not_eq_false', beq_iff_eq, beq_eq_false_iff_ne, ne_eq] at hq); omega) ?_ | fail)
      refine W_meet [(16, iv X), (17, iv Y)] [] ?_ ?_
      · refine W_cond (by rfl) (fun hb => ?_) (fun hb => ?_)
        · rw [hX, hY, hb, if_pos rfl, if_pos rfl]
          repeat' (first | refine WK_go ?_ | refine W_seqL ?_ | refine W_seq ?_ | refine W_block ?_ | refine W_scp ?_ | ((first | refine W_regL ?_ | refine W_skip ?_ | refine W_exit ?_); simp (maxSteps := 400000) (disch := omega) only [push_cast, ↓reduceIte, reduceCtorEq, Nat.reduceAdd, Nat.reduceSub, Nat.reduceEqDiff, Nat.reduceLeDiff, Nat.reduceLT, Nat.reduceBEq, Nat.reduceDiv, Nat.reduceMod, Nat.reducePow, Nat.reduceMul, Int.reduceToNat, Int.reduceLT, Int.reduceLE]) | refine And.intro (by omega) ?_ | refine And.intro (by intro hq; (try simp only [Bool.and_eq_true, Bool.or_eq_true, Bool.and_eq_false_iff, Bool.or_eq_false_iff, decide_eq_true_eq, decide_eq_false_iff_not, Bool.not_eq_true', Bool.not_eq_false', beq_iff_eq, beq_eq_false_iff_ne, ne_eq] at hq); omega) ?_ | fail)
          first | exact ⟨rfl, by rfl⟩ | rfl
        · rw [hX, hY, hb, if_neg (by decide), if_neg (by decide)]
          repeat' (first | refine WK_go ?_ | refine W_seqL ?_ | refine W_seq ?_ | refine W_block ?_ | refine W_scp ?_ | ((first | refine W_regL ?_ | refine W_skip ?_ | refine W_exit ?_); simp (maxSteps := 400000) (disch := omega) only [push_cast, ↓reduceIte, reduceCtorEq, Nat.reduceAdd, Nat.reduceSub, Nat.reduceEqDiff, Nat.reduceLeDiff, Nat.reduceLT, Nat.reduceBEq, Nat.reduceDiv, Nat.reduceMod, Nat.reducePow, Nat.reduceMul, Int.reduceToNat, Int.reduceLT, Int.reduceLE]) | refine And.intro (by omega) ?_ | refine And.intro (by intro hq; (try simp only [Bool.and_eq_true, Bool.or_eq_true, Bool.and_eq_false_iff, Bool.or_eq_false_iff, decide_eq_true_eq, decide_eq_false_iff_not, Bool.not_eq_true', Bool.not_eq_false', beq_iff_eq, beq_eq_false_iff_ne, ne_eq] at hq); omega) ?_ | fail)
          first | exact ⟨rfl, by rfl⟩ | rfl
      simp (maxSteps := 400000) (disch := omega) only [push_cast, ↓reduceIte, reduceCtorEq, Nat.reduceAdd, Nat.reduceSub, Nat.reduceEqDiff, Nat.reduceLeDiff, Nat.reduceLT, Nat.reduceBEq, Nat.reduceDiv, Nat.reduceMod, Nat.reducePow, Nat.reduceMul, Int.reduceToNat, Int.reduceLT, Int.reduceLE]
      repeat' (first | refine WK_go ?_ | refine W_seqL ?_ | refine W_seq ?_ | refine W_block ?_ | refine W_scp ?_ | ((first | refine W_regL ?_ | refine W_skip ?_ | refine W_exit ?_); simp (maxSteps := 400000) (disch := omega) only [push_cast, ↓reduceIte, reduceCtorEq, Nat.reduceAdd, Nat.reduceSub, Nat.reduceEqDiff, Nat.reduceLeDiff, Nat.reduceLT, Nat.reduceBEq, Nat.reduceDiv, Nat.reduceMod, Nat.reducePow, Nat.reduceMul, Int.reduceToNat, Int.reduceLT, Int.reduceLE, gI, hci, tbl_len, hlu]) | refine And.intro (by omega) ?_ | refine And.intro (by intro hq; (try simp only [Bool.and_eq_true, Bool.or_eq_true, Bool.and_eq_false_iff, Bool.or_eq_false_iff, decide_eq_true_eq, decide_eq_false_iff_not, Bool.not_eq_true', Bool.not_eq_false', beq_iff_eq, beq_eq_false_iff_ne, ne_eq] at hq); omega) ?_ | fail)
      refine W_cond (by rfl) (fun h8 => ?_) (fun h8 => ?_)
      · rw [Bool.and_eq_true, decide_eq_true_eq, decide_eq_true_eq] at h8
        have hs1 : stp u e = u.set Y.toNat (gi u X.toNat + c i) := by rw [hst, if_pos ⟨by omega, h8.1, h8.2⟩]
        have ht1 : tot (stp u e) < tot u := by
          rcases Int.lt_or_eq_of_le htot.1 with q | q
          · exact q
          · have q2 := htot.2 q
            rw [hs1] at q2
            have q3 : gi (u.set Y.toNat (gi u X.toNat + c i)) Y.toNat = gi u Y.toNat := by rw [q2]
            rw [gi_set (by omega), if_pos rfl] at q3
            omega
        repeat' (first | refine WK_go ?_ | refine W_seqL ?_ | refine W_seq ?_ | refine W_block ?_ | refine W_scp ?_ | ((first | refine W_regL ?_ | refine W_skip ?_ | refine W_exit ?_); simp (maxSteps := 400000) (disch := omega) only [push_cast, ↓reduceIte, reduceCtorEq, Nat.reduceAdd, Nat.reduceSub, Nat.reduceEqDiff, Nat.reduceLeDiff, Nat.reduceLT, Nat.reduceBEq, Nat.reduceDiv, Nat.reduceMod, Nat.reducePow, Nat.reduceMul, Int.reduceToNat, Int.reduceLT, Int.reduceLE, tbl_len, hlu]) | refine And.intro (by omega) ?_ | refine And.intro (by intro hq; (try simp only [Bool.and_eq_true, Bool.or_eq_true, Bool.and_eq_false_iff, Bool.or_eq_false_iff, decide_eq_true_eq, decide_eq_false_iff_not, Bool.not_eq_true', Bool.not_eq_false', beq_iff_eq, beq_eq_false_iff_ne, ne_eq] at hq); omega) ?_ | fail)
        refine ⟨rfl, ⟨Nat.le_of_ble_eq_true rfl, rfl⟩, by omega, gi u X.toNat + c i, rfl, rfl, ?_⟩
        rw [← hs1, ← e4]
        simp (maxSteps := 400000) (disch := omega) only [push_cast, ↓reduceIte, reduceCtorEq, Nat.reduceAdd, Nat.reduceSub, Nat.reduceEqDiff, Nat.reduceLeDiff, Nat.reduceLT, Nat.reduceBEq, Nat.reduceDiv, Nat.reduceMod, Nat.reducePow, Nat.reduceMul, Int.reduceToNat, Int.reduceLT, Int.reduceLE]
        repeat' (first | refine WK_go ?_ | refine W_seqL ?_ | refine W_seq ?_ | refine W_block ?_ | refine W_scp ?_ | ((first | refine W_regL ?_ | refine W_skip ?_ | refine W_exit ?_); simp (maxSteps := 400000) (disch := omega) only [push_cast, ↓reduceIte, reduceCtorEq, Nat.reduceAdd, Nat.reduceSub, Nat.reduceEqDiff, Nat.reduceLeDiff, Nat.reduceLT, Nat.reduceBEq, Nat.reduceDiv, Nat.reduceMod, Nat.reducePow, Nat.reduceMul, Int.reduceToNat, Int.reduceLT, Int.reduceLE]) | refine And.intro (by omega) ?_ | refine And.intro (by intro hq; (try simp only [Bool.and_eq_true, Bool.or_eq_true, Bool.and_eq_false_iff, Bool.or_eq_false_iff, decide_eq_true_eq, decide_eq_false_iff_not, Bool.not_eq_true', Bool.not_eq_false', beq_iff_eq, beq_eq_false_iff_ne, ne_eq] at hq); omega) ?_ | fail)
        refine ⟨(i + 1, true), ⟨by dsimp only; omega, fun _ => by dsimp only; rw [e4]; omega, fun q => absurd (show true = false from q) (by decide)⟩, by dsimp only; omega, by rfl, ?_⟩
        simp (maxSteps := 400000) (disch := omega) only [push_cast, ↓reduceIte, reduceCtorEq, Nat.reduceAdd, Nat.reduceSub, Nat.reduceEqDiff, Nat.reduceLeDiff, Nat.reduceLT, Nat.reduceBEq, Nat.reduceDiv, Nat.reduceMod, Nat.reducePow, Nat.reduceMul, Int.reduceToNat, Int.reduceLT, Int.reduceLE, S.mk.injEq, List.cons.injEq, Prod.mk.injEq, AV.v.injEq, Value.int.injEq, Value.bool.injEq, Blk.cells.injEq]
      · have hz : stp u e = u := by
          rw [hst, if_neg]
          rintro ⟨q1, q2, q3⟩
          have q2 : gi u X.toNat < 1125899906842624 := q2
          rw [decide_eq_true q2, decide_eq_true q3] at h8
          cases h8
        repeat' (first | refine WK_go ?_ | refine W_seqL ?_ | refine W_seq ?_ | refine W_block ?_ | refine W_scp ?_ | ((first | refine W_regL ?_ | refine W_skip ?_ | refine W_exit ?_); simp (maxSteps := 400000) (disch := omega) only [push_cast, ↓reduceIte, reduceCtorEq, Nat.reduceAdd, Nat.reduceSub, Nat.reduceEqDiff, Nat.reduceLeDiff, Nat.reduceLT, Nat.reduceBEq, Nat.reduceDiv, Nat.reduceMod, Nat.reducePow, Nat.reduceMul, Int.reduceToNat, Int.reduceLT, Int.reduceLE]) | refine And.intro (by omega) ?_ | refine And.intro (by intro hq; (try simp only [Bool.and_eq_true, Bool.or_eq_true, Bool.and_eq_false_iff, Bool.or_eq_false_iff, decide_eq_true_eq, decide_eq_false_iff_not, Bool.not_eq_true', Bool.not_eq_false', beq_iff_eq, beq_eq_false_iff_ne, ne_eq] at hq); omega) ?_ | fail)
        refine ⟨(i + 1, cv), ⟨by dsimp only; omega, fun q => by dsimp only at q ⊢; rw [e4, hz]; exact hv1 q, fun q e' he' => ?_⟩, by dsimp only; omega, by rfl, ?_⟩
        · rcases htk e' he' with he' | rfl
          · exact hv2 q e' he'
          · rw [hsame q] at hz
            exact hz
        dsimp only
        rw [e4, hz]
        simp (maxSteps := 400000) (disch := omega) only [push_cast, ↓reduceIte, reduceCtorEq, Nat.reduceAdd, Nat.reduceSub, Nat.reduceEqDiff, Nat.reduceLeDiff, Nat.reduceLT, Nat.reduceBEq, Nat.reduceDiv, Nat.reduceMod, Nat.reducePow, Nat.reduceMul, Int.reduceToNat, Int.reduceLT, Int.reduceLE, S.mk.injEq, List.cons.injEq, Prod.mk.injEq, AV.v.injEq, Value.int.injEq, Value.bool.injEq, Blk.cells.injEq]
    · have hin2 : i = m.rs.length := by omega
      have hall : es.take i = es := by rw [hin2, hes]; exact List.take_of_length_le (by simp [edgC])
      rw [hall] at hv1 hv2 ⊢
      have hdp := pas_dst k1 es o (fun e he => he) hd
      have hnn1 := tot_nn (pas o es) (fun q hq => (hdp.le (by rw [hdp.len] at hq; exact hq)).1)
      repeat' (first | refine WK_go ?_ | refine W_seqL ?_ | refine W_seq ?_ | refine W_block ?_ | refine W_scp ?_ | ((first | refine W_regL ?_ | refine W_skip ?_ | refine W_exit ?_); simp (maxSteps := 400000) (disch := omega) only [push_cast, ↓reduceIte, reduceCtorEq, Nat.reduceAdd, Nat.reduceSub, Nat.reduceEqDiff, Nat.reduceLeDiff, Nat.reduceLT, Nat.reduceBEq, Nat.reduceDiv, Nat.reduceMod, Nat.reducePow, Nat.reduceMul, Int.reduceToNat, Int.reduceLT, Int.reduceLE]) | refine And.intro (by omega) ?_ | refine And.intro (by intro hq; (try simp only [Bool.and_eq_true, Bool.or_eq_true, Bool.and_eq_false_iff, Bool.or_eq_false_iff, decide_eq_true_eq, decide_eq_false_iff_not, Bool.not_eq_true', Bool.not_eq_false', beq_iff_eq, beq_eq_false_iff_ne, ne_eq] at hq); omega) ?_ | fail)
      refine ⟨(pas o es, cv), ⟨hdp, fun q => ?_⟩, ?_, by rfl, ?_⟩
      · dsimp only at q ⊢
        have := hv2 q
        rw [pas_same es o this]
        exact this
      · dsimp only
        cases cv with
        | true =>
          have := hv1 rfl
          simp only [if_true]
          omega
        | false =>
          rw [pas_same es o (hv2 rfl)]
          simp
      simp (maxSteps := 400000) (disch := omega) only [push_cast, ↓reduceIte, reduceCtorEq, Nat.reduceAdd, Nat.reduceSub, Nat.reduceEqDiff, Nat.reduceLeDiff, Nat.reduceLT, Nat.reduceBEq, Nat.reduceDiv, Nat.reduceMod, Nat.reducePow, Nat.reduceMul, Int.reduceToNat, Int.reduceLT, Int.reduceLE, S.mk.injEq, List.cons.injEq, Prod.mk.injEq, AV.v.injEq, Value.int.injEq, Value.bool.injEq, Blk.cells.injEq]
  · have hfix := fix_stp (fun e he => by rw [lo]; exact (k1 e he).2) (hch hb)
    have hfin : o = dst es j a.toNat := dst_ext k1 hd hfix (dst_dst k1 hsj) (dst_fix k1 k2 hsj)
    rw [← hfin]
    repeat' (first | refine WK_go ?_ | refine W_seqL ?_ | refine W_seq ?_ | refine W_block ?_ | refine W_scp ?_ | ((first | refine W_regL ?_ | refine W_skip ?_ | refine W_exit ?_); simp (maxSteps := 400000) (disch := omega) only [push_cast, ↓reduceIte, reduceCtorEq, Nat.reduceAdd, Nat.reduceSub, Nat.reduceEqDiff, Nat.reduceLeDiff, Nat.reduceLT, Nat.reduceBEq, Nat.reduceDiv, Nat.reduceMod, Nat.reducePow, Nat.reduceMul, Int.reduceToNat, Int.reduceLT, Int.reduceLE]) | refine And.intro (by omega) ?_ | refine And.intro (by intro hq; (try simp only [Bool.and_eq_true, Bool.or_eq_true, Bool.and_eq_false_iff, Bool.or_eq_false_iff, decide_eq_true_eq, decide_eq_false_iff_not, Bool.not_eq_true', Bool.not_eq_false', beq_iff_eq, beq_eq_false_iff_ne, ne_eq] at hq); omega) ?_ | fail)
    exact W_ret ⟨_, _, ⟨rfl, rfl⟩, rfl⟩
theorem fn57 (m : Mp) (f : Nat → Int) (a : Int) (bk : Bool) (g : Nat) (fi ca : List AV) (c : Nat → Int) (h : OkM m) (ha : 0 ≤ a ∧ a < m.n) (hc : ∀ i, i < m.rs.length → 0 ≤ c i → 1 ≤ c i) (hcb : ∀ i, i < m.rs.length → -1099511627776 ≤ c i ∧ c i ≤ 1099511627776)
    (hg : ∀ i, i < m.rs.length → Sy.Fn Try.prog g (fi ++ [iv (i : Nat)] ++ ca) (iv (c i))) : Sy.Fn Try.prog 57 [aAt m f, iv a, bv bk, .clo g fi ca] (aI (dstC m bk c a)) := by
  exact Fn_of_W mixed Xt57 rfl (W_mono' (w57 m f a bk g fi ca c h ha hc hcb hg) fin_of_finO)
theorem fo57 (m : Mp) (f : Nat → Int) (a : Int) (bk : Bool) (g : Nat) (fi ca : List AV) (c : Nat → Int) (h : OkM m) (ha : 0 ≤ a ∧ a < m.n) (hc : ∀ i, i < m.rs.length → 0 ≤ c i → 1 ≤ c i) (hcb : ∀ i, i < m.rs.length → -1099511627776 ≤ c i ∧ c i ≤ 1099511627776)
    (hg : ∀ i, i < m.rs.length → Sy.Fn Try.prog g (fi ++ [iv (i : Nat)] ++ ca) (iv (c i))) : FnO Try.prog 57 [aAt m f, iv a, bv bk, .clo g fi ca] 2 1 0 cI (dstC m bk c a) := by
  exact FnO_of_W mixed Xt57 rfl (fun x _ => rfl) (w57 m f a bk g fi ca c h ha hc hcb hg)
end Go.Proofs.Ytfbdlmenhoagmaa

namespace Go.Proofs.Ytfbdlmenhoagmaa
set_option linter.unusedVariables false
def msk (l : List Int) : Nat := l.foldl (fun s x => s ||| 2 ^ x.toNat) 0
theorem msk_snoc (l : List Int) (i : Nat) : msk (l ++ [(i : Int)]) = msk l ||| 2 ^ i := by
  unfold msk; rw [List.foldl_append]; rfl
theorem msk_aux : ∀ (l p : List Int) (s : Nat), BitsOf s p → (∀ x ∈ l, 0 ≤ x) → BitsOf (l.foldl (fun s x => s ||| 2 ^ x.toNat) s) (p ++ l)
  | [], p, s, h, _ => by simpa using h
  | x :: l, p, s, h, hx => by
    have h1 := bits_snoc h x.toNat
    have e : ((x.toNat : Nat) : Int) = x := by have := hx x List.mem_cons_self; omega
    rw [e] at h1
    have := msk_aux l _ _ h1 (fun y hy => hx y (List.mem_cons_of_mem _ hy))
    rwa [List.append_assoc] at this
theorem msk_bits {l : List Int} (h : ∀ x ∈ l, 0 ≤ x) : BitsOf (msk l) l := msk_aux l [] 0 bits_nil h
theorem msk_lt {n : Int} {l : List Int} (h : Srt n 0 l) (hn : n ≤ 10) : msk l < 1024 := by
  have := bits_lt (n := 10) (msk_bits fun x hx => (h.mem x hx).1) (fun x hx => by have := (h.mem x hx).2; omega)
  simpa using this
def bS : Option (List Int × Int) → Nat
  | none => 0
  | some p => msk p.1
def bC : Option (List Int × Int) → Int
  | none => 0
  | some p => p.2
def bF : Option (List Int × Int) → Bool
  | none => false
  | some _ => true
theorem lstep_no {f : List Int → Int} {ok : List Int → Bool} {b : Option (List Int × Int)} {x : List Int} (h : ok x = false ∨ (bF b = true ∧ bC b ≤ f x)) : lstep f ok b x = b := by
  unfold lstep
  by_cases q : ok x = true
  · rw [if_pos q]
    rcases h with h | ⟨h1, h2⟩
    · rw [q] at h; cases h
    · cases b with
      | none => cases h1
      | some p =>
        obtain ⟨y, n⟩ := p
        dsimp only
        rw [if_neg (by show ¬ f x < n; have : bC (some (y, n)) = n := rfl; omega)]
  · rw [if_neg q]
theorem lstep_yes {f : List Int → Int} {ok : List Int → Bool} {b : Option (List Int × Int)} {x : List Int} (h : ok x = true) (h2 : bF b = false ∨ f x < bC b) : lstep f ok b x = some (x, f x) := by
  unfold lstep
  rw [if_pos h]
  cases b with
  | none => rfl
  | some p =>
    obtain ⟨y, n⟩ := p
    rcases h2 with h2 | h2
    · cases h2
    · dsimp only
      rw [if_pos (by have : bC (some (y, n)) = n := rfl; omega)]
end Go.Proofs.Ytfbdlmenhoagmaa

namespace Go.Proofs.Ytfbdlmenhoagmaa
open Go Sy
set_option maxRecDepth 100000
set_option maxHeartbeats 4000000
set_option linter.unusedVariables false
set_option linter.unusedSimpArgs false
theorem fn55 (n : Int) : Sy.Fn Try.prog 55 [iv n] (.clo 114 [] [.fp [iv n] 0]) := by
  refine Fn_of_W mixed Xt55 rfl ?_
  repeat' (first | refine WK_go ?_ | refine W_seqL ?_ | refine W_seq ?_ | refine W_block ?_ | refine W_scp ?_ | ((first | refine W_regL ?_ | refine W_skip ?_ | refine W_exit ?_); simp (maxSteps := 400000) (disch := omega) only [push_cast, ↓reduceIte, reduceCtorEq, Nat.reduceAdd, Nat.reduceSub, Nat.reduceEqDiff, Nat.reduceLeDiff, Nat.reduceLT, Nat.reduceBEq, Nat.reduceDiv, Nat.reduceMod, Nat.reducePow, Nat.reduceMul, Int.reduceToNat, Int.reduceLT, Int.reduceLE]) | refine And.intro (by omega) ?_ | refine And.intro (by intro hq; (try simp only [Bool.and_eq_true, Bool.or_eq_true, Bool.and_eq_false_iff, Bool.or_eq_false_iff, decide_eq_true_eq, decide_eq_false_iff_not, Bool.not_eq_true', Bool.not_eq_false', beq_iff_eq, beq_eq_false_iff_ne, ne_eq] at hq); omega) ?_ | fail)
  exact W_ret ⟨[_], ⟨rfl, rfl⟩, rfl⟩
theorem shl_one {j : Nat} (h : j ≤ 9) : IntKind.u64.wrap (1 * 2 ^ min j IntKind.u64.bits) = ((2 ^ j : Nat) : Int) := by
  have : j = 0 ∨ j = 1 ∨ j = 2 ∨ j = 3 ∨ j = 4 ∨ j = 5 ∨ j = 6 ∨ j = 7 ∨ j = 8 ∨ j = 9 := by omega
  rcases this with rfl | rfl | rfl | rfl | rfl | rfl | rfl | rfl | rfl | rfl <;> decide
theorem or_msk {x : List Int} {j : Nat} (h : msk x < 1024) (hj : j ≤ 9) : bits .or .u64 (msk x : Int) (IntKind.u64.wrap (1 * 2 ^ min j IntKind.u64.bits)) = (msk (x ++ [(j : Int)]) : Int) := by
  rw [shl_one hj, msk_snoc]
  have : 2 ^ j ≤ 2 ^ 9 := Nat.pow_le_pow_right (by omega) hj
  exact bits_or_u64_nat _ _ (by omega) (by omega)
theorem walk_inl {ι : Type} (n : Nat) (hn : n ≤ 10) (B : ι → Mem) (step : ι → List Int → ι) (N0 kw l : Nat) (hBas : ∀ b, Bas N0 (B b))
    (hW : ∀ b, lm (B b) kw = some (.cells [.cq 115 [] [.fp [yv l] 0, .fp [iv n] 0, .own kw 0]]))
    (HY : ∀ b x, Srt n 0 x → ∀ tm R nx, Opq N0 R nx → Yl Try.prog l [uv (msk x)] ⟨tm, B b ++ R, nx⟩ (MidB N0 nx tm R (fun r B' => r = true ∧ B' = B (step b x)))) :
    ∀ (d i : Nat) (x : List Int), i + d = n → Srt n 0 x → (∀ y ∈ x, y < (i : Int)) → ∀ b tm R nx, Opq N0 R nx →
      Inl Try.prog 115 [uv (msk x), iv i, .fp [yv l] 0, .fp [iv n] 0, .own kw 0] ⟨tm, B b ++ R, nx⟩ (MidR N0 nx tm R (fun r B' => r = bv true ∧ B' = B ((x :: brn d x i).foldl step b))) := by
  intro d
  induction d using Nat.strongRecOn with
  | _ d ih =>
  intro i x hi hx hlt b tm R nx hR
  refine Inl_mid mixed Xt115 rfl hR (hBas b) (fun R' nx' hR' => ?_)
  have hWR : ∀ b, lm (B b ++ R') kw = some (.cells [.cq 115 [] [.fp [yv l] 0, .fp [iv n] 0, .own kw 0]]) := fun b => by rw [lm_app, hW]
  simp (maxSteps := 400000) (disch := omega) only [push_cast, ↓reduceIte, reduceCtorEq, Nat.reduceAdd, Nat.reduceSub, Nat.reduceEqDiff, Nat.reduceLeDiff, Nat.reduceLT, Nat.reduceBEq, Nat.reduceDiv, Nat.reduceMod, Nat.reducePow, Nat.reduceMul, Int.reduceToNat, Int.reduceLT, Int.reduceLE]
  repeat' (first | refine WK_go ?_ | refine W_seqL ?_ | refine W_seq ?_ | refine W_block ?_ | refine W_scp ?_ | ((first | refine W_regL ?_ | refine W_skip ?_ | refine W_exit ?_); simp (maxSteps := 400000) (disch := omega) only [push_cast, ↓reduceIte, reduceCtorEq, Nat.reduceAdd, Nat.reduceSub, Nat.reduceEqDiff, Nat.reduceLeDiff, Nat.reduceLT, Nat.reduceBEq, Nat.reduceDiv, Nat.reduceMod, Nat.reducePow, Nat.reduceMul, Int.reduceToNat, Int.reduceLT, Int.reduceLE, hWR]) | refine And.intro (by omega) ?_ | refine And.intro (by intro hq; (try simp only [Bool.and_eq_true, Bool.or_eq_true, Bool.and_eq_false_iff, Bool.or_eq_false_iff, decide_eq_true_eq, decide_eq_false_iff_not, Bool.not_eq_true', Bool.not_eq_false', beq_iff_eq, beq_eq_false_iff_ne, ne_eq] at hq); omega) ?_ | fail)
  refine StopC.yld (fun hpc => ⟨trivial, Yl_le (HY b x hx _ R' _ (hR'.le (by omega))) (fun r s' hs => ?_)⟩) (fun hpc => absurd trivial hpc)
  obtain ⟨B', _, ⟨rfl, rfl⟩, hl⟩ := hs
  refine ⟨_, ?_, hl⟩
  simp (maxSteps := 400000) (disch := omega) only [push_cast, ↓reduceIte, reduceCtorEq, Nat.reduceAdd, Nat.reduceSub, Nat.reduceEqDiff, Nat.reduceLeDiff, Nat.reduceLT, Nat.reduceBEq, Nat.reduceDiv, Nat.reduceMod, Nat.reducePow, Nat.reduceMul, Int.reduceToNat, Int.reduceLT, Int.reduceLE]
  repeat' (first | refine WK_go ?_ | refine W_seqL ?_ | refine W_seq ?_ | refine W_block ?_ | refine W_scp ?_ | ((first | refine W_regL ?_ | refine W_skip ?_ | refine W_exit ?_); simp (maxSteps := 400000) (disch := omega) only [push_cast, ↓reduceIte, reduceCtorEq, Nat.reduceAdd, Nat.reduceSub, Nat.reduceEqDiff, Nat.reduceLeDiff, Nat.reduceLT, Nat.reduceBEq, Nat.reduceDiv, Nat.reduceMod, Nat.reducePow, Nat.reduceMul, Int.reduceToNat, Int.reduceLT, Int.reduceLE, hWR]) | refine And.intro (by omega) ?_ | refine And.intro (by intro hq; (try simp only [Bool.and_eq_true, Bool.or_eq_true, Bool.and_eq_false_iff, Bool.or_eq_false_iff, decide_eq_true_eq, decide_eq_false_iff_not, Bool.not_eq_true', Bool.not_eq_false', beq_iff_eq, beq_eq_false_iff_ne, ne_eq] at hq); omega) ?_ | fail)
  refine W_cond (by rfl) (fun h => by cases h) (fun _ => ?_)
  repeat' (first | refine WK_go ?_ | refine W_seqL ?_ | refine W_seq ?_ | refine W_block ?_ | refine W_scp ?_ | ((first | refine W_regL ?_ | refine W_skip ?_ | refine W_exit ?_); simp (maxSteps := 400000) (disch := omega) only [push_cast, ↓reduceIte, reduceCtorEq, Nat.reduceAdd, Nat.reduceSub, Nat.reduceEqDiff, Nat.reduceLeDiff, Nat.reduceLT, Nat.reduceBEq, Nat.reduceDiv, Nat.reduceMod, Nat.reducePow, Nat.reduceMul, Int.reduceToNat, Int.reduceLT, Int.reduceLE]) | refine And.intro (by omega) ?_ | refine And.intro (by intro hq; (try simp only [Bool.and_eq_true, Bool.or_eq_true, Bool.and_eq_false_iff, Bool.or_eq_false_iff, decide_eq_true_eq, decide_eq_false_iff_not, Bool.not_eq_true', Bool.not_eq_false', beq_iff_eq, beq_eq_false_iff_ne, ne_eq] at hq); omega) ?_ | fail)
  refine W_loopM (fun u : Nat × ι => [(8, iv u.1)]) (fun u => B u.2 ++ R') (fun u => i ≤ u.1 ∧ u.1 ≤ n ∧ (brn (n - u.1) x u.1).foldl step u.2 = (x :: brn d x i).foldl step b) (fun u => n - u.1) nx' (fun u _ => hR'.mem (hBas u.2)) (i, step b x) ⟨Nat.le_refl _, by omega, by rw [show n - i = d by omega]; rfl⟩ (by rfl) (by rfl) (fun u hu => ?_)
  obtain ⟨j, c⟩ := u
  obtain ⟨h1, h2, h3⟩ := hu
  dsimp only at h1 h2 h3 ⊢
  simp (maxSteps := 400000) (disch := omega) only [push_cast, ↓reduceIte, reduceCtorEq, Nat.reduceAdd, Nat.reduceSub, Nat.reduceEqDiff, Nat.reduceLeDiff, Nat.reduceLT, Nat.reduceBEq, Nat.reduceDiv, Nat.reduceMod, Nat.reducePow, Nat.reduceMul, Int.reduceToNat, Int.reduceLT, Int.reduceLE]
  repeat' (first | refine WK_go ?_ | refine W_seqL ?_ | refine W_seq ?_ | refine W_block ?_ | refine W_scp ?_ | ((first | refine W_regL ?_ | refine W_skip ?_ | refine W_exit ?_); simp (maxSteps := 400000) (disch := omega) only [push_cast, ↓reduceIte, reduceCtorEq, Nat.reduceAdd, Nat.reduceSub, Nat.reduceEqDiff, Nat.reduceLeDiff, Nat.reduceLT, Nat.reduceBEq, Nat.reduceDiv, Nat.reduceMod, Nat.reducePow, Nat.reduceMul, Int.reduceToNat, Int.reduceLT, Int.reduceLE]) | refine And.intro (by omega) ?_ | refine And.intro (by intro hq; (try simp only [Bool.and_eq_true, Bool.or_eq_true, Bool.and_eq_false_iff, Bool.or_eq_false_iff, decide_eq_true_eq, decide_eq_false_iff_not, Bool.not_eq_true', Bool.not_eq_false', beq_iff_eq, beq_eq_false_iff_ne, ne_eq] at hq); omega) ?_ | fail)
  refine W_condD (by rfl) (fun h5 => ?_) (fun h5 => ?_)
  · have e5 := or_msk (j := j) (msk_lt hx (by omega)) (by omega)
    have hx1 : Srt (n : Int) 0 (x ++ [(j : Int)]) := hx.snoc (by omega) (by omega) (fun y hy => by have := hlt y hy; omega)
    have hx2 : ∀ y ∈ x ++ [(j : Int)], y < ((j + 1 : Nat) : Int) := fun y hy => by
      rcases List.mem_append.1 hy with q | q
      · have := hlt y q; omega
      · rw [List.mem_singleton] at q; omega
    have e6 : ((j + 1 : Nat) : Int) = (j : Int) + 1 := by omega
    obtain ⟨d', hd'⟩ : ∃ d', n - j = d' + 1 := ⟨n - j - 1, by omega⟩
    have hI := ih d' (by omega) (j + 1) (x ++ [(j : Int)]) (by omega) hx1 hx2 c
    rw [e6] at hI
    repeat' (first | refine WK_go ?_ | refine W_seqL ?_ | refine W_seq ?_ | refine W_block ?_ | refine W_scp ?_ | ((first | refine W_regS 7 (by decide) (by decide) ?_ | refine W_regL ?_ | refine W_skip ?_ | refine W_exit ?_); simp (maxSteps := 400000) (disch := omega) only [push_cast, ↓reduceIte, reduceCtorEq, Nat.reduceAdd, Nat.reduceSub, Nat.reduceEqDiff, Nat.reduceLeDiff, Nat.reduceLT, Nat.reduceBEq, Nat.reduceDiv, Nat.reduceMod, Nat.reducePow, Nat.reduceMul, Int.reduceToNat, Int.reduceLT, Int.reduceLE, hWR, e5]) | refine And.intro (by omega) ?_ | refine And.intro (by intro hq; (try simp only [Bool.and_eq_true, Bool.or_eq_true, Bool.and_eq_false_iff, Bool.or_eq_false_iff, decide_eq_true_eq, decide_eq_false_iff_not, Bool.not_eq_true', Bool.not_eq_false', beq_iff_eq, beq_eq_false_iff_ne, ne_eq] at hq); omega) ?_ | fail)
    refine CallC.inl (Inl_le' (hI _ R' _ (hR'.le (by omega))) (fun r s2 hs => ?_))
    obtain ⟨B', _, ⟨rfl, rfl⟩, hl2⟩ := hs
    refine ⟨_, ?_, hl2⟩
    simp (maxSteps := 400000) (disch := omega) only [push_cast, ↓reduceIte, reduceCtorEq, Nat.reduceAdd, Nat.reduceSub, Nat.reduceEqDiff, Nat.reduceLeDiff, Nat.reduceLT, Nat.reduceBEq, Nat.reduceDiv, Nat.reduceMod, Nat.reducePow, Nat.reduceMul, Int.reduceToNat, Int.reduceLT, Int.reduceLE]
    repeat' (first | refine WK_go ?_ | refine W_seqL ?_ | refine W_seq ?_ | refine W_block ?_ | refine W_scp ?_ | ((first | refine W_regL ?_ | refine W_skip ?_ | refine W_exit ?_); simp (maxSteps := 400000) (disch := omega) only [push_cast, ↓reduceIte, reduceCtorEq, Nat.reduceAdd, Nat.reduceSub, Nat.reduceEqDiff, Nat.reduceLeDiff, Nat.reduceLT, Nat.reduceBEq, Nat.reduceDiv, Nat.reduceMod, Nat.reducePow, Nat.reduceMul, Int.reduceToNat, Int.reduceLT, Int.reduceLE, hWR]) | refine And.intro (by omega) ?_ | refine And.intro (by intro hq; (try simp only [Bool.and_eq_true, Bool.or_eq_true, Bool.and_eq_false_iff, Bool.or_eq_false_iff, decide_eq_true_eq, decide_eq_false_iff_not, Bool.not_eq_true', Bool.not_eq_false', beq_iff_eq, beq_eq_false_iff_ne, ne_eq] at hq); omega) ?_ | fail)
    refine W_cond (by rfl) (fun h => by cases h) (fun _ => ?_)
    repeat' (first | refine WK_go ?_ | refine W_seqL ?_ | refine W_seq ?_ | refine W_block ?_ | refine W_scp ?_ | ((first | refine W_regL ?_ | refine W_skip ?_ | refine W_exit ?_); simp (maxSteps := 400000) (disch := omega) only [push_cast, ↓reduceIte, reduceCtorEq, Nat.reduceAdd, Nat.reduceSub, Nat.reduceEqDiff, Nat.reduceLeDiff, Nat.reduceLT, Nat.reduceBEq, Nat.reduceDiv, Nat.reduceMod, Nat.reducePow, Nat.reduceMul, Int.reduceToNat, Int.reduceLT, Int.reduceLE]) | refine And.intro (by omega) ?_ | refine And.intro (by intro hq; (try simp only [Bool.and_eq_true, Bool.or_eq_true, Bool.and_eq_false_iff, Bool.or_eq_false_iff, decide_eq_true_eq, decide_eq_false_iff_not, Bool.not_eq_true', Bool.not_eq_false', beq_iff_eq, beq_eq_false_iff_ne, ne_eq] at hq); omega) ?_ | fail)
    refine ⟨(j + 1, (((x ++ [(j : Int)]) :: brn d' (x ++ [(j : Int)]) (j + 1)).foldl step c)), ⟨by dsimp only; omega, by dsimp only; omega, ?_⟩, by dsimp only; omega, by rfl, rfl⟩
    dsimp only
    rw [← h3, hd', show n - (j + 1) = d' by omega]
    simp only [brn, List.foldl_append, List.foldl_cons, List.cons_append]
  · have e7 : n - j = 0 := by omega
    rw [e7] at h3
    have h3 : c = (x :: brn d x i).foldl step b := h3
    repeat' (first | refine WK_go ?_ | refine W_seqL ?_ | refine W_seq ?_ | refine W_block ?_ | refine W_scp ?_ | ((first | refine W_regL ?_ | refine W_skip ?_ | refine W_exit ?_); simp (maxSteps := 400000) (disch := omega) only [push_cast, ↓reduceIte, reduceCtorEq, Nat.reduceAdd, Nat.reduceSub, Nat.reduceEqDiff, Nat.reduceLeDiff, Nat.reduceLT, Nat.reduceBEq, Nat.reduceDiv, Nat.reduceMod, Nat.reducePow, Nat.reduceMul, Int.reduceToNat, Int.reduceLT, Int.reduceLE]) | refine And.intro (by omega) ?_ | refine And.intro (by intro hq; (try simp only [Bool.and_eq_true, Bool.or_eq_true, Bool.and_eq_false_iff, Bool.or_eq_false_iff, decide_eq_true_eq, decide_eq_false_iff_not, Bool.not_eq_true', Bool.not_eq_false', beq_iff_eq, beq_eq_false_iff_ne, ne_eq] at hq); omega) ?_ | fail)
    refine W_ret ?_
    exact ⟨[_], _, ⟨rfl, rfl⟩, rfl, hBas _, rfl, by rw [h3]⟩
def tmL (n g : Nat) (fi ca : List AV) : List (Nat × AV) := [(3, .fp [.clo g fi ca] 0), (4, .own 1 0), (5, .own 2 0), (6, .own 3 0), (10, .clo 114 [] [.fp [iv n] 0])]
def memL (n g : Nat) (fi ca : List AV) (vs : Array Value) (lp : Nat) (R : Loop) (b : Option (List Int × Int)) : Mem := [(6, .oth (.fr vs (tmL n g fi ca))), (5, .oth (.lp lp R (tmL n g fi ca))), (1, .cells [uv (bS b)]), (2, .cells [iv (bC b)]), (3, .cells [bv (bF b)]), (8, .cells [.cq 115 [] [.fp [yv lp] 0, .fp [iv n] 0, .own 8 0]])]
theorem fn54 (n : Nat) (hn : n ≤ 10) (g : Nat) (fi ca : List AV) (f : List Int → Int) (ok : List Int → Bool) (hf : ∀ x, Srt n 0 x → -1099511627776000 ≤ f x ∧ f x ≤ 11258999068426240)
    (hg : ∀ x, Srt n 0 x → Sy.Fn Try.prog g (fi ++ [uv (msk x)] ++ ca) (.tup [iv (f x), bv (ok x)])) : Sy.Fn Try.prog 54 [.clo 114 [] [.fp [iv n] 0], .clo g fi ca] (.tup [uv (bS (leastL f ok (setsM n))), iv (bC (leastL f ok (setsM n))), bv (bF (leastL f ok (setsM n)))]) := by
  refine Fn_of_W mixed Xt54 rfl ?_
  repeat' (first | refine WK_go ?_ | refine W_seqL ?_ | refine W_seq ?_ | refine W_block ?_ | refine W_scp ?_ | ((first | refine W_regL ?_ | refine W_skip ?_ | refine W_exit ?_); simp (maxSteps := 400000) (disch := omega) only [push_cast, ↓reduceIte, reduceCtorEq, Nat.reduceAdd, Nat.reduceSub, Nat.reduceEqDiff, Nat.reduceLeDiff, Nat.reduceLT, Nat.reduceBEq, Nat.reduceDiv, Nat.reduceMod, Nat.reducePow, Nat.reduceMul, Int.reduceToNat, Int.reduceLT, Int.reduceLE]) | refine And.intro (by omega) ?_ | refine And.intro (by intro hq; (try simp only [Bool.and_eq_true, Bool.or_eq_true, Bool.and_eq_false_iff, Bool.or_eq_false_iff, decide_eq_true_eq, decide_eq_false_iff_not, Bool.not_eq_true', Bool.not_eq_false', beq_iff_eq, beq_eq_false_iff_ne, ne_eq] at hq); omega) ?_ | fail)
  refine W_rfn (.inl rfl) (fun lp R hR => Inl_of_W mixed Xt114 rfl (fun vs => ?_))
  simp (maxSteps := 400000) (disch := omega) only [push_cast, ↓reduceIte, reduceCtorEq, Nat.reduceAdd, Nat.reduceSub, Nat.reduceEqDiff, Nat.reduceLeDiff, Nat.reduceLT, Nat.reduceBEq, Nat.reduceDiv, Nat.reduceMod, Nat.reducePow, Nat.reduceMul, Int.reduceToNat, Int.reduceLT, Int.reduceLE]
  repeat' (first | refine WK_go ?_ | refine W_seqL ?_ | refine W_seq ?_ | refine W_block ?_ | refine W_scp ?_ | ((first | refine W_regL ?_ | refine W_skip ?_ | refine W_exit ?_); simp (maxSteps := 400000) (disch := omega) only [push_cast, ↓reduceIte, reduceCtorEq, Nat.reduceAdd, Nat.reduceSub, Nat.reduceEqDiff, Nat.reduceLeDiff, Nat.reduceLT, Nat.reduceBEq, Nat.reduceDiv, Nat.reduceMod, Nat.reducePow, Nat.reduceMul, Int.reduceToNat, Int.reduceLT, Int.reduceLE]) | refine And.intro (by omega) ?_ | refine And.intro (by intro hq; (try simp only [Bool.and_eq_true, Bool.or_eq_true, Bool.and_eq_false_iff, Bool.or_eq_false_iff, decide_eq_true_eq, decide_eq_false_iff_not, Bool.not_eq_true', Bool.not_eq_false', beq_iff_eq, beq_eq_false_iff_ne, ne_eq] at hq); omega) ?_ | fail)
  have HY : ∀ b x, Srt n 0 x → ∀ tm R' nx, Opq 12 R' nx → Yl Try.prog lp [uv (msk x)] ⟨tm, memL n g fi ca vs lp R b ++ R', nx⟩ (MidB 12 nx tm R' (fun r B' => r = true ∧ B' = memL n g fi ca vs lp R (lstep f ok b x))) := fun b x hx tm R' nx hO => by
    refine Yl_mid mixed (k := 5) (tml := tmL n g fi ca) hR rfl rfl rfl hO (bas_of rfl) (fun R2 nx2 hO2 => ?_)
    have cg := hg x hx
    unfold memL tmL
    simp (maxSteps := 400000) (disch := omega) only [push_cast, ↓reduceIte, reduceCtorEq, Nat.reduceAdd, Nat.reduceSub, Nat.reduceEqDiff, Nat.reduceLeDiff, Nat.reduceLT, Nat.reduceBEq, Nat.reduceDiv, Nat.reduceMod, Nat.reducePow, Nat.reduceMul, Int.reduceToNat, Int.reduceLT, Int.reduceLE, List.cons_append, List.nil_append]
    repeat' (first | refine WK_go ?_ | refine W_seqL ?_ | refine W_seq ?_ | refine W_block ?_ | refine W_scp ?_ | ((first | refine W_regL ?_ | refine W_skip ?_ | refine W_exit ?_); simp (maxSteps := 400000) (disch := omega) only [push_cast, ↓reduceIte, reduceCtorEq, Nat.reduceAdd, Nat.reduceSub, Nat.reduceEqDiff, Nat.reduceLeDiff, Nat.reduceLT, Nat.reduceBEq, Nat.reduceDiv, Nat.reduceMod, Nat.reducePow, Nat.reduceMul, Int.reduceToNat, Int.reduceLT, Int.reduceLE]) | refine And.intro (by omega) ?_ | refine And.intro (by intro hq; (try simp only [Bool.and_eq_true, Bool.or_eq_true, Bool.and_eq_false_iff, Bool.or_eq_false_iff, decide_eq_true_eq, decide_eq_false_iff_not, Bool.not_eq_true', Bool.not_eq_false', beq_iff_eq, beq_eq_false_iff_ne, ne_eq] at hq); omega) ?_ | fail)
    refine ⟨[_, _, _, _, _, _], _, rfl, rfl, ?_⟩
    simp (maxSteps := 400000) (disch := omega) only [push_cast, ↓reduceIte, reduceCtorEq, Nat.reduceAdd, Nat.reduceSub, Nat.reduceEqDiff, Nat.reduceLeDiff, Nat.reduceLT, Nat.reduceBEq, Nat.reduceDiv, Nat.reduceMod, Nat.reducePow, Nat.reduceMul, Int.reduceToNat, Int.reduceLT, Int.reduceLE]
    repeat' (first | refine WK_go ?_ | refine W_seqL ?_ | refine W_seq ?_ | refine W_block ?_ | refine W_scp ?_ | ((first | refine W_regL ?_ | refine W_skip ?_ | refine W_exit ?_ | refine CallC.now (cg) ?_); simp (maxSteps := 400000) (disch := omega) only [push_cast, ↓reduceIte, reduceCtorEq, Nat.reduceAdd, Nat.reduceSub, Nat.reduceEqDiff, Nat.reduceLeDiff, Nat.reduceLT, Nat.reduceBEq, Nat.reduceDiv, Nat.reduceMod, Nat.reducePow, Nat.reduceMul, Int.reduceToNat, Int.reduceLT, Int.reduceLE]) | refine And.intro (by omega) ?_ | refine And.intro (by intro hq; (try simp only [Bool.and_eq_true, Bool.or_eq_true, Bool.and_eq_false_iff, Bool.or_eq_false_iff, decide_eq_true_eq, decide_eq_false_iff_not, Bool.not_eq_true', Bool.not_eq_false', beq_iff_eq, beq_eq_false_iff_ne, ne_eq] at hq); omega) ?_ | fail)
    refine W_cond (by rfl) (fun hb => ?_) (fun hb => ?_)
    · have e : lstep f ok b x = some (x, f x) := by
        simp only [Bool.and_eq_true, Bool.or_eq_true, Bool.not_eq_true', decide_eq_true_eq] at hb
        exact lstep_yes hb.1 hb.2
      rw [e]
      repeat' (first | refine WK_go ?_ | refine W_seqL ?_ | refine W_seq ?_ | refine W_block ?_ | refine W_scp ?_ | ((first | refine W_regL ?_ | refine W_skip ?_ | refine W_exit ?_); simp (maxSteps := 400000) (disch := omega) only [push_cast, ↓reduceIte, reduceCtorEq, Nat.reduceAdd, Nat.reduceSub, Nat.reduceEqDiff, Nat.reduceLeDiff, Nat.reduceLT, Nat.reduceBEq, Nat.reduceDiv, Nat.reduceMod, Nat.reducePow, Nat.reduceMul, Int.reduceToNat, Int.reduceLT, Int.reduceLE]) | refine And.intro (by omega) ?_ | refine And.intro (by intro hq; (try simp only [Bool.and_eq_true, Bool.or_eq_true, Bool.and_eq_false_iff, Bool.or_eq_false_iff, decide_eq_true_eq, decide_eq_false_iff_not, Bool.not_eq_true', Bool.not_eq_false', beq_iff_eq, beq_eq_false_iff_ne, ne_eq] at hq); omega) ?_ | fail)
      refine ⟨[_, _, _, _, _, _], _, rfl, bas_of rfl, rfl, rfl, rfl⟩
    · have e : lstep f ok b x = b := by
        refine lstep_no ?_
        cases h1 : ok x
        · exact .inl rfl
        · right
          rw [h1] at hb
          simp only [Bool.true_and, Bool.or_eq_false_iff, Bool.not_eq_false', decide_eq_false_iff_not] at hb
          exact ⟨hb.1, by omega⟩
      rw [e]
      repeat' (first | refine WK_go ?_ | refine W_seqL ?_ | refine W_seq ?_ | refine W_block ?_ | refine W_scp ?_ | ((first | refine W_regL ?_ | refine W_skip ?_ | refine W_exit ?_); simp (maxSteps := 400000) (disch := omega) only [push_cast, ↓reduceIte, reduceCtorEq, Nat.reduceAdd, Nat.reduceSub, Nat.reduceEqDiff, Nat.reduceLeDiff, Nat.reduceLT, Nat.reduceBEq, Nat.reduceDiv, Nat.reduceMod, Nat.reducePow, Nat.reduceMul, Int.reduceToNat, Int.reduceLT, Int.reduceLE]) | refine And.intro (by omega) ?_ | refine And.intro (by intro hq; (try simp only [Bool.and_eq_true, Bool.or_eq_true, Bool.and_eq_false_iff, Bool.or_eq_false_iff, decide_eq_true_eq, decide_eq_false_iff_not, Bool.not_eq_true', Bool.not_eq_false', beq_iff_eq, beq_eq_false_iff_ne, ne_eq] at hq); omega) ?_ | fail)
      refine ⟨[_, _, _, _, _, _], _, rfl, bas_of rfl, rfl, rfl, rfl⟩
  refine CallC.inl (Inl_le' (walk_inl n hn (memL n g fi ca vs lp R) (lstep f ok) 12 8 lp (fun b => bas_of rfl) (fun b => rfl) HY n 0 [] (by omega) trivial (fun y hy => by cases hy) none _ [] 12 (opq_nil 12)) (fun r s' hs => ?_))
  obtain ⟨B', _, ⟨rfl, rfl⟩, hl2⟩ := hs
  refine ⟨_, ?_, hl2⟩
  have el : (([] : List Int) :: brn n [] 0).foldl (lstep f ok) none = leastL f ok (setsM n) := rfl
  rw [el, List.append_nil]
  generalize leastL f ok (setsM n) = X
  unfold memL tmL
  simp (maxSteps := 400000) (disch := omega) only [push_cast, ↓reduceIte, reduceCtorEq, Nat.reduceAdd, Nat.reduceSub, Nat.reduceEqDiff, Nat.reduceLeDiff, Nat.reduceLT, Nat.reduceBEq, Nat.reduceDiv, Nat.reduceMod, Nat.reducePow, Nat.reduceMul, Int.reduceToNat, Int.reduceLT, Int.reduceLE]
  refine ⟨_, _, rfl, rfl, ⟨_, _, rfl, by rw [hR.st]; simp, ?_⟩⟩
  rw [hR.pe]
  simp (maxSteps := 400000) (disch := omega) only [push_cast, ↓reduceIte, reduceCtorEq, Nat.reduceAdd, Nat.reduceSub, Nat.reduceEqDiff, Nat.reduceLeDiff, Nat.reduceLT, Nat.reduceBEq, Nat.reduceDiv, Nat.reduceMod, Nat.reducePow, Nat.reduceMul, Int.reduceToNat, Int.reduceLT, Int.reduceLE, EndP]
  repeat' (first | refine WK_go ?_ | refine W_seqL ?_ | refine W_seq ?_ | refine W_block ?_ | refine W_scp ?_ | ((first | refine W_regL ?_ | refine W_skip ?_ | refine W_exit ?_); simp (maxSteps := 400000) (disch := omega) only [push_cast, ↓reduceIte, reduceCtorEq, Nat.reduceAdd, Nat.reduceSub, Nat.reduceEqDiff, Nat.reduceLeDiff, Nat.reduceLT, Nat.reduceBEq, Nat.reduceDiv, Nat.reduceMod, Nat.reducePow, Nat.reduceMul, Int.reduceToNat, Int.reduceLT, Int.reduceLE]) | refine And.intro (by omega) ?_ | refine And.intro (by intro hq; (try simp only [Bool.and_eq_true, Bool.or_eq_true, Bool.and_eq_false_iff, Bool.or_eq_false_iff, decide_eq_true_eq, decide_eq_false_iff_not, Bool.not_eq_true', Bool.not_eq_false', beq_iff_eq, beq_eq_false_iff_ne, ne_eq] at hq); omega) ?_ | fail)
  exact W_ret ⟨[_, _, _], ⟨⟨by simp, rfl⟩, ⟨by simp, rfl⟩, ⟨by simp, rfl⟩, rfl⟩, rfl⟩
end Go.Proofs.Ytfbdlmenhoagmaa

