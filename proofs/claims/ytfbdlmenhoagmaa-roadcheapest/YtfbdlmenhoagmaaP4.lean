/- Part 4 of the proof of: For all maps, sizes and places, Cheapest, Bound, Reach and CheckCut return what the document says; maps of at most 12 places, 30 roads and 5 works, or refused ones; at most 100 numbers. -/
import Derived.Test.YtfbdlmenhoagmaaP3
import Derived.Laws.Bits64b
namespace Go.Proofs.Ytfbdlmenhoagmaa
open Go Sy
set_option maxRecDepth 100000
set_option maxHeartbeats 4000000
set_option linter.unusedVariables false
set_option linter.unusedSimpArgs false
theorem mixed : Try.prog.follows .mixedOrders = true := by kernel_rfl
abbrev iv (n : Int) : AV := .v (.int .i64 n)
abbrev bv (b : Bool) : AV := .v (.bool b)
abbrev uv (n : Nat) : AV := .v (.int .u64 n)
def cI (x : Int) : List AV := [iv x]
theorem nI (x : Int) : nth (cI x) 0 = iv x := rfl
theorem lI (x : Int) : (cI x).length = 1 := rfl
theorem frI (x : Int) : frzAll (cI x) = true := rfl
theorem tI (x : Int) : List.take 1 (List.drop 0 (cI x)) = cI x := rfl
abbrev aI (l : List Int) : AV := .sl 1 0 cI l
def cR (r : Rd) : List AV := [iv r.f, iv r.t, iv r.c, iv r.m, iv r.o, iv r.z, iv r.l0, iv r.l1, iv r.l2, iv r.l3, iv r.l4, iv r.l5]
theorem nR0 (r : Rd) : nth (cR r) 0 = iv r.f := rfl
theorem nR1 (r : Rd) : nth (cR r) 1 = iv r.t := rfl
theorem nR2 (r : Rd) : nth (cR r) 2 = iv r.c := rfl
theorem nR3 (r : Rd) : nth (cR r) 3 = iv r.m := rfl
theorem nR4 (r : Rd) : nth (cR r) 4 = iv r.o := rfl
theorem nR5 (r : Rd) : nth (cR r) 5 = iv r.z := rfl
theorem lR (r : Rd) : (cR r).length = 12 := rfl
theorem frR (r : Rd) : frzAll (cR r) = true := rfl
theorem tR (r : Rd) : List.take 12 (List.drop 0 (cR r)) = cR r := rfl
theorem iR {m : Nat → Option Blk} {n : Nat} (r : Rd) : List.flatMap (ids m n) (cR r) = [] := flat_frz n _ (frR r)
theorem vR {m : Nat → Option Blk} {n : Nat} (r : Rd) : List.map (view m n) (cR r) = cR r := viewL_frz n _ (frR r)
def cW (w : Wrk) : List AV := [aI w.rs, iv w.k, iv w.l, iv w.c]
theorem nW0 (w : Wrk) : nth (cW w) 0 = aI w.rs := rfl
theorem nW1 (w : Wrk) : nth (cW w) 1 = iv w.k := rfl
theorem nW2 (w : Wrk) : nth (cW w) 2 = iv w.l := rfl
theorem nW3 (w : Wrk) : nth (cW w) 3 = iv w.c := rfl
theorem lW (w : Wrk) : (cW w).length = 4 := rfl
theorem frW (w : Wrk) : frzAll (cW w) = true := rfl
theorem tW (w : Wrk) : List.take 4 (List.drop 0 (cW w)) = cW w := rfl
theorem iW {m : Nat → Option Blk} {n : Nat} (w : Wrk) : List.flatMap (ids m n) (cW w) = [] := flat_frz n _ (frW w)
theorem vW {m : Nat → Option Blk} {n : Nat} (w : Wrk) : List.map (view m n) (cW w) = cW w := viewL_frz n _ (frW w)
abbrev aR (l : List Rd) : AV := .sl 12 dR cR l
abbrev aW (l : List Wrk) : AV := .sl 4 dW cW l
def cM (m : Mp) : List AV := [iv m.n, aR m.rs, aW m.ws]
theorem nM0 (m : Mp) : nth (cM m) 0 = iv m.n := rfl
theorem nM1 (m : Mp) : nth (cM m) 1 = aR m.rs := rfl
theorem nM2 (m : Mp) : nth (cM m) 2 = aW m.ws := rfl
theorem lM (m : Mp) : (cM m).length = 3 := rfl
theorem frM (m : Mp) : frzAll (cM m) = true := rfl
theorem iM {f : Nat → Option Blk} {n : Nat} (m : Mp) : List.flatMap (ids f n) (cM m) = [] := flat_frz n _ (frM m)
theorem vM {f : Nat → Option Blk} {n : Nat} (m : Mp) : List.map (view f n) (cM m) = cM m := viewL_frz n _ (frM m)
abbrev aM (m : Mp) : AV := .agg (cM m)
def c6 (f : Nat → Int) : List AV := [iv (f 0), iv (f 1), iv (f 2), iv (f 3), iv (f 4), iv (f 5)]
theorem l6 (f : Nat → Int) : (c6 f).length = 6 := rfl
theorem fr6 (f : Nat → Int) : frzAll (c6 f) = true := rfl
theorem n6 (f : Nat → Int) (k : Nat) (h : k < 6) : nth (c6 f) k = iv (f k) := by
  rcases k with _ | _ | _ | _ | _ | _ | k <;> first | rfl | omega
theorem i6 {m : Nat → Option Blk} {n : Nat} (f : Nat → Int) : List.flatMap (ids m n) (c6 f) = [] := flat_frz n _ (fr6 f)
theorem v6 {m : Nat → Option Blk} {n : Nat} (f : Nat → Int) : List.map (view m n) (c6 f) = c6 f := viewL_frz n _ (fr6 f)
theorem t6 (f : Nat → Int) : List.take 6 (c6 f) = c6 f := rfl
theorem cutR (r : Rd) : List.take 6 (List.drop 6 (cR r)) = c6 r.lim := rfl
theorem tR2 (r : Rd) : List.take 12 (cR r) = cR r := rfl
theorem tW2 (w : Wrk) : List.take 4 (cW w) = cW w := rfl
theorem tM2 (m : Mp) : List.take 3 (cM m) = cM m := rfl
attribute [push_cast] tR2 tW2 tM2 nI lI frI tI nR0 nR1 nR2 nR3 nR4 nR5 lR frR tR iR vR nW0 nW1 nW2 nW3 lW frW tW iW vW nM0 nM1 nM2 lM frM iM vM l6 fr6 n6 i6 v6 t6 cutR
theorem fn85 (x lo hi : Int) : Sy.Fn Try.prog 85 [iv x, iv lo, iv hi] (bv (inR x lo hi)) := by
  refine Fn_of_W mixed Xt85 rfl ?_
  repeat' (first | refine w1g ?_ | refine w1l ?_ | refine w1q ?_ | refine w1b ?_ | refine w1p ?_ | ((first | refine w1r ?_ | refine w1k ?_ | refine w1e ?_); (refine sy1 ?_; try exact True.intro)) | refine an2 ?_ | fail)
  exact W_ret ⟨[_], ⟨rfl, rfl⟩, rfl⟩
theorem fn66 (x lo hi : Int) : Sy.Fn Try.prog 66 [iv x, iv lo, iv hi] (bv (inR x lo hi)) := by
  refine Fn_of_W mixed Xt66 rfl ?_
  repeat' (first | refine w1g ?_ | refine w1l ?_ | refine w1q ?_ | refine w1b ?_ | refine w1p ?_ | ((first | refine w1r ?_ | refine w1k ?_ | refine w1e ?_); (refine sy1 ?_; try exact True.intro)) | refine an2 ?_ | fail)
  exact W_ret ⟨[_], ⟨rfl, rfl⟩, rfl⟩
theorem up_all {p : Nat → Prop} {n : Nat} (h : ∀ j, j < n → p j) (hn : p n) : ∀ j, j < n + 1 → p j := fun j hj => by
  rcases Nat.lt_succ_iff_lt_or_eq.1 hj with h1 | rfl
  · exact h j h1
  · exact hn
theorem setB_yes {l : List Int} {n : Int} (h : ∀ j, j < l.length → okAt l n j = true) : setB l n = true := by
  unfold setB
  rw [List.all_eq_true]
  intro j hj
  exact h j (List.mem_range.1 hj)
theorem setB_no {l : List Int} {n : Int} {i : Nat} (hi : i < l.length) (h : okAt l n i = false) : setB l n = false := by
  unfold setB
  rw [← Bool.not_eq_true, List.all_eq_true]
  intro q
  have := q i (List.mem_range.2 hi)
  rw [h] at this; cases this
theorem fn73 (l : List Int) (n : Int) (hl : l.length ≤ 140737488355328) : Sy.Fn Try.prog 73 [aI l, iv n] (bv (setB l n)) := by
  refine Fn_of_W mixed Xt73 rfl ?_
  repeat' (first | refine w1g ?_ | refine w1l ?_ | refine w1q ?_ | refine w1b ?_ | refine w1p ?_ | ((first | refine w1r ?_ | refine w1k ?_ | refine w1e ?_); (refine sy1 ?_; try exact True.intro)) | refine an2 ?_ | fail)
  refine W_loopU (fun i : Nat => [(5, iv (lastI l i)), (10, iv i)]) (fun i => []) (fun i => i ≤ l.length ∧ ∀ j, j < i → okAt l n j = true) (fun i => l.length - i) 0 ⟨by omega, fun j hj => by omega⟩ (by rfl) (by rfl) (fun i hi => ?_)
  obtain ⟨hi, hall⟩ := hi
  (refine sy1 ?_; try exact True.intro)
  repeat' (first | refine w1g ?_ | refine w1l ?_ | refine w1q ?_ | refine w1b ?_ | refine w1p ?_ | ((first | refine w1r ?_ | refine w1k ?_ | refine w1e ?_); (refine sy1 ?_; try exact True.intro)) | refine an2 ?_ | fail)
  refine W_condD (by rfl) (fun h5 => ?_) (fun h5 => ?_)
  · have hlt : i < l.length := by omega
    have hn1 : lastI l (i + 1) = gi l i := by unfold lastI; rw [if_neg (by omega)]; rfl
    have hgi : l.getD i 0 = gi l i := rfl
    have hok : okAt l n i = (decide (lastI l i < gi l i) && decide (gi l i < n)) := rfl
    generalize gi l i = x at hn1 hgi hok
    repeat' (first | refine w1g ?_ | refine w1l ?_ | refine w1q ?_ | refine w1b ?_ | refine w1p ?_ | ((first | refine w1r ?_ | refine w1k ?_ | refine w1e ?_); simp (maxSteps := 400000) (disch := omega) only [push_cast, ↓reduceIte, reduceCtorEq, Nat.reduceAdd, Nat.reduceSub, Nat.reduceEqDiff, Nat.reduceLeDiff, Nat.reduceLT, Nat.reduceBEq, Nat.reduceDiv, Nat.reduceMod, Nat.reducePow, Nat.reduceMul, Int.reduceToNat, Int.reduceLT, Int.reduceLE, hgi]) | refine an2 ?_ | fail)
    refine W_cond (by rfl) (fun hb => ?_) (fun hb => ?_)
    · have e : okAt l n i = false := by
        rw [hok, Bool.and_eq_false_iff, decide_eq_false_iff_not, decide_eq_false_iff_not]
        rw [Bool.or_eq_true, decide_eq_true_eq, decide_eq_true_eq] at hb
        omega
      rw [setB_no hlt e]
      repeat' (first | refine w1g ?_ | refine w1l ?_ | refine w1q ?_ | refine w1b ?_ | refine w1p ?_ | ((first | refine w1r ?_ | refine w1k ?_ | refine w1e ?_); (refine sy1 ?_; try exact True.intro)) | refine an2 ?_ | fail)
      exact W_ret ⟨[_], ⟨rfl, rfl⟩, rfl⟩
    · have e : okAt l n i = true := by
        rw [hok, Bool.and_eq_true, decide_eq_true_eq, decide_eq_true_eq]
        rw [Bool.or_eq_false_iff, decide_eq_false_iff_not, decide_eq_false_iff_not] at hb
        omega
      repeat' (first | refine w1g ?_ | refine w1l ?_ | refine w1q ?_ | refine w1b ?_ | refine w1p ?_ | ((first | refine w1r ?_ | refine w1k ?_ | refine w1e ?_); (refine sy1 ?_; try exact True.intro)) | refine an2 ?_ | fail)
      refine ⟨i + 1, ⟨by omega, up_all hall e⟩, by omega, by rfl, ?_⟩
      rw [hn1]
      (refine syE ?_; try exact True.intro)
  · rw [setB_yes (fun j hj => hall j (by omega))]
    repeat' (first | refine w1g ?_ | refine w1l ?_ | refine w1q ?_ | refine w1b ?_ | refine w1p ?_ | ((first | refine w1r ?_ | refine w1k ?_ | refine w1e ?_); (refine sy1 ?_; try exact True.intro)) | refine an2 ?_ | fail)
    exact W_ret ⟨[_], ⟨rfl, rfl⟩, rfl⟩
theorem fn67 (l : List Int) (n : Int) (hl : l.length ≤ 140737488355328) : Sy.Fn Try.prog 67 [aI l, iv n] (bv (setB l n)) := by
  refine Fn_of_W mixed Xt67 rfl ?_
  repeat' (first | refine w1g ?_ | refine w1l ?_ | refine w1q ?_ | refine w1b ?_ | refine w1p ?_ | ((first | refine w1r ?_ | refine w1k ?_ | refine w1e ?_); (refine sy1 ?_; try exact True.intro)) | refine an2 ?_ | fail)
  refine W_loopU (fun i : Nat => [(5, iv i)]) (fun i => []) (fun i => i ≤ l.length ∧ ∀ j, j < i → okAt l n j = true) (fun i => l.length - i) 0 ⟨by omega, fun j hj => by omega⟩ (by rfl) (by rfl) (fun i hi => ?_)
  obtain ⟨hi, hall⟩ := hi
  (refine sy1 ?_; try exact True.intro)
  repeat' (first | refine w1g ?_ | refine w1l ?_ | refine w1q ?_ | refine w1b ?_ | refine w1p ?_ | ((first | refine w1r ?_ | refine w1k ?_ | refine w1e ?_); (refine sy1 ?_; try exact True.intro)) | refine an2 ?_ | fail)
  refine W_condD (by rfl) (fun h5 => ?_) (fun h5 => ?_)
  · have hlt : i < l.length := by omega
    have hgi : l.getD i 0 = gi l i := rfl
    obtain ⟨y, hy⟩ : ∃ y, l.getD ((i : Int) - 1).toNat 0 = y := ⟨_, rfl⟩
    have hok : okAt l n i = (decide (lastI l i < gi l i) && decide (gi l i < n)) := rfl
    have hl1 : i ≠ 0 → lastI l i = y ∧ 0 ≤ y := fun q => by
      have e : ((i : Int) - 1).toNat = i - 1 := by omega
      rw [e] at hy
      have h1 := hall (i - 1) (by omega)
      unfold okAt at h1
      rw [Bool.and_eq_true, decide_eq_true_eq] at h1
      have h2 : gi l (i - 1) = y := hy
      have h3 : -1 ≤ lastI l (i - 1) := by
        unfold lastI
        split
        · omega
        · rename_i z
          have h4 := hall (i - 1 - 1) (by omega)
          have : ∀ k, k < i → 0 ≤ gi l k := fun k => by
            induction k with
            | zero =>
              intro hk
              have := hall 0 hk
              unfold okAt lastI at this
              rw [if_pos rfl, Bool.and_eq_true, decide_eq_true_eq] at this
              omega
            | succ k ih =>
              intro hk
              have := hall (k + 1) hk
              unfold okAt lastI at this
              rw [if_neg (by omega), Bool.and_eq_true, decide_eq_true_eq] at this
              have h5 : k + 1 - 1 = k := by omega
              rw [h5] at this
              have := ih (by omega)
              omega
          have := this (i - 1 - 1) (by omega)
          omega
      refine ⟨by unfold lastI; rw [if_neg q]; exact h2, by omega⟩
    have hl0 : i = 0 → lastI l i = -1 := fun q => by unfold lastI; rw [if_pos q]
    generalize gi l i = x at hgi hok
    repeat' (first | refine w1g ?_ | refine w1l ?_ | refine w1q ?_ | refine w1b ?_ | refine w1p ?_ | ((first | refine w1r ?_ | refine w1k ?_ | refine w1e ?_); simp (maxSteps := 400000) (disch := omega) only [push_cast, ↓reduceIte, reduceCtorEq, Nat.reduceAdd, Nat.reduceSub, Nat.reduceEqDiff, Nat.reduceLeDiff, Nat.reduceLT, Nat.reduceBEq, Nat.reduceDiv, Nat.reduceMod, Nat.reducePow, Nat.reduceMul, Int.reduceToNat, Int.reduceLT, Int.reduceLE, hgi, hy]) | refine an2 ?_ | fail)
    refine W_cond (by rfl) (fun hb => ?_) (fun hb => ?_)
    · have e : okAt l n i = false := by
        rw [hok, Bool.and_eq_false_iff, decide_eq_false_iff_not, decide_eq_false_iff_not]
        simp only [Bool.or_eq_true, Bool.and_eq_true, decide_eq_true_eq] at hb
        by_cases q : i = 0
        · have := hl0 q; omega
        · have := hl1 q; omega
      rw [setB_no hlt e]
      repeat' (first | refine w1g ?_ | refine w1l ?_ | refine w1q ?_ | refine w1b ?_ | refine w1p ?_ | ((first | refine w1r ?_ | refine w1k ?_ | refine w1e ?_); (refine sy1 ?_; try exact True.intro)) | refine an2 ?_ | fail)
      exact W_ret ⟨[_], ⟨rfl, rfl⟩, rfl⟩
    · have e : okAt l n i = true := by
        rw [hok, Bool.and_eq_true, decide_eq_true_eq, decide_eq_true_eq]
        simp only [Bool.or_eq_false_iff, Bool.and_eq_false_iff, decide_eq_false_iff_not] at hb
        by_cases q : i = 0
        · have := hl0 q; omega
        · have := hl1 q; omega
      repeat' (first | refine w1g ?_ | refine w1l ?_ | refine w1q ?_ | refine w1b ?_ | refine w1p ?_ | ((first | refine w1r ?_ | refine w1k ?_ | refine w1e ?_); (refine sy1 ?_; try exact True.intro)) | refine an2 ?_ | fail)
      refine ⟨i + 1, ⟨by omega, up_all hall e⟩, by omega, by rfl, ?_⟩
      (refine syE ?_; try exact True.intro)
  · rw [setB_yes (fun j hj => hall j (by omega))]
    repeat' (first | refine w1g ?_ | refine w1l ?_ | refine w1q ?_ | refine w1b ?_ | refine w1p ?_ | ((first | refine w1r ?_ | refine w1k ?_ | refine w1e ?_); (refine sy1 ?_; try exact True.intro)) | refine an2 ?_ | fail)
    exact W_ret ⟨[_], ⟨rfl, rfl⟩, rfl⟩
def idxF {α : Type} (p : α → Bool) : List α → Int → Int
  | [], _ => -1
  | x :: r, i => if p x then i else idxF p r (i + 1)
theorem idxF_at {α : Type} (p : α → Bool) (d : α) : ∀ (l : List α) (i : Nat) (k : Int), i < l.length → (∀ j, j < i → p (l.getD j d) = false) → p (l.getD i d) = true → idxF p l k = k + i
  | [], i, k, h, _, _ => by simp at h
  | x :: r, 0, k, _, _, h => by simp at h; simp [idxF, h]
  | x :: r, i + 1, k, h, hj, hp => by
    have h0 : p x = false := by simpa using hj 0 (by omega)
    have := idxF_at p d r i (k + 1) (by simpa using h) (fun j hlt => by simpa using hj (j + 1) (by omega)) (by simpa using hp)
    simp only [idxF, h0, Bool.false_eq_true, if_false, this]
    omega
theorem idxF_none {α : Type} (p : α → Bool) (d : α) : ∀ (l : List α) (k : Int), (∀ j, j < l.length → p (l.getD j d) = false) → idxF p l k = -1
  | [], k, _ => rfl
  | x :: r, k, h => by
    have h0 : p x = false := by simpa using h 0 (by simp)
    have := idxF_none p d r (k + 1) (fun j hlt => by simpa using h (j + 1) (by simpa using hlt))
    simp only [idxF, h0, Bool.false_eq_true, if_false, this]
theorem idxF_any {α : Type} (p : α → Bool) : ∀ (l : List α) (k : Int), 0 ≤ k → decide (0 ≤ idxF p l k) = l.any p
  | [], k, _ => by simp [idxF]
  | x :: r, k, h => by
    simp only [idxF, List.any_cons]
    by_cases hp : p x = true
    · simp [hp, h]
    · simp only [hp]
      simpa using idxF_any p r (k + 1) (by omega)
theorem getD_mem {α : Type} (d : α) (l : List α) (i : Nat) (h : i < l.length) : l.getD i d ∈ l := getD_mem' d l i h
theorem fn125 (l : List Int) (hl : l.length ≤ 1000000) (g : Nat) (fi ca : List AV) (p : Int → Bool) (hg : ∀ x ∈ l, Sy.Fn Try.prog g (fi ++ [iv x] ++ ca) (bv (p x))) : Sy.Fn Try.prog 125 [aI l, .clo g fi ca] (iv (idxF p l 0)) := by
  refine Fn_of_W mixed Xt125 rfl ?_
  repeat' (first | refine w1g ?_ | refine w1l ?_ | refine w1q ?_ | refine w1b ?_ | refine w1p ?_ | ((first | refine w1r ?_ | refine w1k ?_ | refine w1e ?_); (refine sy1 ?_; try exact True.intro)) | refine an2 ?_ | fail)
  refine W_loopU (fun i : Nat => [(8, iv i)]) (fun i => []) (fun i => i ≤ l.length ∧ ∀ j, j < i → p (l.getD j 0) = false) (fun i => l.length - i) 0 ⟨by omega, fun j hj => by omega⟩ (by rfl) (by rfl) (fun i hi => ?_)
  obtain ⟨hi, hp⟩ := hi
  (refine sy1 ?_; try exact True.intro)
  repeat' (first | refine w1g ?_ | refine w1l ?_ | refine w1q ?_ | refine w1b ?_ | refine w1p ?_ | ((first | refine w1r ?_ | refine w1k ?_ | refine w1e ?_); (refine sy1 ?_; try exact True.intro)) | refine an2 ?_ | fail)
  refine W_condD (by rfl) (fun h => ?_) (fun h => ?_)
  · have hlt : i < l.length := by omega
    have cg := hg _ (getD_mem 0 l i hlt)
    repeat' (first | refine w1g ?_ | refine w1l ?_ | refine w1q ?_ | refine w1b ?_ | refine w1p ?_ | ((first | refine w1r ?_ | refine w1k ?_ | refine w1e ?_ | refine CallC.now (cg) ?_); (refine sy1 ?_; try exact True.intro)) | refine an2 ?_ | fail)
    refine W_cond (by rfl) (fun hb => ?_) (fun hb => ?_)
    · repeat' (first | refine w1g ?_ | refine w1l ?_ | refine w1q ?_ | refine w1b ?_ | refine w1p ?_ | ((first | refine w1r ?_ | refine w1k ?_ | refine w1e ?_); (refine sy1 ?_; try exact True.intro)) | refine an2 ?_ | fail)
      exact W_ret ⟨[_], ⟨rfl, rfl⟩, by rw [idxF_at p 0 l i 0 hlt hp hb, Int.zero_add]; rfl⟩
    · repeat' (first | refine w1g ?_ | refine w1l ?_ | refine w1q ?_ | refine w1b ?_ | refine w1p ?_ | ((first | refine w1r ?_ | refine w1k ?_ | refine w1e ?_); (refine sy1 ?_; try exact True.intro)) | refine an2 ?_ | fail)
      refine ⟨i + 1, ⟨by omega, up_all hp hb⟩, by omega, by rfl, ?_⟩
      (refine syE ?_; try exact True.intro)
  · repeat' (first | refine w1g ?_ | refine w1l ?_ | refine w1q ?_ | refine w1b ?_ | refine w1p ?_ | ((first | refine w1r ?_ | refine w1k ?_ | refine w1e ?_); (refine sy1 ?_; try exact True.intro)) | refine an2 ?_ | fail)
    exact W_ret ⟨[_], ⟨rfl, rfl⟩, by rw [idxF_none p 0 l 0 (fun j hj => hp j (by omega))]; rfl⟩
theorem fn88 (l : List Int) (hl : l.length ≤ 1000000) (g : Nat) (fi ca : List AV) (p : Int → Bool) (hg : ∀ x ∈ l, Sy.Fn Try.prog g (fi ++ [iv x] ++ ca) (bv (p x))) : Sy.Fn Try.prog 88 [aI l, .clo g fi ca] (bv (l.any p)) := by
  refine Fn_of_W mixed Xt88 rfl ?_
  repeat' (first | refine w1g ?_ | refine w1l ?_ | refine w1q ?_ | refine w1b ?_ | refine w1p ?_ | ((first | refine w1r ?_ | refine w1k ?_ | refine w1e ?_ | refine CallC.now (fn125 l hl g fi ca p hg) ?_); (refine sy1 ?_; try exact True.intro)) | refine an2 ?_ | fail)
  exact W_ret ⟨[_], ⟨rfl, rfl⟩, by rw [← idxF_any p l 0 (by omega)]; rfl⟩
theorem fn62 (l : List Rd) (hl : l.length ≤ 1000000) (g : Nat) (fi ca : List AV) (p : Rd → Bool) (hg : ∀ x ∈ l, Sy.Fn Try.prog g (fi ++ [.agg (cR x)] ++ ca) (bv (p x))) : Sy.Fn Try.prog 62 [aR l, .clo g fi ca] (iv (idxF p l 0)) := by
  refine Fn_of_W mixed Xt62 rfl ?_
  repeat' (first | refine w1g ?_ | refine w1l ?_ | refine w1q ?_ | refine w1b ?_ | refine w1p ?_ | ((first | refine w1r ?_ | refine w1k ?_ | refine w1e ?_); (refine sy1 ?_; try exact True.intro)) | refine an2 ?_ | fail)
  refine W_loopU (fun i : Nat => [(8, iv i)]) (fun i => []) (fun i => i ≤ l.length ∧ ∀ j, j < i → p (l.getD j dR) = false) (fun i => l.length - i) 0 ⟨by omega, fun j hj => by omega⟩ (by rfl) (by rfl) (fun i hi => ?_)
  obtain ⟨hi, hp⟩ := hi
  (refine sy1 ?_; try exact True.intro)
  repeat' (first | refine w1g ?_ | refine w1l ?_ | refine w1q ?_ | refine w1b ?_ | refine w1p ?_ | ((first | refine w1r ?_ | refine w1k ?_ | refine w1e ?_); (refine sy1 ?_; try exact True.intro)) | refine an2 ?_ | fail)
  refine W_condD (by rfl) (fun h => ?_) (fun h => ?_)
  · have hlt : i < l.length := by omega
    have cg := hg _ (getD_mem dR l i hlt)
    repeat' (first | refine w1g ?_ | refine w1l ?_ | refine w1q ?_ | refine w1b ?_ | refine w1p ?_ | ((first | refine w1r ?_ | refine w1k ?_ | refine w1e ?_ | refine CallC.now (cg) ?_); (refine sy1 ?_; try exact True.intro)) | refine an2 ?_ | fail)
    refine W_cond (by rfl) (fun hb => ?_) (fun hb => ?_)
    · repeat' (first | refine w1g ?_ | refine w1l ?_ | refine w1q ?_ | refine w1b ?_ | refine w1p ?_ | ((first | refine w1r ?_ | refine w1k ?_ | refine w1e ?_); (refine sy1 ?_; try exact True.intro)) | refine an2 ?_ | fail)
      exact W_ret ⟨[_], ⟨rfl, rfl⟩, by rw [idxF_at p dR l i 0 hlt hp hb, Int.zero_add]; rfl⟩
    · repeat' (first | refine w1g ?_ | refine w1l ?_ | refine w1q ?_ | refine w1b ?_ | refine w1p ?_ | ((first | refine w1r ?_ | refine w1k ?_ | refine w1e ?_); (refine sy1 ?_; try exact True.intro)) | refine an2 ?_ | fail)
      refine ⟨i + 1, ⟨by omega, up_all hp hb⟩, by omega, by rfl, ?_⟩
      (refine syE ?_; try exact True.intro)
  · repeat' (first | refine w1g ?_ | refine w1l ?_ | refine w1q ?_ | refine w1b ?_ | refine w1p ?_ | ((first | refine w1r ?_ | refine w1k ?_ | refine w1e ?_); (refine sy1 ?_; try exact True.intro)) | refine an2 ?_ | fail)
    exact W_ret ⟨[_], ⟨rfl, rfl⟩, by rw [idxF_none p dR l 0 (fun j hj => hp j (by omega))]; rfl⟩
theorem fn87 (l : List Rd) (hl : l.length ≤ 1000000) (g : Nat) (fi ca : List AV) (p : Rd → Bool) (hg : ∀ x ∈ l, Sy.Fn Try.prog g (fi ++ [.agg (cR x)] ++ ca) (bv (p x))) : Sy.Fn Try.prog 87 [aR l, .clo g fi ca] (bv (l.any p)) := by
  refine Fn_of_W mixed Xt87 rfl ?_
  repeat' (first | refine w1g ?_ | refine w1l ?_ | refine w1q ?_ | refine w1b ?_ | refine w1p ?_ | ((first | refine w1r ?_ | refine w1k ?_ | refine w1e ?_ | refine CallC.now (fn62 l hl g fi ca p hg) ?_); (refine sy1 ?_; try exact True.intro)) | refine an2 ?_ | fail)
  exact W_ret ⟨[_], ⟨rfl, rfl⟩, by rw [← idxF_any p l 0 (by omega)]; rfl⟩
theorem fn124 (l : List Wrk) (hl : l.length ≤ 1000000) (g : Nat) (fi ca : List AV) (p : Wrk → Bool) (hg : ∀ x ∈ l, Sy.Fn Try.prog g (fi ++ [.agg (cW x)] ++ ca) (bv (p x))) : Sy.Fn Try.prog 124 [aW l, .clo g fi ca] (iv (idxF p l 0)) := by
  refine Fn_of_W mixed Xt124 rfl ?_
  repeat' (first | refine w1g ?_ | refine w1l ?_ | refine w1q ?_ | refine w1b ?_ | refine w1p ?_ | ((first | refine w1r ?_ | refine w1k ?_ | refine w1e ?_); (refine sy1 ?_; try exact True.intro)) | refine an2 ?_ | fail)
  refine W_loopU (fun i : Nat => [(8, iv i)]) (fun i => []) (fun i => i ≤ l.length ∧ ∀ j, j < i → p (l.getD j dW) = false) (fun i => l.length - i) 0 ⟨by omega, fun j hj => by omega⟩ (by rfl) (by rfl) (fun i hi => ?_)
  obtain ⟨hi, hp⟩ := hi
  (refine sy1 ?_; try exact True.intro)
  repeat' (first | refine w1g ?_ | refine w1l ?_ | refine w1q ?_ | refine w1b ?_ | refine w1p ?_ | ((first | refine w1r ?_ | refine w1k ?_ | refine w1e ?_); (refine sy1 ?_; try exact True.intro)) | refine an2 ?_ | fail)
  refine W_condD (by rfl) (fun h => ?_) (fun h => ?_)
  · have hlt : i < l.length := by omega
    have cg := hg _ (getD_mem dW l i hlt)
    repeat' (first | refine w1g ?_ | refine w1l ?_ | refine w1q ?_ | refine w1b ?_ | refine w1p ?_ | ((first | refine w1r ?_ | refine w1k ?_ | refine w1e ?_ | refine CallC.now (cg) ?_); (refine sy1 ?_; try exact True.intro)) | refine an2 ?_ | fail)
    refine W_cond (by rfl) (fun hb => ?_) (fun hb => ?_)
    · repeat' (first | refine w1g ?_ | refine w1l ?_ | refine w1q ?_ | refine w1b ?_ | refine w1p ?_ | ((first | refine w1r ?_ | refine w1k ?_ | refine w1e ?_); (refine sy1 ?_; try exact True.intro)) | refine an2 ?_ | fail)
      exact W_ret ⟨[_], ⟨rfl, rfl⟩, by rw [idxF_at p dW l i 0 hlt hp hb, Int.zero_add]; rfl⟩
    · repeat' (first | refine w1g ?_ | refine w1l ?_ | refine w1q ?_ | refine w1b ?_ | refine w1p ?_ | ((first | refine w1r ?_ | refine w1k ?_ | refine w1e ?_); (refine sy1 ?_; try exact True.intro)) | refine an2 ?_ | fail)
      refine ⟨i + 1, ⟨by omega, up_all hp hb⟩, by omega, by rfl, ?_⟩
      (refine syE ?_; try exact True.intro)
  · repeat' (first | refine w1g ?_ | refine w1l ?_ | refine w1q ?_ | refine w1b ?_ | refine w1p ?_ | ((first | refine w1r ?_ | refine w1k ?_ | refine w1e ?_); (refine sy1 ?_; try exact True.intro)) | refine an2 ?_ | fail)
    exact W_ret ⟨[_], ⟨rfl, rfl⟩, by rw [idxF_none p dW l 0 (fun j hj => hp j (by omega))]; rfl⟩
theorem fn81 (l : List Wrk) (hl : l.length ≤ 1000000) (g : Nat) (fi ca : List AV) (p : Wrk → Bool) (hg : ∀ x ∈ l, Sy.Fn Try.prog g (fi ++ [.agg (cW x)] ++ ca) (bv (p x))) : Sy.Fn Try.prog 81 [aW l, .clo g fi ca] (bv (l.any p)) := by
  refine Fn_of_W mixed Xt81 rfl ?_
  repeat' (first | refine w1g ?_ | refine w1l ?_ | refine w1q ?_ | refine w1b ?_ | refine w1p ?_ | ((first | refine w1r ?_ | refine w1k ?_ | refine w1e ?_ | refine CallC.now (fn124 l hl g fi ca p hg) ?_); (refine sy1 ?_; try exact True.intro)) | refine an2 ?_ | fail)
  exact W_ret ⟨[_], ⟨rfl, rfl⟩, by rw [← idxF_any p l 0 (by omega)]; rfl⟩
theorem fn120 (l : List Int) (hl : l.length ≤ 1000000) (g : Nat) (fi ca : List AV) (p : Int → Bool) (hg : ∀ x ∈ l, Sy.Fn Try.prog g (fi ++ [iv x] ++ ca) (bv (p x))) : Sy.Fn Try.prog 120 [aI l, .clo g fi ca] (iv (idxF p l 0)) := by
  refine Fn_of_W mixed Xt120 rfl ?_
  repeat' (first | refine w1g ?_ | refine w1l ?_ | refine w1q ?_ | refine w1b ?_ | refine w1p ?_ | ((first | refine w1r ?_ | refine w1k ?_ | refine w1e ?_); (refine sy1 ?_; try exact True.intro)) | refine an2 ?_ | fail)
  refine W_loopU (fun i : Nat => [(8, iv i)]) (fun i => []) (fun i => i ≤ l.length ∧ ∀ j, j < i → p (l.getD j 0) = false) (fun i => l.length - i) 0 ⟨by omega, fun j hj => by omega⟩ (by rfl) (by rfl) (fun i hi => ?_)
  obtain ⟨hi, hp⟩ := hi
  (refine sy1 ?_; try exact True.intro)
  repeat' (first | refine w1g ?_ | refine w1l ?_ | refine w1q ?_ | refine w1b ?_ | refine w1p ?_ | ((first | refine w1r ?_ | refine w1k ?_ | refine w1e ?_); (refine sy1 ?_; try exact True.intro)) | refine an2 ?_ | fail)
  refine W_condD (by rfl) (fun h => ?_) (fun h => ?_)
  · have hlt : i < l.length := by omega
    have cg := hg _ (getD_mem 0 l i hlt)
    repeat' (first | refine w1g ?_ | refine w1l ?_ | refine w1q ?_ | refine w1b ?_ | refine w1p ?_ | ((first | refine w1r ?_ | refine w1k ?_ | refine w1e ?_ | refine CallC.now (cg) ?_); (refine sy1 ?_; try exact True.intro)) | refine an2 ?_ | fail)
    refine W_cond (by rfl) (fun hb => ?_) (fun hb => ?_)
    · repeat' (first | refine w1g ?_ | refine w1l ?_ | refine w1q ?_ | refine w1b ?_ | refine w1p ?_ | ((first | refine w1r ?_ | refine w1k ?_ | refine w1e ?_); (refine sy1 ?_; try exact True.intro)) | refine an2 ?_ | fail)
      exact W_ret ⟨[_], ⟨rfl, rfl⟩, by rw [idxF_at p 0 l i 0 hlt hp hb, Int.zero_add]; rfl⟩
    · repeat' (first | refine w1g ?_ | refine w1l ?_ | refine w1q ?_ | refine w1b ?_ | refine w1p ?_ | ((first | refine w1r ?_ | refine w1k ?_ | refine w1e ?_); (refine sy1 ?_; try exact True.intro)) | refine an2 ?_ | fail)
      refine ⟨i + 1, ⟨by omega, up_all hp hb⟩, by omega, by rfl, ?_⟩
      (refine syE ?_; try exact True.intro)
  · repeat' (first | refine w1g ?_ | refine w1l ?_ | refine w1q ?_ | refine w1b ?_ | refine w1p ?_ | ((first | refine w1r ?_ | refine w1k ?_ | refine w1e ?_); (refine sy1 ?_; try exact True.intro)) | refine an2 ?_ | fail)
    exact W_ret ⟨[_], ⟨rfl, rfl⟩, by rw [idxF_none p 0 l 0 (fun j hj => hp j (by omega))]; rfl⟩
theorem fn70 (l : List Int) (hl : l.length ≤ 1000000) (g : Nat) (fi ca : List AV) (p : Int → Bool) (hg : ∀ x ∈ l, Sy.Fn Try.prog g (fi ++ [iv x] ++ ca) (bv (p x))) : Sy.Fn Try.prog 70 [aI l, .clo g fi ca] (bv (l.any p)) := by
  refine Fn_of_W mixed Xt70 rfl ?_
  repeat' (first | refine w1g ?_ | refine w1l ?_ | refine w1q ?_ | refine w1b ?_ | refine w1p ?_ | ((first | refine w1r ?_ | refine w1k ?_ | refine w1e ?_ | refine CallC.now (fn120 l hl g fi ca p hg) ?_); (refine sy1 ?_; try exact True.intro)) | refine an2 ?_ | fail)
  exact W_ret ⟨[_], ⟨rfl, rfl⟩, by rw [← idxF_any p l 0 (by omega)]; rfl⟩
theorem fn138 (l : List Int) (x : Int) (hl : l.length ≤ 1000000) : Sy.Fn Try.prog 138 [aI l, iv x] (iv (idxF (fun y => x == y) l 0)) := by
  refine Fn_of_W mixed Xt138 rfl ?_
  repeat' (first | refine w1g ?_ | refine w1l ?_ | refine w1q ?_ | refine w1b ?_ | refine w1p ?_ | ((first | refine w1r ?_ | refine w1k ?_ | refine w1e ?_); (refine sy1 ?_; try exact True.intro)) | refine an2 ?_ | fail)
  refine W_loopU (fun i : Nat => [(8, iv i)]) (fun i => []) (fun i => i ≤ l.length ∧ ∀ j, j < i → (x == l.getD j 0) = false) (fun i => l.length - i) 0 ⟨by omega, fun j hj => by omega⟩ (by rfl) (by rfl) (fun i hi => ?_)
  obtain ⟨hi, hp⟩ := hi
  (refine sy1 ?_; try exact True.intro)
  repeat' (first | refine w1g ?_ | refine w1l ?_ | refine w1q ?_ | refine w1b ?_ | refine w1p ?_ | ((first | refine w1r ?_ | refine w1k ?_ | refine w1e ?_); (refine sy1 ?_; try exact True.intro)) | refine an2 ?_ | fail)
  refine W_condD (by rfl) (fun h => ?_) (fun h => ?_)
  · have hlt : i < l.length := by omega
    repeat' (first | refine w1g ?_ | refine w1l ?_ | refine w1q ?_ | refine w1b ?_ | refine w1p ?_ | ((first | refine w1r ?_ | refine w1k ?_ | refine w1e ?_); (refine sy1 ?_; try exact True.intro)) | refine an2 ?_ | fail)
    refine W_cond (by rfl) (fun hb => ?_) (fun hb => ?_)
    · repeat' (first | refine w1g ?_ | refine w1l ?_ | refine w1q ?_ | refine w1b ?_ | refine w1p ?_ | ((first | refine w1r ?_ | refine w1k ?_ | refine w1e ?_); (refine sy1 ?_; try exact True.intro)) | refine an2 ?_ | fail)
      exact W_ret ⟨[_], ⟨rfl, rfl⟩, by rw [idxF_at (fun y => x == y) 0 l i 0 hlt hp hb, Int.zero_add]; rfl⟩
    · repeat' (first | refine w1g ?_ | refine w1l ?_ | refine w1q ?_ | refine w1b ?_ | refine w1p ?_ | ((first | refine w1r ?_ | refine w1k ?_ | refine w1e ?_); (refine sy1 ?_; try exact True.intro)) | refine an2 ?_ | fail)
      refine ⟨i + 1, ⟨by omega, up_all hp hb⟩, by omega, by rfl, ?_⟩
      (refine syE ?_; try exact True.intro)
  · repeat' (first | refine w1g ?_ | refine w1l ?_ | refine w1q ?_ | refine w1b ?_ | refine w1p ?_ | ((first | refine w1r ?_ | refine w1k ?_ | refine w1e ?_); (refine sy1 ?_; try exact True.intro)) | refine an2 ?_ | fail)
    exact W_ret ⟨[_], ⟨rfl, rfl⟩, by rw [idxF_none (fun y => x == y) 0 l 0 (fun j hj => hp j (by omega))]; rfl⟩
theorem fn129 (l : List Int) (x : Int) (hl : l.length ≤ 1000000) : Sy.Fn Try.prog 129 [aI l, iv x] (bv (decide (x ∈ l))) := by
  refine Fn_of_W mixed Xt129 rfl ?_
  repeat' (first | refine w1g ?_ | refine w1l ?_ | refine w1q ?_ | refine w1b ?_ | refine w1p ?_ | ((first | refine w1r ?_ | refine w1k ?_ | refine w1e ?_ | refine CallC.now (fn138 l x hl) ?_); (refine sy1 ?_; try exact True.intro)) | refine an2 ?_ | fail)
  refine W_ret ⟨[_], ⟨rfl, rfl⟩, ?_⟩
  have e : decide (0 ≤ idxF (fun y => x == y) l 0) = decide (x ∈ l) := by
    rw [idxF_any _ l 0 (by omega), ← List.contains_eq_any_beq]
    rw [Bool.eq_iff_iff, List.contains_iff_mem, decide_eq_true_eq]
  rw [← e]; rfl
theorem fn107 (l : List Int) (x : Int) (hl : l.length ≤ 140737488355328) : Sy.Fn Try.prog 107 [aI l, iv x] (bv (decide (x ∈ l))) := by
  refine Fn_of_W mixed Xt107 rfl ?_
  repeat' (first | refine w1g ?_ | refine w1l ?_ | refine w1q ?_ | refine w1b ?_ | refine w1p ?_ | ((first | refine w1r ?_ | refine w1k ?_ | refine w1e ?_); (refine sy1 ?_; try exact True.intro)) | refine an2 ?_ | fail)
  refine W_loopU (fun i : Nat => [(5, iv i)]) (fun i => []) (fun i => i ≤ l.length ∧ ∀ j, j < i → gi l j ≠ x) (fun i => l.length - i) 0 ⟨by omega, fun j hj => by omega⟩ (by rfl) (by rfl) (fun i hi => ?_)
  obtain ⟨hi, hp⟩ := hi
  (refine sy1 ?_; try exact True.intro)
  repeat' (first | refine w1g ?_ | refine w1l ?_ | refine w1q ?_ | refine w1b ?_ | refine w1p ?_ | ((first | refine w1r ?_ | refine w1k ?_ | refine w1e ?_); (refine sy1 ?_; try exact True.intro)) | refine an2 ?_ | fail)
  refine W_condD (by rfl) (fun h => ?_) (fun h => ?_)
  · have hlt : i < l.length := by omega
    repeat' (first | refine w1g ?_ | refine w1l ?_ | refine w1q ?_ | refine w1b ?_ | refine w1p ?_ | ((first | refine w1r ?_ | refine w1k ?_ | refine w1e ?_); (refine sy1 ?_; try exact True.intro)) | refine an2 ?_ | fail)
    refine W_cond (by rfl) (fun hb => ?_) (fun hb => ?_)
    · have e : x ∈ l := by
        rw [beq_iff_eq] at hb
        rw [← hb]; exact getD_mem 0 l i hlt
      rw [decide_eq_true e]
      repeat' (first | refine w1g ?_ | refine w1l ?_ | refine w1q ?_ | refine w1b ?_ | refine w1p ?_ | ((first | refine w1r ?_ | refine w1k ?_ | refine w1e ?_); (refine sy1 ?_; try exact True.intro)) | refine an2 ?_ | fail)
      exact W_ret ⟨[_], ⟨rfl, rfl⟩, rfl⟩
    · repeat' (first | refine w1g ?_ | refine w1l ?_ | refine w1q ?_ | refine w1b ?_ | refine w1p ?_ | ((first | refine w1r ?_ | refine w1k ?_ | refine w1e ?_); (refine sy1 ?_; try exact True.intro)) | refine an2 ?_ | fail)
      refine ⟨i + 1, ⟨by omega, up_all hp (by simpa using hb)⟩, by omega, by rfl, ?_⟩
      (refine syE ?_; try exact True.intro)
  · have e : x ∉ l := fun q => by
      obtain ⟨j, hj⟩ := List.mem_iff_getElem?.1 q
      have h1 := (List.getElem?_eq_some_iff.1 hj).1
      exact hp j (by omega) (by simp [gi, List.getD, hj])
    rw [decide_eq_false e]
    repeat' (first | refine w1g ?_ | refine w1l ?_ | refine w1q ?_ | refine w1b ?_ | refine w1p ?_ | ((first | refine w1r ?_ | refine w1k ?_ | refine w1e ?_); (refine sy1 ?_; try exact True.intro)) | refine an2 ?_ | fail)
    exact W_ret ⟨[_], ⟨rfl, rfl⟩, rfl⟩
end Go.Proofs.Ytfbdlmenhoagmaa

namespace Go.Proofs.Ytfbdlmenhoagmaa
open Go Sy
set_option maxRecDepth 100000
set_option maxHeartbeats 4000000
set_option linter.unusedVariables false
set_option linter.unusedSimpArgs false
theorem fn89 (x : Int) : Sy.Fn Try.prog 89 [iv x] (bv (!inR x 0 1073741824)) := by
  refine Fn_of_W mixed Xt89 rfl ?_
  repeat' (first | refine w1g ?_ | refine w1l ?_ | refine w1q ?_ | refine w1b ?_ | refine w1p ?_ | ((first | refine w1r ?_ | refine w1k ?_ | refine w1e ?_ | refine CallC.now (fn85 _ _ _) ?_); (refine sy1 ?_; try exact True.intro)) | refine an2 ?_ | fail)
  exact W_ret ⟨[_], ⟨rfl, rfl⟩, rfl⟩
def li6 (f : Nat → Int) : List Int := [f 0, f 1, f 2, f 3, f 4, f 5]
theorem any6 (f : Nat → Int) : (List.any (li6 f) fun x => !inR x 0 1073741824) = !szB f := by
  unfold szB li6
  simp [List.range_succ, List.any_cons, List.all_append]
def szE (f : Nat → Int) : Int := if szB f = true then 0 else 2
theorem fn28 (f : Nat → Int) : Sy.Fn Try.prog 28 [.agg (c6 f)] (iv (szE f)) := by
  refine Fn_of_W mixed Xt28 rfl ?_
  have c88 := fn88 (li6 f) (Nat.le_of_ble_eq_true rfl) 89 [] [] (fun x => !inR x 0 1073741824) (fun x _ => fn89 x)
  rw [any6] at c88
  repeat' (first | refine w1g ?_ | refine w1l ?_ | refine w1q ?_ | refine w1b ?_ | refine w1p ?_ | ((first | refine w1r ?_ | refine w1k ?_ | refine w1e ?_); (refine sy1 ?_; try exact True.intro)) | refine an2 ?_ | fail)
  refine ⟨Int, 0, cI, li6 f, fun _ => ⟨trivial, rfl, by omega, fun x _ => rfl, rfl⟩, ?_⟩
  (refine sy1 ?_; try exact True.intro)
  repeat' (first | refine w1g ?_ | refine w1l ?_ | refine w1q ?_ | refine w1b ?_ | refine w1p ?_ | ((first | refine w1r ?_ | refine w1k ?_ | refine w1e ?_ | refine CallC.now (c88) ?_); (refine sy1 ?_; try exact True.intro)) | refine an2 ?_ | fail)
  unfold szE
  cases szB f
  · refine W_cond (by rfl) (fun _ => ?_) (fun h => by cases h)
    repeat' (first | refine w1g ?_ | refine w1l ?_ | refine w1q ?_ | refine w1b ?_ | refine w1p ?_ | ((first | refine w1r ?_ | refine w1k ?_ | refine w1e ?_); (refine sy1 ?_; try exact True.intro)) | refine an2 ?_ | fail)
    exact W_ret ⟨[_], ⟨rfl, rfl⟩, rfl⟩
  · refine W_cond (by rfl) (fun h => by cases h) (fun _ => ?_)
    repeat' (first | refine w1g ?_ | refine w1l ?_ | refine w1q ?_ | refine w1b ?_ | refine w1p ?_ | ((first | refine w1r ?_ | refine w1k ?_ | refine w1e ?_); (refine sy1 ?_; try exact True.intro)) | refine an2 ?_ | fail)
    exact W_ret ⟨[_], ⟨rfl, rfl⟩, rfl⟩
theorem fn29 (f : Nat → Int) : Sy.Fn Try.prog 29 [.agg (c6 f)] (iv (szE f)) := by
  refine Fn_of_W mixed Xt29 rfl ?_
  repeat' (first | refine w1g ?_ | refine w1l ?_ | refine w1q ?_ | refine w1b ?_ | refine w1p ?_ | ((first | refine w1r ?_ | refine w1k ?_ | refine w1e ?_); (refine sy1 ?_; try exact True.intro)) | refine an2 ?_ | fail)
  refine W_loopU (fun i : Nat => [(3, iv i)]) (fun i => []) (fun i => i ≤ 6 ∧ ∀ j, j < i → inR (f j) 0 1073741824 = true) (fun i => 6 - i) 0 ⟨by omega, fun j hj => by omega⟩ (by rfl) (by rfl) (fun i hi => ?_)
  obtain ⟨hi, hp⟩ := hi
  (refine sy1 ?_; try exact True.intro)
  repeat' (first | refine w1g ?_ | refine w1l ?_ | refine w1q ?_ | refine w1b ?_ | refine w1p ?_ | ((first | refine w1r ?_ | refine w1k ?_ | refine w1e ?_); (refine sy1 ?_; try exact True.intro)) | refine an2 ?_ | fail)
  refine W_condD (by rfl) (fun h => ?_) (fun h => ?_)
  · have hlt : i < 6 := by omega
    repeat' (first | refine w1g ?_ | refine w1l ?_ | refine w1q ?_ | refine w1b ?_ | refine w1p ?_ | ((first | refine w1r ?_ | refine w1k ?_ | refine w1e ?_ | refine CallC.now (fn66 _ _ _) ?_); simp (maxSteps := 400000) (disch := omega) only [push_cast, ↓reduceIte, reduceCtorEq, Nat.reduceAdd, Nat.reduceSub, Nat.reduceEqDiff, Nat.reduceLeDiff, Nat.reduceLT, Nat.reduceBEq, Nat.reduceDiv, Nat.reduceMod, Nat.reducePow, Nat.reduceMul, Int.reduceToNat, Int.reduceLT, Int.reduceLE, Nat.mul_one, Nat.zero_add]) | refine an2 ?_ | fail)
    refine W_cond (by rfl) (fun hb => ?_) (fun hb => ?_)
    · have e : szE f = 2 := by
        unfold szE szB
        rw [if_neg]
        intro q
        rw [List.all_eq_true] at q
        have := q i (List.mem_range.2 hlt)
        rw [this] at hb; cases hb
      rw [e]
      repeat' (first | refine w1g ?_ | refine w1l ?_ | refine w1q ?_ | refine w1b ?_ | refine w1p ?_ | ((first | refine w1r ?_ | refine w1k ?_ | refine w1e ?_); (refine sy1 ?_; try exact True.intro)) | refine an2 ?_ | fail)
      exact W_ret ⟨[_], ⟨rfl, rfl⟩, rfl⟩
    · repeat' (first | refine w1g ?_ | refine w1l ?_ | refine w1q ?_ | refine w1b ?_ | refine w1p ?_ | ((first | refine w1r ?_ | refine w1k ?_ | refine w1e ?_); (refine sy1 ?_; try exact True.intro)) | refine an2 ?_ | fail)
      refine ⟨i + 1, ⟨by omega, up_all hp (by simpa using hb)⟩, by omega, by rfl, ?_⟩
      (refine syE ?_; try exact True.intro)
  · have e : szE f = 0 := by
      unfold szE szB
      rw [if_pos]
      rw [List.all_eq_true]
      intro k hk
      have := List.mem_range.1 hk
      exact hp k (by omega)
    rw [e]
    repeat' (first | refine w1g ?_ | refine w1l ?_ | refine w1q ?_ | refine w1b ?_ | refine w1p ?_ | ((first | refine w1r ?_ | refine w1k ?_ | refine w1e ?_); (refine sy1 ?_; try exact True.intro)) | refine an2 ?_ | fail)
    exact W_ret ⟨[_], ⟨rfl, rfl⟩, rfl⟩
structure Gm (m : Mp) : Prop where
  r : m.rs.length ≤ 300
  w : m.ws.length ≤ 20
  s : ∀ w ∈ m.ws, w.rs.length ≤ 40
theorem fn82 (w : Wrk) : Sy.Fn Try.prog 82 [.agg (cW w)] (bv (decide (16 < w.rs.length))) := by
  refine Fn_of_W mixed Xt82 rfl ?_
  have e : decide ((16 : Int) < (w.rs.length : Int)) = decide (16 < w.rs.length) := by
    rw [Bool.eq_iff_iff, decide_eq_true_eq, decide_eq_true_eq]; omega
  rw [← e]
  repeat' (first | refine w1g ?_ | refine w1l ?_ | refine w1q ?_ | refine w1b ?_ | refine w1p ?_ | ((first | refine w1r ?_ | refine w1k ?_ | refine w1e ?_); (refine sy1 ?_; try exact True.intro)) | refine an2 ?_ | fail)
  exact W_ret ⟨[_], ⟨rfl, rfl⟩, rfl⟩
theorem fn83 (m : Mp) (x : Int) : Sy.Fn Try.prog 83 [iv x, .fp (cM m) 0] (bv (plB m.n x)) := by
  refine Fn_of_W mixed Xt83 rfl ?_
  repeat' (first | refine w1g ?_ | refine w1l ?_ | refine w1q ?_ | refine w1b ?_ | refine w1p ?_ | ((first | refine w1r ?_ | refine w1k ?_ | refine w1e ?_); (refine sy1 ?_; try exact True.intro)) | refine an2 ?_ | fail)
  exact W_ret ⟨[_], ⟨rfl, rfl⟩, rfl⟩
theorem hrs_wrap (r : Rd) : (decide (0 ≤ r.o) && decide (r.o < r.z) && decide (r.z ≤ 1440) && inR r.m 1 (min 1440 (IntKind.i64.wrap (r.z - r.o)))) = hrsB r := by
  unfold hrsB
  by_cases h : 0 ≤ r.o ∧ r.o < r.z ∧ r.z ≤ 1440
  · rw [wrap64 (by omega)]
  · have e : (decide (0 ≤ r.o) && decide (r.o < r.z) && decide (r.z ≤ 1440)) = false := by
      rw [← Bool.not_eq_true]
      simp only [Bool.and_eq_true, decide_eq_true_eq]
      omega
    rw [e]; rfl
theorem fn84 (m : Mp) (r : Rd) : Sy.Fn Try.prog 84 [.agg (cR r), .fp [.clo 83 [] [.fp (cM m) 0]] 0] (bv (!roadB m.n r)) := by
  refine Fn_of_W mixed Xt84 rfl ?_
  repeat' (first | refine w1g ?_ | refine w1l ?_ | refine w1q ?_ | refine w1b ?_ | refine w1p ?_ | ((first | refine w1r ?_ | refine w1k ?_ | refine w1e ?_ | refine CallC.now (fn85 _ _ _) ?_ | refine CallC.go _ (fun _ => ⟨trivial, fn85 _ _ _⟩) rfl ?_); (refine sy1 ?_; try exact True.intro)) | refine an2 ?_ | fail)
  rw [hrs_wrap]
  repeat' (first | refine w1g ?_ | refine w1l ?_ | refine w1q ?_ | refine w1b ?_ | refine w1p ?_ | ((first | refine w1r ?_ | refine w1k ?_ | refine w1e ?_ | refine CallC.now (fn83 _ _) ?_ | refine CallC.go _ (fun _ => ⟨trivial, fn83 _ _⟩) rfl ?_ | refine CallC.go _ (fun _ => ⟨trivial, fn85 _ _ _⟩) rfl ?_ | refine CallC.go _ (fun _ => ⟨trivial, fn28 _⟩) rfl ?_); (refine sy1 ?_; try exact True.intro)) | refine an2 ?_ | fail)
  refine W_ret ⟨[_], ⟨rfl, rfl⟩, ?_⟩
  have e : roadB m.n r = (plB m.n r.f && plB m.n r.t && !(r.f == r.t) && inR r.c 1 1073741824 && hrsB r && szB r.lim) := rfl
  rw [e]
  unfold szE
  generalize plB m.n r.f = b1
  generalize plB m.n r.t = b2
  generalize (r.f == r.t) = b3
  generalize inR r.c 1 1073741824 = b4
  generalize hrsB r = b5
  generalize szB r.lim = b6
  cases b1 <;> cases b2 <;> cases b3 <;> cases b4 <;> cases b5 <;> cases b6 <;> rfl
theorem workB_neg (n : Int) (w : Wrk) : ((w.rs.length : Int) == 0 || !setB w.rs n || decide (w.k < 0) || decide (5 < w.k) || !inR w.l 0 1073741824 || !inR w.c 1 1073741824) = !workB n w := by
  have e : workB n w = (decide (0 < w.rs.length) && setB w.rs n && decide (0 ≤ w.k) && decide (w.k ≤ 5) && inR w.l 0 1073741824 && inR w.c 1 1073741824) := rfl
  rw [e, Bool.eq_iff_iff]
  generalize setB w.rs n = b1
  generalize inR w.l 0 1073741824 = b2
  generalize inR w.c 1 1073741824 = b3
  simp only [Bool.or_eq_true, Bool.not_eq_true', Bool.and_eq_false_iff, decide_eq_true_eq, decide_eq_false_iff_not, beq_iff_eq]
  cases b1 <;> cases b2 <;> cases b3 <;> simp only [true_or, or_true, false_or, or_false, reduceCtorEq] <;> omega
theorem fn86 (m : Mp) (w : Wrk) (hl : w.rs.length ≤ 1000000) : Sy.Fn Try.prog 86 [.agg (cW w), .fp (cM m) 0] (bv (!workB m.rs.length w)) := by
  refine Fn_of_W mixed Xt86 rfl ?_
  repeat' (first | refine w1g ?_ | refine w1l ?_ | refine w1q ?_ | refine w1b ?_ | refine w1p ?_ | ((first | refine w1r ?_ | refine w1k ?_ | refine w1e ?_ | refine CallC.go _ (fun _ => ⟨trivial, fn73 _ _ (by omega)⟩) rfl ?_ | refine CallC.go _ (fun _ => ⟨trivial, fn85 _ _ _⟩) rfl ?_); (refine sy1 ?_; try exact True.intro)) | refine an2 ?_ | fail)
  rw [workB_neg]
  exact W_ret ⟨[_], ⟨rfl, rfl⟩, rfl⟩
theorem manyB_eq {m : Mp} (hr : decide ((256 : Int) < (m.rs.length : Int)) = decide (256 < m.rs.length)) : manyB m = (decide ((256 : Int) < (m.rs.length : Int)) || decide ((10 : Int) < (m.ws.length : Int)) || m.ws.any fun w => decide (16 < w.rs.length)) := by
  unfold manyB
  rw [hr]
  congr 2
  rw [Bool.eq_iff_iff, decide_eq_true_eq, decide_eq_true_eq]; omega
theorem fn27 (m : Mp) (h : Gm m) : Sy.Fn Try.prog 27 [aM m] (iv (chkM m)) := by
  refine Fn_of_W mixed Xt27 rfl ?_
  have h1 := h.r
  have h2 := h.w
  have c81a := fn81 m.ws (by omega) 82 [] [] (fun w => decide (16 < w.rs.length)) (fun w _ => fn82 w)
  have c81b := fn81 m.ws (by omega) 86 [] [.fp (cM m) 0] (fun w => !workB m.rs.length w) (fun w hw => fn86 m w (by have := h.s w hw; omega))
  have c87 := fn87 m.rs (by omega) 84 [] [.fp [.clo 83 [] [.fp (cM m) 0]] 0] (fun r => !roadB m.n r) (fun r _ => fn84 m r)
  repeat' (first | refine w1g ?_ | refine w1l ?_ | refine w1q ?_ | refine w1b ?_ | refine w1p ?_ | ((first | refine w1r ?_ | refine w1k ?_ | refine w1e ?_ | refine CallC.go _ (fun _ => ⟨trivial, c81a⟩) rfl ?_); (refine sy1 ?_; try exact True.intro)) | refine an2 ?_ | fail)
  have e1 := manyB_eq (m := m) (by rw [Bool.eq_iff_iff, decide_eq_true_eq, decide_eq_true_eq]; omega)
  rw [← e1]
  refine W_cond (by rfl) (fun hb => ?_) (fun hb => ?_)
  · have e : chkM m = 6 := by unfold chkM; rw [if_pos hb]
    rw [e]
    repeat' (first | refine w1g ?_ | refine w1l ?_ | refine w1q ?_ | refine w1b ?_ | refine w1p ?_ | ((first | refine w1r ?_ | refine w1k ?_ | refine w1e ?_); (refine sy1 ?_; try exact True.intro)) | refine an2 ?_ | fail)
    exact W_ret ⟨[_], ⟨rfl, rfl⟩, rfl⟩
  have hmn : ¬ manyB m = true := by rw [hb]; decide
  repeat' (first | refine w1g ?_ | refine w1l ?_ | refine w1q ?_ | refine w1b ?_ | refine w1p ?_ | ((first | refine w1r ?_ | refine w1k ?_ | refine w1e ?_ | refine CallC.go _ (fun _ => ⟨trivial, c87⟩) rfl ?_ | refine CallC.go _ (fun _ => ⟨trivial, c81b⟩) rfl ?_); (refine sy1 ?_; try exact True.intro)) | refine an2 ?_ | fail)
  have e2 : ((decide (m.n < 1) || decide (64 < m.n) || m.rs.any fun r => !roadB m.n r) || m.ws.any fun w => !workB (m.rs.length : Int) w) = badM m := rfl
  rw [e2]
  refine W_cond (by rfl) (fun hb => ?_) (fun hb => ?_)
  · have e : chkM m = 2 := by unfold chkM; rw [if_neg hmn, if_pos hb]
    rw [e]
    repeat' (first | refine w1g ?_ | refine w1l ?_ | refine w1q ?_ | refine w1b ?_ | refine w1p ?_ | ((first | refine w1r ?_ | refine w1k ?_ | refine w1e ?_); (refine sy1 ?_; try exact True.intro)) | refine an2 ?_ | fail)
    exact W_ret ⟨[_], ⟨rfl, rfl⟩, rfl⟩
  · have e : chkM m = 0 := by unfold chkM; rw [if_neg hmn, if_neg (by rw [hb]; decide)]
    rw [e]
    repeat' (first | refine w1g ?_ | refine w1l ?_ | refine w1q ?_ | refine w1b ?_ | refine w1p ?_ | ((first | refine w1r ?_ | refine w1k ?_ | refine w1e ?_); (refine sy1 ?_; try exact True.intro)) | refine an2 ?_ | fail)
    exact W_ret ⟨[_], ⟨rfl, rfl⟩, rfl⟩
theorem any_yes {α : Type} {l : List α} {q : α → Bool} {i : Nat} (d : α) (hi : i < l.length) (h : q (l.getD i d) = true) : l.any q = true := List.any_eq_true.2 ⟨_, getD_mem d l i hi, h⟩
theorem any_no {α : Type} {l : List α} {q : α → Bool} (d : α) (h : ∀ i, i < l.length → q (l.getD i d) = false) : l.any q = false := by
  rw [← Bool.not_eq_true, List.any_eq_true]
  rintro ⟨x, hx, hq⟩
  obtain ⟨i, hi⟩ := List.mem_iff_getElem?.1 hx
  have h1 := (List.getElem?_eq_some_iff.1 hi).1
  have := h i h1
  simp only [List.getD, hi, Option.getD_some] at this
  rw [this] at hq; cases hq
theorem road_neg (n : Int) (r : Rd) : (decide (r.f < 0) || decide (n ≤ r.f) || decide (r.t < 0) || decide (n ≤ r.t) || r.f == r.t || !inR r.c 1 1073741824 || !inR r.m 1 1440 || decide (r.o < 0) || decide (r.z ≤ r.o) || decide (1440 < r.z) || decide (IntKind.i64.wrap (r.z - r.o) < r.m) || (szE r.lim != 0)) = !roadB n r := by
  have e : roadB n r = (plB n r.f && plB n r.t && !(r.f == r.t) && inR r.c 1 1073741824 && hrsB r && szB r.lim) := rfl
  have e2 : (szE r.lim != 0) = !szB r.lim := by unfold szE; cases szB r.lim <;> rfl
  rw [e, e2]
  unfold hrsB plB inR
  generalize szB r.lim = b1
  by_cases h : 0 ≤ r.o ∧ r.o < r.z ∧ r.z ≤ 1440
  · rw [wrap64 (by omega), Bool.eq_iff_iff]
    simp only [Bool.or_eq_true, Bool.not_eq_true', Bool.and_eq_false_iff, Bool.and_eq_true, Bool.not_eq_false', decide_eq_true_eq, decide_eq_false_iff_not, beq_iff_eq, beq_eq_false_iff_ne]
    cases b1 <;> simp only [true_or, or_true, false_or, or_false, reduceCtorEq, true_iff] <;> omega
  · have h2 : (decide (r.o < 0) || decide (r.z ≤ r.o) || decide (1440 < r.z)) = true := by
      simp only [Bool.or_eq_true, decide_eq_true_eq]; omega
    have h3 : (decide (0 ≤ r.o) && decide (r.o < r.z) && decide (r.z ≤ 1440)) = false := by
      rw [← Bool.not_eq_true]; simp only [Bool.and_eq_true, decide_eq_true_eq]; omega
    rw [h3]
    have h4 : ∀ a b c d e f g : Bool, (d || e || f) = true → (a || d || e || f || b || c) = true := by intro a b c d e f g; cases a <;> cases b <;> cases c <;> cases d <;> cases e <;> cases f <;> simp
    rw [h4 _ _ _ _ _ _ true h2]
    simp
theorem work_neg (n : Int) (w : Wrk) : (decide ((w.rs.length : Int) < 1) || decide (w.k < 0) || decide (5 < w.k) || !inR w.l 0 1073741824 || !inR w.c 1 1073741824 || !setB w.rs n) = !workB n w := by
  have e : workB n w = (decide (0 < w.rs.length) && setB w.rs n && decide (0 ≤ w.k) && decide (w.k ≤ 5) && inR w.l 0 1073741824 && inR w.c 1 1073741824) := rfl
  rw [e, Bool.eq_iff_iff]
  generalize setB w.rs n = b1
  generalize inR w.l 0 1073741824 = b2
  generalize inR w.c 1 1073741824 = b3
  simp only [Bool.or_eq_true, Bool.not_eq_true', Bool.and_eq_false_iff, decide_eq_true_eq, decide_eq_false_iff_not, beq_iff_eq]
  cases b1 <;> cases b2 <;> cases b3 <;> simp only [true_or, or_true, false_or, or_false, reduceCtorEq] <;> omega
end Go.Proofs.Ytfbdlmenhoagmaa

namespace Go.Proofs.Ytfbdlmenhoagmaa
open Go Sy
set_option maxRecDepth 100000
set_option maxHeartbeats 4000000
set_option linter.unusedVariables false
set_option linter.unusedSimpArgs false
theorem fn16 (m : Mp) (h : Gm m) : Sy.Fn Try.prog 16 [aM m] (iv (chkM m)) := by
  refine Fn_of_W mixed Xt16 rfl ?_
  have h1 := h.r
  have h2 := h.w
  repeat' (first | refine w1g ?_ | refine w1l ?_ | refine w1q ?_ | refine w1b ?_ | refine w1p ?_ | ((first | refine w1r ?_ | refine w1k ?_ | refine w1e ?_); (refine sy1 ?_; try exact True.intro)) | refine an2 ?_ | fail)
  refine W_cond (by rfl) (fun hb => ?_) (fun hb => ?_)
  · have e : chkM m = 6 := by
      unfold chkM manyB
      rw [if_pos]
      simp only [Bool.or_eq_true, decide_eq_true_eq] at hb ⊢
      omega
    rw [e]
    repeat' (first | refine w1g ?_ | refine w1l ?_ | refine w1q ?_ | refine w1b ?_ | refine w1p ?_ | ((first | refine w1r ?_ | refine w1k ?_ | refine w1e ?_); (refine sy1 ?_; try exact True.intro)) | refine an2 ?_ | fail)
    exact W_ret ⟨[_], ⟨rfl, rfl⟩, rfl⟩
  simp only [Bool.or_eq_false_iff, decide_eq_false_iff_not] at hb
  repeat' (first | refine w1g ?_ | refine w1l ?_ | refine w1q ?_ | refine w1b ?_ | refine w1p ?_ | ((first | refine w1r ?_ | refine w1k ?_ | refine w1e ?_); (refine sy1 ?_; try exact True.intro)) | refine an2 ?_ | fail)
  refine W_loopU (fun i : Nat => [(3, iv i)]) (fun i => []) (fun i => i ≤ m.ws.length ∧ ∀ j, j < i → decide (16 < (gw m j).rs.length) = false) (fun i => m.ws.length - i) 0 ⟨by omega, fun j hj => by omega⟩ (by rfl) (by rfl) (fun i hi => ?_)
  obtain ⟨hi, hp⟩ := hi
  (refine sy1 ?_; try exact True.intro)
  repeat' (first | refine w1g ?_ | refine w1l ?_ | refine w1q ?_ | refine w1b ?_ | refine w1p ?_ | ((first | refine w1r ?_ | refine w1k ?_ | refine w1e ?_); (refine sy1 ?_; try exact True.intro)) | refine an2 ?_ | fail)
  refine W_condD (by rfl) (fun h5 => ?_) (fun h5 => ?_)
  · have hlt : i < m.ws.length := by omega
    have hgw : m.ws.getD i dW = gw m i := rfl
    have hgl : (gw m i).rs.length = (m.ws.getD i dW).rs.length := rfl
    repeat' (first | refine w1g ?_ | refine w1l ?_ | refine w1q ?_ | refine w1b ?_ | refine w1p ?_ | ((first | refine w1r ?_ | refine w1k ?_ | refine w1e ?_); simp (maxSteps := 400000) (disch := omega) only [push_cast, ↓reduceIte, reduceCtorEq, Nat.reduceAdd, Nat.reduceSub, Nat.reduceEqDiff, Nat.reduceLeDiff, Nat.reduceLT, Nat.reduceBEq, Nat.reduceDiv, Nat.reduceMod, Nat.reducePow, Nat.reduceMul, Int.reduceToNat, Int.reduceLT, Int.reduceLE, hgw]) | refine an2 ?_ | fail)
    refine W_condD (by rfl) (fun h6 => ?_) (fun h6 => ?_)
    · have e : chkM m = 6 := by
        unfold chkM manyB
        rw [if_pos]
        rw [any_yes dW hlt (decide_eq_true (by omega))]
        simp
      rw [e]
      repeat' (first | refine w1g ?_ | refine w1l ?_ | refine w1q ?_ | refine w1b ?_ | refine w1p ?_ | ((first | refine w1r ?_ | refine w1k ?_ | refine w1e ?_); (refine sy1 ?_; try exact True.intro)) | refine an2 ?_ | fail)
      exact W_ret ⟨[_], ⟨rfl, rfl⟩, rfl⟩
    · repeat' (first | refine w1g ?_ | refine w1l ?_ | refine w1q ?_ | refine w1b ?_ | refine w1p ?_ | ((first | refine w1r ?_ | refine w1k ?_ | refine w1e ?_); (refine sy1 ?_; try exact True.intro)) | refine an2 ?_ | fail)
      refine ⟨i + 1, ⟨by omega, up_all hp (decide_eq_false (by omega))⟩, by omega, by rfl, ?_⟩
      (refine syE ?_; try exact True.intro)
  have hmn : ¬ manyB m = true := by
    unfold manyB
    rw [any_no dW (fun j hj => hp j (by omega))]
    simp only [Bool.or_eq_true, decide_eq_true_eq]
    simp
    omega
  have hc : chkM m = if badM m = true then 2 else 0 := by unfold chkM; rw [if_neg hmn]
  clear hp h5 hi
  repeat' (first | refine w1g ?_ | refine w1l ?_ | refine w1q ?_ | refine w1b ?_ | refine w1p ?_ | ((first | refine w1r ?_ | refine w1k ?_ | refine w1e ?_); (refine sy1 ?_; try exact True.intro)) | refine an2 ?_ | fail)
  refine W_cond (by rfl) (fun hb2 => ?_) (fun hb2 => ?_)
  · have e : chkM m = 2 := by
      rw [hc, if_pos]
      unfold badM
      rw [hb2]; simp
    rw [e]
    repeat' (first | refine w1g ?_ | refine w1l ?_ | refine w1q ?_ | refine w1b ?_ | refine w1p ?_ | ((first | refine w1r ?_ | refine w1k ?_ | refine w1e ?_); (refine sy1 ?_; try exact True.intro)) | refine an2 ?_ | fail)
    exact W_ret ⟨[_], ⟨rfl, rfl⟩, rfl⟩
  repeat' (first | refine w1g ?_ | refine w1l ?_ | refine w1q ?_ | refine w1b ?_ | refine w1p ?_ | ((first | refine w1r ?_ | refine w1k ?_ | refine w1e ?_); (refine sy1 ?_; try exact True.intro)) | refine an2 ?_ | fail)
  refine W_loopU (fun i : Nat => [(4, iv i)]) (fun i => []) (fun i => i ≤ m.rs.length ∧ ∀ j, j < i → (!roadB m.n (gr m j)) = false) (fun i => m.rs.length - i) 0 ⟨by omega, fun j hj => by omega⟩ (by rfl) (by rfl) (fun i hi => ?_)
  obtain ⟨hi, hp⟩ := hi
  (refine sy1 ?_; try exact True.intro)
  repeat' (first | refine w1g ?_ | refine w1l ?_ | refine w1q ?_ | refine w1b ?_ | refine w1p ?_ | ((first | refine w1r ?_ | refine w1k ?_ | refine w1e ?_); (refine sy1 ?_; try exact True.intro)) | refine an2 ?_ | fail)
  refine W_condD (by rfl) (fun h5 => ?_) (fun h5 => ?_)
  · have hlt : i < m.rs.length := by omega
    have hgr : m.rs.getD i dR = gr m i := rfl
    repeat' (first | refine w1g ?_ | refine w1l ?_ | refine w1q ?_ | refine w1b ?_ | refine w1p ?_ | ((first | refine w1r ?_ | refine w1k ?_ | refine w1e ?_ | refine CallC.go _ (fun _ => ⟨trivial, fn66 _ _ _⟩) rfl ?_ | refine CallC.go _ (fun _ => ⟨trivial, fn29 _⟩) rfl ?_); simp (maxSteps := 400000) (disch := omega) only [push_cast, ↓reduceIte, reduceCtorEq, Nat.reduceAdd, Nat.reduceSub, Nat.reduceEqDiff, Nat.reduceLeDiff, Nat.reduceLT, Nat.reduceBEq, Nat.reduceDiv, Nat.reduceMod, Nat.reducePow, Nat.reduceMul, Int.reduceToNat, Int.reduceLT, Int.reduceLE, hgr]) | refine an2 ?_ | fail)
    rw [road_neg]
    refine W_cond (by rfl) (fun h6 => ?_) (fun h6 => ?_)
    · have e : chkM m = 2 := by
        rw [hc, if_pos]
        unfold badM
        rw [any_yes (q := fun r => !roadB m.n r) dR hlt h6]; simp
      rw [e]
      repeat' (first | refine w1g ?_ | refine w1l ?_ | refine w1q ?_ | refine w1b ?_ | refine w1p ?_ | ((first | refine w1r ?_ | refine w1k ?_ | refine w1e ?_); (refine sy1 ?_; try exact True.intro)) | refine an2 ?_ | fail)
      exact W_ret ⟨[_], ⟨rfl, rfl⟩, rfl⟩
    · repeat' (first | refine w1g ?_ | refine w1l ?_ | refine w1q ?_ | refine w1b ?_ | refine w1p ?_ | ((first | refine w1r ?_ | refine w1k ?_ | refine w1e ?_); (refine sy1 ?_; try exact True.intro)) | refine an2 ?_ | fail)
      refine ⟨i + 1, ⟨by omega, up_all hp h6⟩, by omega, by rfl, ?_⟩
      (refine syE ?_; try exact True.intro)
  have hra : (m.rs.any fun r => !roadB m.n r) = false := any_no dR (fun j hj => hp j (by omega))
  clear hp h5 hi
  repeat' (first | refine w1g ?_ | refine w1l ?_ | refine w1q ?_ | refine w1b ?_ | refine w1p ?_ | ((first | refine w1r ?_ | refine w1k ?_ | refine w1e ?_); (refine sy1 ?_; try exact True.intro)) | refine an2 ?_ | fail)
  refine W_loopU (fun i : Nat => [(6, iv i)]) (fun i => []) (fun i => i ≤ m.ws.length ∧ ∀ j, j < i → (!workB m.rs.length (gw m j)) = false) (fun i => m.ws.length - i) 0 ⟨by omega, fun j hj => by omega⟩ (by rfl) (by rfl) (fun i hi => ?_)
  obtain ⟨hi, hp⟩ := hi
  (refine sy1 ?_; try exact True.intro)
  repeat' (first | refine w1g ?_ | refine w1l ?_ | refine w1q ?_ | refine w1b ?_ | refine w1p ?_ | ((first | refine w1r ?_ | refine w1k ?_ | refine w1e ?_); (refine sy1 ?_; try exact True.intro)) | refine an2 ?_ | fail)
  refine W_condD (by rfl) (fun h5 => ?_) (fun h5 => ?_)
  · have hlt : i < m.ws.length := by omega
    have hgw : m.ws.getD i dW = gw m i := rfl
    have hwl := h.s (gw m i) (getD_mem dW _ i hlt)
    repeat' (first | refine w1g ?_ | refine w1l ?_ | refine w1q ?_ | refine w1b ?_ | refine w1p ?_ | ((first | refine w1r ?_ | refine w1k ?_ | refine w1e ?_ | refine CallC.go _ (fun _ => ⟨trivial, fn66 _ _ _⟩) rfl ?_ | refine CallC.go _ (fun _ => ⟨trivial, fn67 _ _ (by omega)⟩) rfl ?_); simp (maxSteps := 400000) (disch := omega) only [push_cast, ↓reduceIte, reduceCtorEq, Nat.reduceAdd, Nat.reduceSub, Nat.reduceEqDiff, Nat.reduceLeDiff, Nat.reduceLT, Nat.reduceBEq, Nat.reduceDiv, Nat.reduceMod, Nat.reducePow, Nat.reduceMul, Int.reduceToNat, Int.reduceLT, Int.reduceLE, hgw]) | refine an2 ?_ | fail)
    rw [work_neg]
    refine W_cond (by rfl) (fun h6 => ?_) (fun h6 => ?_)
    · have e : chkM m = 2 := by
        rw [hc, if_pos]
        unfold badM
        rw [any_yes (q := fun w => !workB m.rs.length w) dW hlt h6]; simp
      rw [e]
      repeat' (first | refine w1g ?_ | refine w1l ?_ | refine w1q ?_ | refine w1b ?_ | refine w1p ?_ | ((first | refine w1r ?_ | refine w1k ?_ | refine w1e ?_); (refine sy1 ?_; try exact True.intro)) | refine an2 ?_ | fail)
      exact W_ret ⟨[_], ⟨rfl, rfl⟩, rfl⟩
    · repeat' (first | refine w1g ?_ | refine w1l ?_ | refine w1q ?_ | refine w1b ?_ | refine w1p ?_ | ((first | refine w1r ?_ | refine w1k ?_ | refine w1e ?_); (refine sy1 ?_; try exact True.intro)) | refine an2 ?_ | fail)
      refine ⟨i + 1, ⟨by omega, up_all hp h6⟩, by omega, by rfl, ?_⟩
      (refine syE ?_; try exact True.intro)
  have hwa : (m.ws.any fun w => !workB m.rs.length w) = false := any_no dW (fun j hj => hp j (by omega))
  have e : chkM m = 0 := by
    rw [hc, if_neg]
    unfold badM
    rw [hb2, hra, hwa]
    decide
  rw [e]
  repeat' (first | refine w1g ?_ | refine w1l ?_ | refine w1q ?_ | refine w1b ?_ | refine w1p ?_ | ((first | refine w1r ?_ | refine w1k ?_ | refine w1e ?_); (refine sy1 ?_; try exact True.intro)) | refine an2 ?_ | fail)
  exact W_ret ⟨[_], ⟨rfl, rfl⟩, rfl⟩
end Go.Proofs.Ytfbdlmenhoagmaa

namespace Go.Proofs.Ytfbdlmenhoagmaa
open Go Sy
set_option maxRecDepth 100000
set_option maxHeartbeats 4000000
set_option linter.unusedVariables false
set_option linter.unusedSimpArgs false
def cAt (m : Mp) (f : Nat → Int) : List AV := [iv m.n, aR m.rs, aW m.ws, iv (f 0), iv (f 1), iv (f 2), iv (f 3), iv (f 4), iv (f 5)]
theorem nAt0 (m : Mp) (f : Nat → Int) : nth (cAt m f) 0 = iv m.n := rfl
theorem nAt1 (m : Mp) (f : Nat → Int) : nth (cAt m f) 1 = aR m.rs := rfl
theorem nAt2 (m : Mp) (f : Nat → Int) : nth (cAt m f) 2 = aW m.ws := rfl
theorem lAt (m : Mp) (f : Nat → Int) : (cAt m f).length = 9 := rfl
theorem frAt (m : Mp) (f : Nat → Int) : frzAll (cAt m f) = true := rfl
theorem tAt3 (m : Mp) (f : Nat → Int) : List.take 3 (cAt m f) = cM m := rfl
theorem tAt30 (m : Mp) (f : Nat → Int) : List.take 3 (List.drop 0 (cAt m f)) = cM m := rfl
theorem tAt6 (m : Mp) (f : Nat → Int) : List.take 6 (List.drop 3 (cAt m f)) = c6 f := rfl
theorem tAt9 (m : Mp) (f : Nat → Int) : List.take 9 (cAt m f) = cAt m f := rfl
theorem tAt90 (m : Mp) (f : Nat → Int) : List.take 9 (List.drop 0 (cAt m f)) = cAt m f := rfl
theorem iAt {g : Nat → Option Blk} {n : Nat} (m : Mp) (f : Nat → Int) : List.flatMap (ids g n) (cAt m f) = [] := flat_frz n _ (frAt m f)
theorem vAt {g : Nat → Option Blk} {n : Nat} (m : Mp) (f : Nat → Int) : List.map (view g n) (cAt m f) = cAt m f := viewL_frz n _ (frAt m f)
theorem mkAt (m : Mp) (f : Nat → Int) : cM m ++ c6 f = cAt m f := rfl
attribute [push_cast] nAt0 nAt1 nAt2 lAt frAt tAt3 tAt30 tAt6 tAt9 tAt90 iAt vAt mkAt
abbrev aAt (m : Mp) (f : Nat → Int) : AV := .agg (cAt m f)
def zAt : List AV := [iv 0, .v (.slice none 0 0), .v (.slice none 0 0), iv 0, iv 0, iv 0, iv 0, iv 0, iv 0]
def opE (m : Mp) (f : Nat → Int) : Int := if chkM m = 0 then szE f else chkM m
def opV (m : Mp) (f : Nat → Int) : List AV := if chkM m = 0 then cAt m f else zAt
theorem fn52 (m : Mp) (f : Nat → Int) (h : Gm m) : Sy.Fn Try.prog 52 [aM m, .agg (c6 f)] (.tup [.agg (opV m f), iv (opE m f)]) := by
  refine Fn_of_W mixed Xt52 rfl ?_
  unfold opE opV
  repeat' (first | refine w1g ?_ | refine w1l ?_ | refine w1q ?_ | refine w1b ?_ | refine w1p ?_ | ((first | refine w1r ?_ | refine w1k ?_ | refine w1e ?_ | refine CallC.now (fn27 m h) ?_); (refine sy1 ?_; try exact True.intro)) | refine an2 ?_ | fail)
  refine W_cond (by rfl) (fun hb => ?_) (fun hb => ?_)
  · rw [bne_iff_ne] at hb
    rw [if_neg hb, if_neg hb]
    repeat' (first | refine w1g ?_ | refine w1l ?_ | refine w1q ?_ | refine w1b ?_ | refine w1p ?_ | ((first | refine w1r ?_ | refine w1k ?_ | refine w1e ?_); (refine sy1 ?_; try exact True.intro)) | refine an2 ?_ | fail)
    exact W_ret ⟨[_, _], ⟨⟨by simp, rfl⟩, rfl, rfl⟩, rfl⟩
  · rw [bne_eq_false_iff_eq] at hb
    rw [if_pos hb, if_pos hb]
    repeat' (first | refine w1g ?_ | refine w1l ?_ | refine w1q ?_ | refine w1b ?_ | refine w1p ?_ | ((first | refine w1r ?_ | refine w1k ?_ | refine w1e ?_ | refine CallC.now (fn28 f) ?_); (refine sy1 ?_; try exact True.intro)) | refine an2 ?_ | fail)
    refine ⟨rfl, ?_⟩
    exact W_ret ⟨[_, _], ⟨⟨⟨trivial, Nat.le_of_ble_eq_true rfl⟩, rfl⟩, rfl, rfl⟩, rfl⟩
theorem fn113 (m : Mp) (x : Int) : Sy.Fn Try.prog 113 [iv x, .fp (cM m) 0] (bv (!plB m.n x)) := by
  refine Fn_of_W mixed Xt113 rfl ?_
  have e : (decide (x < 0) || decide (m.n ≤ x)) = !plB m.n x := by
    unfold plB
    rw [Bool.eq_iff_iff]
    simp only [Bool.or_eq_true, Bool.not_eq_true', Bool.and_eq_false_iff, decide_eq_true_eq, decide_eq_false_iff_not]
    omega
  rw [← e]
  repeat' (first | refine w1g ?_ | refine w1l ?_ | refine w1q ?_ | refine w1b ?_ | refine w1p ?_ | ((first | refine w1r ?_ | refine w1k ?_ | refine w1e ?_); (refine sy1 ?_; try exact True.intro)) | refine an2 ?_ | fail)
  exact W_ret ⟨[_], ⟨rfl, rfl⟩, rfl⟩
def plsB (m : Mp) (l : List Int) : Bool := !(l.any fun x => !plB m.n x)
theorem fn53 (m : Mp) (l : List Int) (hl : l.length ≤ 1000000) : Sy.Fn Try.prog 53 [aM m, aI l] (iv (if plsB m l = true then 0 else 3)) := by
  refine Fn_of_W mixed Xt53 rfl ?_
  have c70 := fn70 l hl 113 [] [.fp (cM m) 0] (fun x => !plB m.n x) (fun x _ => fn113 m x)
  unfold plsB
  repeat' (first | refine w1g ?_ | refine w1l ?_ | refine w1q ?_ | refine w1b ?_ | refine w1p ?_ | ((first | refine w1r ?_ | refine w1k ?_ | refine w1e ?_ | refine CallC.now (c70) ?_); (refine sy1 ?_; try exact True.intro)) | refine an2 ?_ | fail)
  cases l.any fun x => !plB m.n x
  · refine W_cond (by rfl) (fun h => by cases h) (fun _ => ?_)
    repeat' (first | refine w1g ?_ | refine w1l ?_ | refine w1q ?_ | refine w1b ?_ | refine w1p ?_ | ((first | refine w1r ?_ | refine w1k ?_ | refine w1e ?_); (refine sy1 ?_; try exact True.intro)) | refine an2 ?_ | fail)
    exact W_ret ⟨[_], ⟨rfl, rfl⟩, rfl⟩
  · refine W_cond (by rfl) (fun _ => ?_) (fun h => by cases h)
    repeat' (first | refine w1g ?_ | refine w1l ?_ | refine w1q ?_ | refine w1b ?_ | refine w1p ?_ | ((first | refine w1r ?_ | refine w1k ?_ | refine w1e ?_); (refine sy1 ?_; try exact True.intro)) | refine an2 ?_ | fail)
    exact W_ret ⟨[_], ⟨rfl, rfl⟩, rfl⟩
theorem fn119 (m : Mp) (x : Int) : Sy.Fn Try.prog 119 [iv x, .fp (cM m) 0] (bv (!plB m.rs.length x)) := by
  refine Fn_of_W mixed Xt119 rfl ?_
  have e : (decide (x < 0) || decide ((m.rs.length : Int) ≤ x)) = !plB m.rs.length x := by
    unfold plB
    rw [Bool.eq_iff_iff]
    simp only [Bool.or_eq_true, Bool.not_eq_true', Bool.and_eq_false_iff, decide_eq_true_eq, decide_eq_false_iff_not]
    omega
  rw [← e]
  repeat' (first | refine w1g ?_ | refine w1l ?_ | refine w1q ?_ | refine w1b ?_ | refine w1p ?_ | ((first | refine w1r ?_ | refine w1k ?_ | refine w1e ?_); (refine sy1 ?_; try exact True.intro)) | refine an2 ?_ | fail)
  exact W_ret ⟨[_], ⟨rfl, rfl⟩, rfl⟩
def rdE (m : Mp) (l : List Int) : Int := if 256 < l.length then 6 else if (l.any fun x => !plB m.rs.length x) = true then 3 else 0
theorem fn68 (m : Mp) (l : List Int) (hl : l.length ≤ 1000000) : Sy.Fn Try.prog 68 [aM m, aI l] (iv (rdE m l)) := by
  refine Fn_of_W mixed Xt68 rfl ?_
  have c70 := fn70 l hl 119 [] [.fp (cM m) 0] (fun x => !plB m.rs.length x) (fun x _ => fn119 m x)
  unfold rdE
  repeat' (first | refine w1g ?_ | refine w1l ?_ | refine w1q ?_ | refine w1b ?_ | refine w1p ?_ | ((first | refine w1r ?_ | refine w1k ?_ | refine w1e ?_); (refine sy1 ?_; try exact True.intro)) | refine an2 ?_ | fail)
  refine W_condD (by rfl) (fun h => ?_) (fun h => ?_)
  · rw [if_pos (by omega)]
    repeat' (first | refine w1g ?_ | refine w1l ?_ | refine w1q ?_ | refine w1b ?_ | refine w1p ?_ | ((first | refine w1r ?_ | refine w1k ?_ | refine w1e ?_); (refine sy1 ?_; try exact True.intro)) | refine an2 ?_ | fail)
    exact W_ret ⟨[_], ⟨rfl, rfl⟩, rfl⟩
  rw [if_neg (by omega)]
  repeat' (first | refine w1g ?_ | refine w1l ?_ | refine w1q ?_ | refine w1b ?_ | refine w1p ?_ | ((first | refine w1r ?_ | refine w1k ?_ | refine w1e ?_ | refine CallC.now (c70) ?_); (refine sy1 ?_; try exact True.intro)) | refine an2 ?_ | fail)
  cases l.any fun x => !plB m.rs.length x
  · refine W_cond (by rfl) (fun h => by cases h) (fun _ => ?_)
    repeat' (first | refine w1g ?_ | refine w1l ?_ | refine w1q ?_ | refine w1b ?_ | refine w1p ?_ | ((first | refine w1r ?_ | refine w1k ?_ | refine w1e ?_); (refine sy1 ?_; try exact True.intro)) | refine an2 ?_ | fail)
    exact W_ret ⟨[_], ⟨rfl, rfl⟩, rfl⟩
  · refine W_cond (by rfl) (fun _ => ?_) (fun h => by cases h)
    repeat' (first | refine w1g ?_ | refine w1l ?_ | refine w1q ?_ | refine w1b ?_ | refine w1p ?_ | ((first | refine w1r ?_ | refine w1k ?_ | refine w1e ?_); (refine sy1 ?_; try exact True.intro)) | refine an2 ?_ | fail)
    exact W_ret ⟨[_], ⟨rfl, rfl⟩, rfl⟩
theorem fn90 (m : Mp) (x : Int) : Sy.Fn Try.prog 90 [aM m, iv x] (bv (plB m.n x)) := by
  refine Fn_of_W mixed Xt90 rfl ?_
  repeat' (first | refine w1g ?_ | refine w1l ?_ | refine w1q ?_ | refine w1b ?_ | refine w1p ?_ | ((first | refine w1r ?_ | refine w1k ?_ | refine w1e ?_); (refine sy1 ?_; try exact True.intro)) | refine an2 ?_ | fail)
  exact W_ret ⟨[_], ⟨rfl, rfl⟩, rfl⟩
theorem fn78 (m : Mp) (f : Nat → Int) (h : Gm m) : Sy.Fn Try.prog 78 [aM m, .agg (c6 f)] (iv (opE m f)) := by
  refine Fn_of_W mixed Xt78 rfl ?_
  unfold opE
  repeat' (first | refine w1g ?_ | refine w1l ?_ | refine w1q ?_ | refine w1b ?_ | refine w1p ?_ | ((first | refine w1r ?_ | refine w1k ?_ | refine w1e ?_ | refine CallC.now (fn16 m h) ?_); (refine sy1 ?_; try exact True.intro)) | refine an2 ?_ | fail)
  refine W_cond (by rfl) (fun hb => ?_) (fun hb => ?_)
  · rw [bne_iff_ne] at hb
    rw [if_neg hb]
    repeat' (first | refine w1g ?_ | refine w1l ?_ | refine w1q ?_ | refine w1b ?_ | refine w1p ?_ | ((first | refine w1r ?_ | refine w1k ?_ | refine w1e ?_); (refine sy1 ?_; try exact True.intro)) | refine an2 ?_ | fail)
    exact W_ret ⟨[_], ⟨rfl, rfl⟩, rfl⟩
  · rw [bne_eq_false_iff_eq] at hb
    rw [if_pos hb]
    repeat' (first | refine w1g ?_ | refine w1l ?_ | refine w1q ?_ | refine w1b ?_ | refine w1p ?_ | ((first | refine w1r ?_ | refine w1k ?_ | refine w1e ?_ | refine CallC.now (fn29 f) ?_); (refine sy1 ?_; try exact True.intro)) | refine an2 ?_ | fail)
    exact W_ret ⟨[_], ⟨rfl, rfl⟩, rfl⟩
def greatB (m : Mp) : Bool := decide (300 < m.rs.length) || decide (20 < m.ws.length) || (m.ws.any fun w => decide (40 < w.rs.length)) || (chkM m == 0 && (decide (12 < m.n) || decide (30 < m.rs.length) || decide (5 < m.ws.length)))
theorem great_no {m : Mp} (h : greatB m = false) : Gm m ∧ (chkM m = 0 → m.n ≤ 12 ∧ m.rs.length ≤ 30 ∧ m.ws.length ≤ 5) := by
  unfold greatB at h
  simp only [Bool.or_eq_false_iff, Bool.and_eq_false_iff, decide_eq_false_iff_not, beq_eq_false_iff_ne] at h
  obtain ⟨⟨⟨h1, h2⟩, h3⟩, h4⟩ := h
  refine ⟨⟨by omega, by omega, fun w hw => ?_⟩, fun q => ?_⟩
  · have := List.any_eq_false.1 h3 w hw
    simp only [decide_eq_true_eq] at this
    omega
  · rcases h4 with h4 | h4
    · exact absurd q h4
    · omega
theorem fn25 (m : Mp) (hr : m.rs.length ≤ 140737488355328) (hw : m.ws.length ≤ 140737488355328) (hs : ∀ w ∈ m.ws, w.rs.length ≤ 140737488355328) : Sy.Fn Try.prog 25 [aM m] (bv (greatB m)) := by
  refine Fn_of_W mixed Xt25 rfl ?_
  repeat' (first | refine w1g ?_ | refine w1l ?_ | refine w1q ?_ | refine w1b ?_ | refine w1p ?_ | ((first | refine w1r ?_ | refine w1k ?_ | refine w1e ?_); (refine sy1 ?_; try exact True.intro)) | refine an2 ?_ | fail)
  refine W_cond (by rfl) (fun hb => ?_) (fun hb => ?_)
  · have e : greatB m = true := by
      unfold greatB
      simp only [Bool.or_eq_true, decide_eq_true_eq] at hb ⊢
      omega
    rw [e]
    repeat' (first | refine w1g ?_ | refine w1l ?_ | refine w1q ?_ | refine w1b ?_ | refine w1p ?_ | ((first | refine w1r ?_ | refine w1k ?_ | refine w1e ?_); (refine sy1 ?_; try exact True.intro)) | refine an2 ?_ | fail)
    exact W_ret ⟨[_], ⟨rfl, rfl⟩, rfl⟩
  simp only [Bool.or_eq_false_iff, decide_eq_false_iff_not] at hb
  repeat' (first | refine w1g ?_ | refine w1l ?_ | refine w1q ?_ | refine w1b ?_ | refine w1p ?_ | ((first | refine w1r ?_ | refine w1k ?_ | refine w1e ?_); (refine sy1 ?_; try exact True.intro)) | refine an2 ?_ | fail)
  refine W_loopU (fun i : Nat => [(3, iv i)]) (fun i => []) (fun i => i ≤ m.ws.length ∧ ∀ j, j < i → decide (40 < (gw m j).rs.length) = false) (fun i => m.ws.length - i) 0 ⟨by omega, fun j hj => by omega⟩ (by rfl) (by rfl) (fun i hi => ?_)
  obtain ⟨hi, hp⟩ := hi
  (refine sy1 ?_; try exact True.intro)
  repeat' (first | refine w1g ?_ | refine w1l ?_ | refine w1q ?_ | refine w1b ?_ | refine w1p ?_ | ((first | refine w1r ?_ | refine w1k ?_ | refine w1e ?_); (refine sy1 ?_; try exact True.intro)) | refine an2 ?_ | fail)
  refine W_condD (by rfl) (fun h5 => ?_) (fun h5 => ?_)
  · have hlt : i < m.ws.length := by omega
    have hgw : m.ws.getD i dW = gw m i := rfl
    have hgl : (gw m i).rs.length = (m.ws.getD i dW).rs.length := rfl
    repeat' (first | refine w1g ?_ | refine w1l ?_ | refine w1q ?_ | refine w1b ?_ | refine w1p ?_ | ((first | refine w1r ?_ | refine w1k ?_ | refine w1e ?_); simp (maxSteps := 400000) (disch := omega) only [push_cast, ↓reduceIte, reduceCtorEq, Nat.reduceAdd, Nat.reduceSub, Nat.reduceEqDiff, Nat.reduceLeDiff, Nat.reduceLT, Nat.reduceBEq, Nat.reduceDiv, Nat.reduceMod, Nat.reducePow, Nat.reduceMul, Int.reduceToNat, Int.reduceLT, Int.reduceLE, hgw]) | refine an2 ?_ | fail)
    refine W_condD (by rfl) (fun h6 => ?_) (fun h6 => ?_)
    · have e : greatB m = true := by
        unfold greatB
        rw [any_yes dW hlt (decide_eq_true (by omega))]
        simp
      rw [e]
      repeat' (first | refine w1g ?_ | refine w1l ?_ | refine w1q ?_ | refine w1b ?_ | refine w1p ?_ | ((first | refine w1r ?_ | refine w1k ?_ | refine w1e ?_); (refine sy1 ?_; try exact True.intro)) | refine an2 ?_ | fail)
      exact W_ret ⟨[_], ⟨rfl, rfl⟩, rfl⟩
    · repeat' (first | refine w1g ?_ | refine w1l ?_ | refine w1q ?_ | refine w1b ?_ | refine w1p ?_ | ((first | refine w1r ?_ | refine w1k ?_ | refine w1e ?_); (refine sy1 ?_; try exact True.intro)) | refine an2 ?_ | fail)
      refine ⟨i + 1, ⟨by omega, up_all hp (decide_eq_false (by omega))⟩, by omega, by rfl, ?_⟩
      (refine syE ?_; try exact True.intro)
  have ha : (m.ws.any fun w => decide (40 < w.rs.length)) = false := any_no dW (fun j hj => hp j (by omega))
  have hg : Gm m := ⟨by omega, by omega, fun w hw => by
    have := List.any_eq_false.1 ha w hw
    simp only [decide_eq_true_eq] at this
    omega⟩
  have e : greatB m = (chkM m == 0 && (decide (12 < m.n) || decide ((30 : Int) < (m.rs.length : Int)) || decide ((5 : Int) < (m.ws.length : Int)))) := by
    unfold greatB
    rw [ha, decide_eq_false (show ¬ 300 < m.rs.length by omega), decide_eq_false (show ¬ 20 < m.ws.length by omega)]
    have e1 : decide ((30 : Int) < (m.rs.length : Int)) = decide (30 < m.rs.length) := by rw [Bool.eq_iff_iff, decide_eq_true_eq, decide_eq_true_eq]; omega
    have e2 : decide ((5 : Int) < (m.ws.length : Int)) = decide (5 < m.ws.length) := by rw [Bool.eq_iff_iff, decide_eq_true_eq, decide_eq_true_eq]; omega
    rw [e1, e2]
    simp
  rw [e]
  repeat' (first | refine w1g ?_ | refine w1l ?_ | refine w1q ?_ | refine w1b ?_ | refine w1p ?_ | ((first | refine w1r ?_ | refine w1k ?_ | refine w1e ?_ | refine CallC.now (fn16 m hg) ?_); (refine sy1 ?_; try exact True.intro)) | refine an2 ?_ | fail)
  exact W_ret ⟨[_], ⟨rfl, rfl⟩, rfl⟩
end Go.Proofs.Ytfbdlmenhoagmaa

namespace Go.Proofs.Ytfbdlmenhoagmaa
open Go Sy
set_option maxRecDepth 100000
set_option maxHeartbeats 4000000
set_option linter.unusedVariables false
set_option linter.unusedSimpArgs false
theorem fn61 (s : Nat) : Sy.Fn Try.prog 61 [uv s] (.clo 118 [] [.fp [uv s] 0]) := by
  refine Fn_of_W mixed Xt61 rfl ?_
  repeat' (first | refine w1g ?_ | refine w1l ?_ | refine w1q ?_ | refine w1b ?_ | refine w1p ?_ | ((first | refine w1r ?_ | refine w1k ?_ | refine w1e ?_); (refine sy1 ?_; try exact True.intro)) | refine an2 ?_ | fail)
  exact W_ret ⟨[_], ⟨rfl, rfl⟩, rfl⟩
theorem shrS (s : Nat) {i : Nat} (hi : i ≤ 64) : (s : Int).fdiv (2 ^ min i IntKind.u64.bits) = ((s / 2 ^ i : Nat) : Int) := by
  have e : min i IntKind.u64.bits = i := Nat.min_eq_left hi
  rw [e, Int.fdiv_eq_ediv_of_nonneg _ (Int.pow_nonneg (by omega))]
  rw [Int.natCast_ediv, Int.natCast_pow]
  rfl
theorem andS (x : Nat) (hx : x < 18446744073709551616) : bits .and .u64 (x : Int) 1 = ((x % 2 : Nat) : Int) := by
  have h := bits_and_u64_nat x 1 hx (by omega)
  rw [Nat.and_one_is_mod] at h
  exact h
theorem div_lt64 {s : Nat} (h : s < 1024) (i : Nat) : s / 2 ^ i < 18446744073709551616 := by
  have := Nat.div_le_self s (2 ^ i)
  omega
theorem pre_mem {l : List Int} {i : Nat} {x : Int} (h : x ∈ pre l i) : x ∈ l := by
  unfold pre at h
  exact (List.mem_filter.1 h).1
structure SetW (m : Mp) (l : List Int) (s : Nat) : Prop where
  b : BitsOf s l
  s : Srt m.ws.length 0 l
theorem fn59 (m : Mp) (f : Nat → Int) (l : List Int) (s : Nat) (h : OkM m) (hs : SetW m l s) : Sy.Fn Try.prog 59 [aAt m f, uv s] (iv (costL m l)) := by
  refine Fn_of_W mixed Xt59 rfl ?_
  have hw := h.nw
  have hlt := bits_lt hs.b (fun x hx => (hs.s.mem x hx).2)
  repeat' (first | refine w1g ?_ | refine w1l ?_ | refine w1q ?_ | refine w1b ?_ | refine w1p ?_ | ((first | refine w1r ?_ | refine w1k ?_ | refine w1e ?_ | refine CallC.now (fn61 s) ?_); (refine sy1 ?_; try exact True.intro)) | refine an2 ?_ | fail)
  refine W_rfn (.inl rfl) (fun lp R hR => Inl_of_W mixed Xt118 rfl (fun vs => ?_))
  (refine sy1 ?_; try exact True.intro)
  repeat' (first | refine w1g ?_ | refine w1l ?_ | refine w1q ?_ | refine w1b ?_ | refine w1p ?_ | ((first | refine w1r ?_ | refine w1k ?_ | refine w1e ?_); (refine sy1 ?_; try exact True.intro)) | refine an2 ?_ | fail)
  refine W_loopU (fun i : Nat => [(3, iv i)]) (fun i => [(2, .cells [iv (costL m (pre l i))])]) (fun i => i ≤ 10) (fun i => 11 - i) 0 (by omega) (by rfl) (by rw [pre_zero hs.s]; rfl) (fun i hi => ?_)
  have hs1 : s < 1024 := by
    have := bits_lt (n := 10) hs.b (fun x hx => by have := (hs.s.mem x hx).2; omega)
    simpa using this
  obtain ⟨q, hq⟩ : ∃ q, q = s / 2 ^ i := ⟨_, rfl⟩
  have e1 := shrS s (i := i) (by omega)
  have e2 := andS (s / 2 ^ i) (div_lt64 hs1 i)
  rw [bits_shr hs.b i] at e2
  rw [← hq] at e1 e2
  have e4 := pre_succ (i := i) hs.s
  (refine sy1 ?_; try exact True.intro)
  repeat' (first | refine w1g ?_ | refine w1l ?_ | refine w1q ?_ | refine w1b ?_ | refine w1p ?_ | ((first | refine w1r ?_ | refine w1k ?_ | refine w1e ?_); simp (maxSteps := 400000) (disch := omega) only [push_cast, ↓reduceIte, reduceCtorEq, Nat.reduceAdd, Nat.reduceSub, Nat.reduceEqDiff, Nat.reduceLeDiff, Nat.reduceLT, Nat.reduceBEq, Nat.reduceDiv, Nat.reduceMod, Nat.reducePow, Nat.reduceMul, Int.reduceToNat, Int.reduceLT, Int.reduceLE, e1]) | refine an2 ?_ | fail)
  refine W_cond (by rfl) (fun hb => ?_) (fun hb => ?_)
  · have hi10 : i < 10 := bits_more hs.b (by rw [← hq]; intro z; rw [z] at hb; simp at hb) (fun x hx => by have := (hs.s.mem x hx).2; omega)
    by_cases hm : (i : Int) ∈ l
    · rw [if_pos hm] at e2 e4
      have e2 : bits .and .u64 (q : Int) 1 = 1 := e2
      have hir := hs.s.mem _ hm
      have ec : costL m (pre l (i + 1)) = costL m (pre l i) + (gw m i).c := by rw [e4, costL_snoc]; rfl
      have hcr := costL_rng h (l := pre l i) (fun x hx => hs.s.mem x (pre_mem hx))
      have hlen : (pre l i).length ≤ 10 := by
        have h1 := hs.s.len (by omega)
        have h2 := List.length_filter_le (fun x => decide (x < (i : Int))) l
        unfold pre
        omega
      have hwc := (workB_ok (h.w i (by omega))).c
      have hgw : m.ws.getD i dW = gw m i := rfl
      generalize costL m (pre l i) = C at *
      repeat' (first | refine w1g ?_ | refine w1l ?_ | refine w1q ?_ | refine w1b ?_ | refine w1p ?_ | ((first | refine w1r ?_ | refine w1k ?_ | refine w1e ?_); simp (maxSteps := 400000) (disch := omega) only [push_cast, ↓reduceIte, reduceCtorEq, Nat.reduceAdd, Nat.reduceSub, Nat.reduceEqDiff, Nat.reduceLeDiff, Nat.reduceLT, Nat.reduceBEq, Nat.reduceDiv, Nat.reduceMod, Nat.reducePow, Nat.reduceMul, Int.reduceToNat, Int.reduceLT, Int.reduceLE, e1, e2]) | refine an2 ?_ | fail)
      refine StopC.yld (fun hpc => ⟨trivial, Yl_of_W (k := 6) mixed hR rfl rfl rfl (fun vs2 => ?_)⟩) (fun hpc => absurd (by simp [pc]) hpc)
      (refine sy1 ?_; try exact True.intro)
      repeat' (first | refine w1g ?_ | refine w1l ?_ | refine w1q ?_ | refine w1b ?_ | refine w1p ?_ | ((first | refine w1r ?_ | refine w1k ?_ | refine w1e ?_); (refine sy1 ?_; try exact True.intro)) | refine an2 ?_ | fail)
      refine ⟨_, rfl, ?_⟩
      (refine sy1 ?_; try exact True.intro)
      repeat' (first | refine w1g ?_ | refine w1l ?_ | refine w1q ?_ | refine w1b ?_ | refine w1p ?_ | ((first | refine w1r ?_ | refine w1k ?_ | refine w1e ?_); simp (maxSteps := 400000) (disch := omega) only [push_cast, ↓reduceIte, reduceCtorEq, Nat.reduceAdd, Nat.reduceSub, Nat.reduceEqDiff, Nat.reduceLeDiff, Nat.reduceLT, Nat.reduceBEq, Nat.reduceDiv, Nat.reduceMod, Nat.reducePow, Nat.reduceMul, Int.reduceToNat, Int.reduceLT, Int.reduceLE, hgw]) | refine an2 ?_ | fail)
      refine ⟨_, _, rfl, rfl, ?_⟩
      (refine sy1 ?_; try exact True.intro)
      repeat' (first | refine w1g ?_ | refine w1l ?_ | refine w1q ?_ | refine w1b ?_ | refine w1p ?_ | ((first | refine w1r ?_ | refine w1k ?_ | refine w1e ?_); (refine sy1 ?_; try exact True.intro)) | refine an2 ?_ | fail)
      refine W_cond (by rfl) (fun h => by cases h) (fun _ => ?_)
      repeat' (first | refine w1g ?_ | refine w1l ?_ | refine w1q ?_ | refine w1b ?_ | refine w1p ?_ | ((first | refine w1r ?_ | refine w1k ?_ | refine w1e ?_); (refine sy1 ?_; try exact True.intro)) | refine an2 ?_ | fail)
      refine ⟨i + 1, by omega, by omega, by rfl, ?_⟩
      rw [ec]
      (refine syE ?_; try exact True.intro)
    · rw [if_neg hm] at e2 e4
      have e2 : bits .and .u64 (q : Int) 1 = 0 := e2
      have z01 : ((0 : Int) == 1) = false := rfl
      repeat' (first | refine w1g ?_ | refine w1l ?_ | refine w1q ?_ | refine w1b ?_ | refine w1p ?_ | ((first | refine w1r ?_ | refine w1k ?_ | refine w1e ?_); simp (maxSteps := 400000) (disch := omega) only [push_cast, ↓reduceIte, reduceCtorEq, Nat.reduceAdd, Nat.reduceSub, Nat.reduceEqDiff, Nat.reduceLeDiff, Nat.reduceLT, Nat.reduceBEq, Nat.reduceDiv, Nat.reduceMod, Nat.reducePow, Nat.reduceMul, Int.reduceToNat, Int.reduceLT, Int.reduceLE, e1, e2, z01]) | refine an2 ?_ | fail)
      refine StopC.yld (fun hpc => absurd hpc (by simp [pc])) (fun hpc => ?_)
      (refine sy1 ?_; try exact True.intro)
      repeat' (first | refine w1g ?_ | refine w1l ?_ | refine w1q ?_ | refine w1b ?_ | refine w1p ?_ | ((first | refine w1r ?_ | refine w1k ?_ | refine w1e ?_); (refine sy1 ?_; try exact True.intro)) | refine an2 ?_ | fail)
      refine W_cond (by rfl) (fun h => by cases h) (fun _ => ?_)
      repeat' (first | refine w1g ?_ | refine w1l ?_ | refine w1q ?_ | refine w1b ?_ | refine w1p ?_ | ((first | refine w1r ?_ | refine w1k ?_ | refine w1e ?_); (refine sy1 ?_; try exact True.intro)) | refine an2 ?_ | fail)
      refine ⟨i + 1, by omega, by omega, by rfl, ?_⟩
      rw [e4, List.append_nil]
      (refine syE ?_; try exact True.intro)
  · have hq0 : s / 2 ^ i = 0 := by
      rw [← hq]
      have := bne_eq_false_iff_eq.1 hb
      omega
    have hall := pre_all (bits_end hs.b (fun x hx => (hs.s.mem x hx).1) hq0)
    rw [hall]
    repeat' (first | refine w1g ?_ | refine w1l ?_ | refine w1q ?_ | refine w1b ?_ | refine w1p ?_ | ((first | refine w1r ?_ | refine w1k ?_ | refine w1e ?_); (refine sy1 ?_; try exact True.intro)) | refine an2 ?_ | fail)
    refine ⟨_, _, rfl, rfl, ⟨_, _, rfl, by rw [hR.st]; simp, ?_⟩⟩
    rw [hR.pe]
    simp (maxSteps := 400000) (disch := omega) only [push_cast, ↓reduceIte, reduceCtorEq, Nat.reduceAdd, Nat.reduceSub, Nat.reduceEqDiff, Nat.reduceLeDiff, Nat.reduceLT, Nat.reduceBEq, Nat.reduceDiv, Nat.reduceMod, Nat.reducePow, Nat.reduceMul, Int.reduceToNat, Int.reduceLT, Int.reduceLE, EndP]
    repeat' (first | refine w1g ?_ | refine w1l ?_ | refine w1q ?_ | refine w1b ?_ | refine w1p ?_ | ((first | refine w1r ?_ | refine w1k ?_ | refine w1e ?_); (refine sy1 ?_; try exact True.intro)) | refine an2 ?_ | fail)
    exact W_ret ⟨[_], ⟨rfl, rfl⟩, rfl⟩
theorem fn122 (m : Mp) (f : Nat → Int) (l : List Int) (s : Nat) (road k : Nat) (h : OkM m) (hs : SetW m l s) (hr : road < m.rs.length) (hk : k < 6) : Sy.Fn Try.prog 122 [aAt m f, uv s, iv road, iv k] (iv (limL m l road k)) := by
  refine Fn_of_W mixed Xt122 rfl ?_
  have hw := h.nw
  have hs1 : s < 1024 := by
    have := bits_lt (n := 10) hs.b (fun x hx => by have := (hs.s.mem x hx).2; omega)
    simpa using this
  have hlim : nth (cR (gr m road)) (6 + k) = iv ((gr m road).lim k) := by
    rcases k with _ | _ | _ | _ | _ | _ | k <;> first | rfl | omega
  have hgr : m.rs.getD road dR = gr m road := rfl
  repeat' (first | refine w1g ?_ | refine w1l ?_ | refine w1q ?_ | refine w1b ?_ | refine w1p ?_ | ((first | refine w1r ?_ | refine w1k ?_ | refine w1e ?_ | refine CallC.now (fn61 s) ?_); simp (maxSteps := 400000) (disch := omega) only [push_cast, ↓reduceIte, reduceCtorEq, Nat.reduceAdd, Nat.reduceSub, Nat.reduceEqDiff, Nat.reduceLeDiff, Nat.reduceLT, Nat.reduceBEq, Nat.reduceDiv, Nat.reduceMod, Nat.reducePow, Nat.reduceMul, Int.reduceToNat, Int.reduceLT, Int.reduceLE, hgr, hlim, Nat.mul_one, Nat.add_assoc]) | refine an2 ?_ | fail)
  refine W_rfn (.inl rfl) (fun lp R hR => Inl_of_W mixed Xt118 rfl (fun vs => ?_))
  (refine sy1 ?_; try exact True.intro)
  repeat' (first | refine w1g ?_ | refine w1l ?_ | refine w1q ?_ | refine w1b ?_ | refine w1p ?_ | ((first | refine w1r ?_ | refine w1k ?_ | refine w1e ?_); (refine sy1 ?_; try exact True.intro)) | refine an2 ?_ | fail)
  refine W_loopU (fun i : Nat => [(3, iv i)]) (fun i => [(13, .cells [iv (limL m (pre l i) road k)])]) (fun i => i ≤ 10) (fun i => 11 - i) 0 (by omega) (by rfl) (by rw [pre_zero hs.s]; rfl) (fun i hi => ?_)
  obtain ⟨q, hq⟩ : ∃ q, q = s / 2 ^ i := ⟨_, rfl⟩
  have e1 := shrS s (i := i) (by omega)
  have e2 := andS (s / 2 ^ i) (div_lt64 hs1 i)
  rw [bits_shr hs.b i] at e2
  rw [← hq] at e1 e2
  have e4 := pre_succ (i := i) hs.s
  (refine sy1 ?_; try exact True.intro)
  repeat' (first | refine w1g ?_ | refine w1l ?_ | refine w1q ?_ | refine w1b ?_ | refine w1p ?_ | ((first | refine w1r ?_ | refine w1k ?_ | refine w1e ?_); simp (maxSteps := 400000) (disch := omega) only [push_cast, ↓reduceIte, reduceCtorEq, Nat.reduceAdd, Nat.reduceSub, Nat.reduceEqDiff, Nat.reduceLeDiff, Nat.reduceLT, Nat.reduceBEq, Nat.reduceDiv, Nat.reduceMod, Nat.reducePow, Nat.reduceMul, Int.reduceToNat, Int.reduceLT, Int.reduceLE, e1]) | refine an2 ?_ | fail)
  refine W_cond (by rfl) (fun hb => ?_) (fun hb => ?_)
  · have hi10 : i < 10 := bits_more hs.b (by rw [← hq]; intro z; rw [z] at hb; simp at hb) (fun x hx => by have := (hs.s.mem x hx).2; omega)
    by_cases hm : (i : Int) ∈ l
    · rw [if_pos hm] at e2 e4
      have e2 : bits .and .u64 (q : Int) 1 = 1 := e2
      have hir := hs.s.mem _ hm
      have ec : limL m (pre l (i + 1)) road k = limS m road k (limL m (pre l i) road k) i := by rw [e4, limL_snoc]
      have es : ∀ n : Int, limS m road k n i = if (gw m i).k = k ∧ (road : Int) ∈ (gw m i).rs then max n (gw m i).l else n := fun _ => rfl
      have hgw : m.ws.getD i dW = gw m i := rfl
      have hwl := h.s i (by omega)
      have c129 := fn129 (gw m i).rs (road : Int) (by omega)
      rw [es] at ec
      generalize limL m (pre l i) road k = C at *
      generalize gw m i = w at *
      repeat' (first | refine w1g ?_ | refine w1l ?_ | refine w1q ?_ | refine w1b ?_ | refine w1p ?_ | ((first | refine w1r ?_ | refine w1k ?_ | refine w1e ?_); simp (maxSteps := 400000) (disch := omega) only [push_cast, ↓reduceIte, reduceCtorEq, Nat.reduceAdd, Nat.reduceSub, Nat.reduceEqDiff, Nat.reduceLeDiff, Nat.reduceLT, Nat.reduceBEq, Nat.reduceDiv, Nat.reduceMod, Nat.reducePow, Nat.reduceMul, Int.reduceToNat, Int.reduceLT, Int.reduceLE, e1, e2]) | refine an2 ?_ | fail)
      refine StopC.yld (fun hpc => ⟨trivial, Yl_of_W (k := 17) mixed hR rfl rfl rfl (fun vs2 => ?_)⟩) (fun hpc => absurd (by simp [pc]) hpc)
      (refine sy1 ?_; try exact True.intro)
      repeat' (first | refine w1g ?_ | refine w1l ?_ | refine w1q ?_ | refine w1b ?_ | refine w1p ?_ | ((first | refine w1r ?_ | refine w1k ?_ | refine w1e ?_); (refine sy1 ?_; try exact True.intro)) | refine an2 ?_ | fail)
      refine ⟨_, rfl, ?_⟩
      (refine sy1 ?_; try exact True.intro)
      repeat' (first | refine w1g ?_ | refine w1l ?_ | refine w1q ?_ | refine w1b ?_ | refine w1p ?_ | ((first | refine w1r ?_ | refine w1k ?_ | refine w1e ?_ | refine CallC.go _ (fun _ => ⟨trivial, c129⟩) rfl ?_); simp (maxSteps := 400000) (disch := omega) only [push_cast, ↓reduceIte, reduceCtorEq, Nat.reduceAdd, Nat.reduceSub, Nat.reduceEqDiff, Nat.reduceLeDiff, Nat.reduceLT, Nat.reduceBEq, Nat.reduceDiv, Nat.reduceMod, Nat.reducePow, Nat.reduceMul, Int.reduceToNat, Int.reduceLT, Int.reduceLE, hgw]) | refine an2 ?_ | fail)
      refine W_cond (by rfl) (fun hz => ?_) (fun hz => ?_)
      · rw [Bool.and_eq_true, beq_iff_eq, decide_eq_true_eq] at hz
        rw [if_pos hz] at ec
        repeat' (first | refine w1g ?_ | refine w1l ?_ | refine w1q ?_ | refine w1b ?_ | refine w1p ?_ | ((first | refine w1r ?_ | refine w1k ?_ | refine w1e ?_); (refine sy1 ?_; try exact True.intro)) | refine an2 ?_ | fail)
        refine ⟨_, _, rfl, rfl, ?_⟩
        (refine sy1 ?_; try exact True.intro)
        repeat' (first | refine w1g ?_ | refine w1l ?_ | refine w1q ?_ | refine w1b ?_ | refine w1p ?_ | ((first | refine w1r ?_ | refine w1k ?_ | refine w1e ?_); (refine sy1 ?_; try exact True.intro)) | refine an2 ?_ | fail)
        refine W_cond (by rfl) (fun h => by cases h) (fun _ => ?_)
        repeat' (first | refine w1g ?_ | refine w1l ?_ | refine w1q ?_ | refine w1b ?_ | refine w1p ?_ | ((first | refine w1r ?_ | refine w1k ?_ | refine w1e ?_); (refine sy1 ?_; try exact True.intro)) | refine an2 ?_ | fail)
        refine ⟨i + 1, by omega, by omega, by rfl, ?_⟩
        rw [ec]
        (refine syE ?_; try exact True.intro)
      · have hz : ¬ (w.k = k ∧ (road : Int) ∈ w.rs) := by
          rintro ⟨z1, z2⟩
          rw [z1, decide_eq_true z2] at hz
          simp at hz
        rw [if_neg hz] at ec
        repeat' (first | refine w1g ?_ | refine w1l ?_ | refine w1q ?_ | refine w1b ?_ | refine w1p ?_ | ((first | refine w1r ?_ | refine w1k ?_ | refine w1e ?_); (refine sy1 ?_; try exact True.intro)) | refine an2 ?_ | fail)
        refine ⟨_, _, rfl, rfl, ?_⟩
        (refine sy1 ?_; try exact True.intro)
        repeat' (first | refine w1g ?_ | refine w1l ?_ | refine w1q ?_ | refine w1b ?_ | refine w1p ?_ | ((first | refine w1r ?_ | refine w1k ?_ | refine w1e ?_); (refine sy1 ?_; try exact True.intro)) | refine an2 ?_ | fail)
        refine W_cond (by rfl) (fun h => by cases h) (fun _ => ?_)
        repeat' (first | refine w1g ?_ | refine w1l ?_ | refine w1q ?_ | refine w1b ?_ | refine w1p ?_ | ((first | refine w1r ?_ | refine w1k ?_ | refine w1e ?_); (refine sy1 ?_; try exact True.intro)) | refine an2 ?_ | fail)
        refine ⟨i + 1, by omega, by omega, by rfl, ?_⟩
        rw [ec]
        (refine syE ?_; try exact True.intro)
    · rw [if_neg hm] at e2 e4
      have e2 : bits .and .u64 (q : Int) 1 = 0 := e2
      have z01 : ((0 : Int) == 1) = false := rfl
      repeat' (first | refine w1g ?_ | refine w1l ?_ | refine w1q ?_ | refine w1b ?_ | refine w1p ?_ | ((first | refine w1r ?_ | refine w1k ?_ | refine w1e ?_); simp (maxSteps := 400000) (disch := omega) only [push_cast, ↓reduceIte, reduceCtorEq, Nat.reduceAdd, Nat.reduceSub, Nat.reduceEqDiff, Nat.reduceLeDiff, Nat.reduceLT, Nat.reduceBEq, Nat.reduceDiv, Nat.reduceMod, Nat.reducePow, Nat.reduceMul, Int.reduceToNat, Int.reduceLT, Int.reduceLE, e1, e2, z01]) | refine an2 ?_ | fail)
      refine StopC.yld (fun hpc => absurd hpc (by simp [pc])) (fun hpc => ?_)
      (refine sy1 ?_; try exact True.intro)
      repeat' (first | refine w1g ?_ | refine w1l ?_ | refine w1q ?_ | refine w1b ?_ | refine w1p ?_ | ((first | refine w1r ?_ | refine w1k ?_ | refine w1e ?_); (refine sy1 ?_; try exact True.intro)) | refine an2 ?_ | fail)
      refine W_cond (by rfl) (fun h => by cases h) (fun _ => ?_)
      repeat' (first | refine w1g ?_ | refine w1l ?_ | refine w1q ?_ | refine w1b ?_ | refine w1p ?_ | ((first | refine w1r ?_ | refine w1k ?_ | refine w1e ?_); (refine sy1 ?_; try exact True.intro)) | refine an2 ?_ | fail)
      refine ⟨i + 1, by omega, by omega, by rfl, ?_⟩
      rw [e4, List.append_nil]
      (refine syE ?_; try exact True.intro)
  · have hq0 : s / 2 ^ i = 0 := by
      rw [← hq]
      have := bne_eq_false_iff_eq.1 hb
      omega
    have hall := pre_all (bits_end hs.b (fun x hx => (hs.s.mem x hx).1) hq0)
    rw [hall]
    repeat' (first | refine w1g ?_ | refine w1l ?_ | refine w1q ?_ | refine w1b ?_ | refine w1p ?_ | ((first | refine w1r ?_ | refine w1k ?_ | refine w1e ?_); (refine sy1 ?_; try exact True.intro)) | refine an2 ?_ | fail)
    refine ⟨_, _, rfl, rfl, ⟨_, _, rfl, by rw [hR.st]; simp, ?_⟩⟩
    rw [hR.pe]
    simp (maxSteps := 400000) (disch := omega) only [push_cast, ↓reduceIte, reduceCtorEq, Nat.reduceAdd, Nat.reduceSub, Nat.reduceEqDiff, Nat.reduceLeDiff, Nat.reduceLT, Nat.reduceBEq, Nat.reduceDiv, Nat.reduceMod, Nat.reducePow, Nat.reduceMul, Int.reduceToNat, Int.reduceLT, Int.reduceLE, EndP]
    repeat' (first | refine w1g ?_ | refine w1l ?_ | refine w1q ?_ | refine w1b ?_ | refine w1p ?_ | ((first | refine w1r ?_ | refine w1k ?_ | refine w1e ?_); (refine sy1 ?_; try exact True.intro)) | refine an2 ?_ | fail)
    exact W_ret ⟨[_], ⟨rfl, rfl⟩, rfl⟩
end Go.Proofs.Ytfbdlmenhoagmaa

namespace Go.Proofs.Ytfbdlmenhoagmaa
open Go Sy
set_option maxRecDepth 100000
set_option maxHeartbeats 4000000
set_option linter.unusedVariables false
set_option linter.unusedSimpArgs false
theorem fn75 (m : Mp) (f : Nat → Int) (s : Nat) (road : Int) : Sy.Fn Try.prog 75 [aAt m f, uv s, iv road] (.clo 121 [] [.fp (cAt m f) 0, .fp [uv s] 0, .fp [iv road] 0]) := by
  refine Fn_of_W mixed Xt75 rfl ?_
  repeat' (first | refine w1g ?_ | refine w1l ?_ | refine w1q ?_ | refine w1b ?_ | refine w1p ?_ | ((first | refine w1r ?_ | refine w1k ?_ | refine w1e ?_); (refine sy1 ?_; try exact True.intro)) | refine an2 ?_ | fail)
  exact W_ret ⟨[_], ⟨rfl, rfl⟩, rfl⟩
theorem fn64 (m : Mp) (f : Nat → Int) (l : List Int) (s : Nat) (road : Nat) (h : OkM m) (hs : SetW m l s) (hr : road < m.rs.length) : Sy.Fn Try.prog 64 [aAt m f, uv s, iv road] (bv (usB m f l road)) := by
  refine Fn_of_W mixed Xt64 rfl ?_
  repeat' (first | refine w1g ?_ | refine w1l ?_ | refine w1q ?_ | refine w1b ?_ | refine w1p ?_ | ((first | refine w1r ?_ | refine w1k ?_ | refine w1e ?_ | refine CallC.now (fn75 m f s road) ?_); (refine sy1 ?_; try exact True.intro)) | refine an2 ?_ | fail)
  refine W_rfn (.inl rfl) (fun lp R hR => Inl_of_W mixed Xt121 rfl (fun vs => ?_))
  (refine sy1 ?_; try exact True.intro)
  repeat' (first | refine w1g ?_ | refine w1l ?_ | refine w1q ?_ | refine w1b ?_ | refine w1p ?_ | ((first | refine w1r ?_ | refine w1k ?_ | refine w1e ?_); (refine sy1 ?_; try exact True.intro)) | refine an2 ?_ | fail)
  refine W_loopU (fun k : Nat => [(10, iv k)]) (fun k => []) (fun k => k ≤ 6 ∧ ∀ j, j < k → f j ≤ limL m l road j) (fun k => 6 - k) 0 ⟨by omega, fun j hj => by omega⟩ (by rfl) (by rfl) (fun k hk => ?_)
  obtain ⟨hk, hall⟩ := hk
  (refine sy1 ?_; try exact True.intro)
  repeat' (first | refine w1g ?_ | refine w1l ?_ | refine w1q ?_ | refine w1b ?_ | refine w1p ?_ | ((first | refine w1r ?_ | refine w1k ?_ | refine w1e ?_); (refine sy1 ?_; try exact True.intro)) | refine an2 ?_ | fail)
  refine W_condD (by rfl) (fun h5 => ?_) (fun h5 => ?_)
  · have hk6 : k < 6 := by omega
    have c122 := fn122 m f l s road k h hs hr hk6
    have us : limL m l road k < f k → usB m f l road = false := fun q => by
      rw [← Bool.not_eq_true]
      intro z
      have := usN_iff.1 z k hk6
      omega
    obtain ⟨n, hnl⟩ : ∃ n, n = limL m l road k := ⟨_, rfl⟩
    rw [← hnl] at c122 us
    by_cases q : n < f k
    · have qb : decide (n < f k) = true := decide_eq_true q
      repeat' (first | refine w1g ?_ | refine w1l ?_ | refine w1q ?_ | refine w1b ?_ | refine w1p ?_ | ((first | refine w1r ?_ | refine w1k ?_ | refine w1e ?_ | refine CallC.now (c122) ?_); simp (maxSteps := 400000) (disch := omega) only [push_cast, ↓reduceIte, reduceCtorEq, Nat.reduceAdd, Nat.reduceSub, Nat.reduceEqDiff, Nat.reduceLeDiff, Nat.reduceLT, Nat.reduceBEq, Nat.reduceDiv, Nat.reduceMod, Nat.reducePow, Nat.reduceMul, Int.reduceToNat, Int.reduceLT, Int.reduceLE, Nat.mul_one, Nat.zero_add, qb]) | refine an2 ?_ | fail)
      refine StopC.yld (fun hpc => ⟨trivial, Yl_of_W (k := 6) mixed hR rfl rfl rfl (fun vs2 => ?_)⟩) (fun hpc => absurd (by simp [pc]) hpc)
      refine W_skip ?_
      refine ⟨_, rfl, ?_⟩
      (refine sy1 ?_; try exact True.intro)
      repeat' (first | refine w1g ?_ | refine w1l ?_ | refine w1q ?_ | refine w1b ?_ | refine w1p ?_ | ((first | refine w1r ?_ | refine w1k ?_ | refine w1e ?_); (refine sy1 ?_; try exact True.intro)) | refine an2 ?_ | fail)
      refine W_ret ?_
      refine ⟨_, _, rfl, rfl, ?_⟩
      (refine sy1 ?_; try exact True.intro)
      repeat' (first | refine w1g ?_ | refine w1l ?_ | refine w1q ?_ | refine w1b ?_ | refine w1p ?_ | ((first | refine w1r ?_ | refine w1k ?_ | refine w1e ?_); (refine sy1 ?_; try exact True.intro)) | refine an2 ?_ | fail)
      refine W_cond (by rfl) (fun _ => ?_) (fun h => by cases h)
      repeat' (first | refine w1g ?_ | refine w1l ?_ | refine w1q ?_ | refine w1b ?_ | refine w1p ?_ | ((first | refine w1r ?_ | refine w1k ?_ | refine w1e ?_); (refine sy1 ?_; try exact True.intro)) | refine an2 ?_ | fail)
      refine W_ret ?_
      refine ⟨_, _, rfl, rfl, ⟨_, _, rfl, by simp [doneL], ?_⟩⟩
      rw [us q]
      simp (maxSteps := 400000) (disch := omega) only [push_cast, ↓reduceIte, reduceCtorEq, Nat.reduceAdd, Nat.reduceSub, Nat.reduceEqDiff, Nat.reduceLeDiff, Nat.reduceLT, Nat.reduceBEq, Nat.reduceDiv, Nat.reduceMod, Nat.reducePow, Nat.reduceMul, Int.reduceToNat, Int.reduceLT, Int.reduceLE, doneL, EndP]
      exact ⟨[_], ⟨⟨by simp, rfl⟩, rfl⟩, rfl⟩
    · have qb : decide (n < f k) = false := decide_eq_false q
      repeat' (first | refine w1g ?_ | refine w1l ?_ | refine w1q ?_ | refine w1b ?_ | refine w1p ?_ | ((first | refine w1r ?_ | refine w1k ?_ | refine w1e ?_ | refine CallC.now (c122) ?_); simp (maxSteps := 400000) (disch := omega) only [push_cast, ↓reduceIte, reduceCtorEq, Nat.reduceAdd, Nat.reduceSub, Nat.reduceEqDiff, Nat.reduceLeDiff, Nat.reduceLT, Nat.reduceBEq, Nat.reduceDiv, Nat.reduceMod, Nat.reducePow, Nat.reduceMul, Int.reduceToNat, Int.reduceLT, Int.reduceLE, Nat.mul_one, Nat.zero_add, qb]) | refine an2 ?_ | fail)
      refine StopC.yld (fun hpc => absurd hpc (by simp [pc])) (fun hpc => ?_)
      (refine sy1 ?_; try exact True.intro)
      repeat' (first | refine w1g ?_ | refine w1l ?_ | refine w1q ?_ | refine w1b ?_ | refine w1p ?_ | ((first | refine w1r ?_ | refine w1k ?_ | refine w1e ?_); (refine sy1 ?_; try exact True.intro)) | refine an2 ?_ | fail)
      refine W_cond (by rfl) (fun h => by cases h) (fun _ => ?_)
      repeat' (first | refine w1g ?_ | refine w1l ?_ | refine w1q ?_ | refine w1b ?_ | refine w1p ?_ | ((first | refine w1r ?_ | refine w1k ?_ | refine w1e ?_); (refine sy1 ?_; try exact True.intro)) | refine an2 ?_ | fail)
      refine ⟨k + 1, ⟨by omega, up_all hall (by rw [← hnl]; omega)⟩, by omega, by rfl, ?_⟩
      (refine syE ?_; try exact True.intro)
  · have e : usB m f l road = true := usN_iff.2 (fun j hj => hall j (by omega))
    rw [e]
    repeat' (first | refine w1g ?_ | refine w1l ?_ | refine w1q ?_ | refine w1b ?_ | refine w1p ?_ | ((first | refine w1r ?_ | refine w1k ?_ | refine w1e ?_); (refine sy1 ?_; try exact True.intro)) | refine an2 ?_ | fail)
    refine ⟨_, _, rfl, rfl, ⟨_, _, rfl, by rw [hR.st]; simp, ?_⟩⟩
    rw [hR.pe]
    simp (maxSteps := 400000) (disch := omega) only [push_cast, ↓reduceIte, reduceCtorEq, Nat.reduceAdd, Nat.reduceSub, Nat.reduceEqDiff, Nat.reduceLeDiff, Nat.reduceLT, Nat.reduceBEq, Nat.reduceDiv, Nat.reduceMod, Nat.reducePow, Nat.reduceMul, Int.reduceToNat, Int.reduceLT, Int.reduceLE, EndP]
    repeat' (first | refine w1g ?_ | refine w1l ?_ | refine w1q ?_ | refine w1b ?_ | refine w1p ?_ | ((first | refine w1r ?_ | refine w1k ?_ | refine w1e ?_); (refine sy1 ?_; try exact True.intro)) | refine an2 ?_ | fail)
    exact W_ret ⟨[_], ⟨⟨by simp, rfl⟩, rfl⟩, rfl⟩
theorem fn58 (m : Mp) (f : Nat → Int) (s : Nat) : Sy.Fn Try.prog 58 [aAt m f, uv s] (.clo 116 [] [.fp (cAt m f) 0, .fp [uv s] 0]) := by
  refine Fn_of_W mixed Xt58 rfl ?_
  repeat' (first | refine w1g ?_ | refine w1l ?_ | refine w1q ?_ | refine w1b ?_ | refine w1p ?_ | ((first | refine w1r ?_ | refine w1k ?_ | refine w1e ?_); (refine sy1 ?_; try exact True.intro)) | refine an2 ?_ | fail)
  exact W_ret ⟨[_], ⟨rfl, rfl⟩, rfl⟩
theorem fn116 (m : Mp) (f : Nat → Int) (l : List Int) (s : Nat) (road : Nat) (h : OkM m) (hs : SetW m l s) (hr : road < m.rs.length) : Sy.Fn Try.prog 116 [iv road, .fp (cAt m f) 0, .fp [uv s] 0] (iv (edB m (usB m f l) road).c) := by
  refine Fn_of_W mixed Xt116 rfl ?_
  have hgr : m.rs.getD road dR = gr m road := rfl
  have e : (edB m (usB m f l) road).c = if usB m f l road = true then (gr m road).c else -1 := rfl
  rw [e]
  repeat' (first | refine w1g ?_ | refine w1l ?_ | refine w1q ?_ | refine w1b ?_ | refine w1p ?_ | ((first | refine w1r ?_ | refine w1k ?_ | refine w1e ?_ | refine CallC.now (fn64 m f l s road h hs hr) ?_); (refine sy1 ?_; try exact True.intro)) | refine an2 ?_ | fail)
  cases usB m f l road
  · refine W_cond (by rfl) (fun _ => ?_) (fun h => by cases h)
    repeat' (first | refine w1g ?_ | refine w1l ?_ | refine w1q ?_ | refine w1b ?_ | refine w1p ?_ | ((first | refine w1r ?_ | refine w1k ?_ | refine w1e ?_); (refine sy1 ?_; try exact True.intro)) | refine an2 ?_ | fail)
    exact W_ret ⟨[_], ⟨rfl, rfl⟩, rfl⟩
  · refine W_cond (by rfl) (fun h => by cases h) (fun _ => ?_)
    repeat' (first | refine w1g ?_ | refine w1l ?_ | refine w1q ?_ | refine w1b ?_ | refine w1p ?_ | ((first | refine w1r ?_ | refine w1k ?_ | refine w1e ?_); simp (maxSteps := 400000) (disch := omega) only [push_cast, ↓reduceIte, reduceCtorEq, Nat.reduceAdd, Nat.reduceSub, Nat.reduceEqDiff, Nat.reduceLeDiff, Nat.reduceLT, Nat.reduceBEq, Nat.reduceDiv, Nat.reduceMod, Nat.reducePow, Nat.reduceMul, Int.reduceToNat, Int.reduceLT, Int.reduceLE, hgr]) | refine an2 ?_ | fail)
    exact W_ret ⟨[_], ⟨rfl, rfl⟩, rfl⟩
end Go.Proofs.Ytfbdlmenhoagmaa

namespace Go.Proofs.Ytfbdlmenhoagmaa
open Go Sy
set_option maxRecDepth 100000
set_option maxHeartbeats 4000000
set_option linter.unusedVariables false
set_option linter.unusedSimpArgs false
def tbl (n : Nat) (g : Nat → Int) : List Int := (List.range n).map g
theorem tbl_len (n : Nat) (g : Nat → Int) : (tbl n g).length = n := by simp [tbl]
theorem tbl_at {n j : Nat} (g : Nat → Int) (h : j < n) : (tbl n g).getD j 0 = g j := by simp [tbl, List.getD, h]
theorem tbl_congr {n : Nat} {g h : Nat → Int} (hh : ∀ i, i < n → g i = h i) : tbl n g = tbl n h := List.map_congr_left (fun i hi => hh i (List.mem_range.1 hi))
theorem tbl_set {n j : Nat} {g h : Nat → Int} {v : Int} (hj : h j = v) (hh : ∀ i, i < n → i ≠ j → g i = h i) : (tbl n g).set j v = tbl n h := by
  apply List.ext_getElem (by rw [List.length_set, tbl_len, tbl_len])
  intro i h1 h2
  rw [tbl_len] at h2
  rw [List.getElem_set]
  split
  · rename_i q; subst q; rw [← hj]; simp [tbl]
  · rename_i q
    simp only [tbl, List.getElem_map, List.getElem_range]
    exact hh i h2 (fun e => q e.symm)
theorem tbl_rep (n : Nat) (v : Int) : tbl n (fun _ => v) = List.replicate n v := by
  unfold tbl
  rw [List.eq_replicate_iff]
  refine ⟨by simp, fun b hb => ?_⟩
  obtain ⟨i, _, rfl⟩ := List.mem_map.1 hb
  rfl
def upT (g : Nat → Int) (j i : Nat) : Int := if i < j then g i else 0
theorem upT_zero (g : Nat → Int) (n : Nat) : tbl n (upT g 0) = List.replicate n 0 := by
  rw [← tbl_rep]
  exact tbl_congr (fun i _ => by unfold upT; rw [if_neg (by omega)])
theorem upT_set (g : Nat → Int) {j n : Nat} : (tbl n (upT g j)).set j (g j) = tbl n (upT g (j + 1)) := tbl_set (by unfold upT; rw [if_pos (by omega)]) (fun i _ hi => by
  unfold upT
  by_cases r : i < j
  · rw [if_pos r, if_pos (by omega)]
  · rw [if_neg r, if_neg (by omega)])
theorem upT_all (g : Nat → Int) (n : Nat) : tbl n (upT g n) = tbl n g := tbl_congr (fun i hi => by unfold upT; rw [if_pos hi])
def edC (m : Mp) (bk : Bool) (c : Nat → Int) (i : Nat) : Edg := if bk = true then ⟨(gr m i).t.toNat, (gr m i).f.toNat, c i⟩ else ⟨(gr m i).f.toNat, (gr m i).t.toNat, c i⟩
def edgC (m : Mp) (bk : Bool) (c : Nat → Int) : List Edg := (List.range m.rs.length).map (edC m bk c)
theorem edgC_ok {m : Mp} (h : OkM m) (bk : Bool) {c : Nat → Int} (hc : ∀ i, i < m.rs.length → 0 ≤ c i → 1 ≤ c i) : (∀ e ∈ edgC m bk c, e.x < m.n.toNat ∧ e.y < m.n.toNat) ∧ ∀ e ∈ edgC m bk c, 0 ≤ e.c → 1 ≤ e.c := by
  constructor
  · intro e he
    obtain ⟨i, hi, rfl⟩ := List.mem_map.1 he
    have hr := roadB_ok (h.r i (List.mem_range.1 hi))
    have := hr.f
    have := hr.t
    unfold edC
    split
    · constructor
      · show (gr m i).t.toNat < _; omega
      · show (gr m i).f.toNat < _; omega
    · constructor
      · show (gr m i).f.toNat < _; omega
      · show (gr m i).t.toNat < _; omega
  · intro e he h0
    obtain ⟨i, hi, rfl⟩ := List.mem_map.1 he
    have hi := List.mem_range.1 hi
    have e : (edC m bk c i).c = c i := by unfold edC; split <;> rfl
    rw [e] at h0 ⊢
    exact hc i hi h0
theorem take_edC {m : Mp} {bk : Bool} {c : Nat → Int} {i : Nat} (h : i < m.rs.length) : (edgC m bk c).take (i + 1) = (edgC m bk c).take i ++ [edC m bk c i] := by
  rw [List.take_succ_eq_append_getElem (by simp [edgC]; exact h)]
  simp [edgC]
theorem pas_snoc (o : List Int) (es : List Edg) (e : Edg) : pas o (es ++ [e]) = stp (pas o es) e := by
  unfold pas
  rw [List.foldl_append]; rfl
def dstC (m : Mp) (bk : Bool) (c : Nat → Int) (a : Int) : List Int := dst (edgC m bk c) m.n.toNat a.toNat
theorem w57 (m : Mp) (f : Nat → Int) (a : Int) (bk : Bool) (g : Nat) (fi ca : List AV) (c : Nat → Int) (h : OkM m) (ha : 0 ≤ a ∧ a < m.n) (hc : ∀ i, i < m.rs.length → 0 ≤ c i → 1 ≤ c i) (hcb : ∀ i, i < m.rs.length → -1099511627776 ≤ c i ∧ c i ≤ 1099511627776)
    (hg : ∀ i, i < m.rs.length → Sy.Fn Try.prog g (fi ++ [iv (i : Nat)] ++ ca) (iv (c i))) : W Try.prog 102 Xn57_0 (init [aAt m f, iv a, bv bk, .clo g fi ca]) (FinO [.t 8] 2 1 0 cI (dstC m bk c a)) := by
  have hn := h.n
  have hnr := h.nr
  obtain ⟨n, hnn⟩ : ∃ n : Nat, m.n = n := ⟨m.n.toNat, by omega⟩
  repeat' (first | refine w1g ?_ | refine w1l ?_ | refine w1q ?_ | refine w1b ?_ | refine w1p ?_ | ((first | refine w1r ?_ | refine w1k ?_ | refine w1e ?_); simp (maxSteps := 400000) (disch := omega) only [push_cast, ↓reduceIte, reduceCtorEq, Nat.reduceAdd, Nat.reduceSub, Nat.reduceEqDiff, Nat.reduceLeDiff, Nat.reduceLT, Nat.reduceBEq, Nat.reduceDiv, Nat.reduceMod, Nat.reducePow, Nat.reduceMul, Int.reduceToNat, Int.reduceLT, Int.reduceLE, hnn]) | refine an2 ?_ | fail)
  refine ⟨rfl, ⟨by omega, by omega, by omega⟩, Int, 0, cI, 0, rfl, rfl, by omega, rfl, ?_⟩
  simp (maxSteps := 400000) (disch := omega) only [push_cast, ↓reduceIte, reduceCtorEq, Nat.reduceAdd, Nat.reduceSub, Nat.reduceEqDiff, Nat.reduceLeDiff, Nat.reduceLT, Nat.reduceBEq, Nat.reduceDiv, Nat.reduceMod, Nat.reducePow, Nat.reduceMul, Int.reduceToNat, Int.reduceLT, Int.reduceLE, Int.toNat_natCast]
  repeat' (first | refine w1g ?_ | refine w1l ?_ | refine w1q ?_ | refine w1b ?_ | refine w1p ?_ | ((first | refine w1r ?_ | refine w1k ?_ | refine w1e ?_); simp (maxSteps := 400000) (disch := omega) only [push_cast, ↓reduceIte, reduceCtorEq, Nat.reduceAdd, Nat.reduceSub, Nat.reduceEqDiff, Nat.reduceLeDiff, Nat.reduceLT, Nat.reduceBEq, Nat.reduceDiv, Nat.reduceMod, Nat.reducePow, Nat.reduceMul, Int.reduceToNat, Int.reduceLT, Int.reduceLE, List.length_replicate]) | refine an2 ?_ | fail)
  refine W_loopU (fun j : Nat => [(25, iv j)]) (fun j => [(5, .row 0 2 1 0 cI (tbl n (upT (fun _ => far) j)))]) (fun j => j ≤ n) (fun j => n - j) 0 (by omega) (by rfl) (by rw [upT_zero]; rfl) (fun j hj => ?_)
  have tl := tbl_len n (upT (fun _ => far) j)
  (refine sy1 ?_; try exact True.intro)
  repeat' (first | refine w1g ?_ | refine w1l ?_ | refine w1q ?_ | refine w1b ?_ | refine w1p ?_ | ((first | refine w1r ?_ | refine w1k ?_ | refine w1e ?_); (refine sy1 ?_; try exact True.intro)) | refine an2 ?_ | fail)
  refine W_condD (by rfl) (fun h5 => ?_) (fun h5 => ?_)
  · have e3 := upT_set (fun _ => far) (j := j) (n := n)
    repeat' (first | refine w1g ?_ | refine w1l ?_ | refine w1q ?_ | refine w1b ?_ | refine w1p ?_ | ((first | refine w1r ?_ | refine w1k ?_ | refine w1e ?_); simp (maxSteps := 400000) (disch := omega) only [push_cast, ↓reduceIte, reduceCtorEq, Nat.reduceAdd, Nat.reduceSub, Nat.reduceEqDiff, Nat.reduceLeDiff, Nat.reduceLT, Nat.reduceBEq, Nat.reduceDiv, Nat.reduceMod, Nat.reducePow, Nat.reduceMul, Int.reduceToNat, Int.reduceLT, Int.reduceLE, tl]) | refine an2 ?_ | fail)
    refine ⟨rfl, ⟨Nat.le_of_ble_eq_true rfl, rfl⟩, by omega, far, rfl, rfl, ?_⟩
    rw [e3]
    (refine sy1 ?_; try exact True.intro)
    repeat' (first | refine w1g ?_ | refine w1l ?_ | refine w1q ?_ | refine w1b ?_ | refine w1p ?_ | ((first | refine w1r ?_ | refine w1k ?_ | refine w1e ?_); (refine sy1 ?_; try exact True.intro)) | refine an2 ?_ | fail)
    refine ⟨j + 1, by omega, by omega, by rfl, ?_⟩
    (refine syE ?_; try exact True.intro)
  have hjn : j = n := by omega
  subst hjn
  have ea : (a.toNat : Int) = a := by omega
  have ei : (tbl j (upT (fun _ => far) j)).set a.toNat 0 = ini j a.toNat := by rw [upT_all, tbl_rep]; rfl
  repeat' (first | refine w1g ?_ | refine w1l ?_ | refine w1q ?_ | refine w1b ?_ | refine w1p ?_ | ((first | refine w1r ?_ | refine w1k ?_ | refine w1e ?_); simp (maxSteps := 400000) (disch := omega) only [push_cast, ↓reduceIte, reduceCtorEq, Nat.reduceAdd, Nat.reduceSub, Nat.reduceEqDiff, Nat.reduceLeDiff, Nat.reduceLT, Nat.reduceBEq, Nat.reduceDiv, Nat.reduceMod, Nat.reducePow, Nat.reduceMul, Int.reduceToNat, Int.reduceLT, Int.reduceLE, tl]) | refine an2 ?_ | fail)
  refine ⟨rfl, ⟨Nat.le_of_ble_eq_true rfl, rfl⟩, by omega, 0, rfl, rfl, ?_⟩
  rw [ei]
  (refine sy1 ?_; try exact True.intro)
  repeat' (first | refine w1g ?_ | refine w1l ?_ | refine w1q ?_ | refine w1b ?_ | refine w1p ?_ | ((first | refine w1r ?_ | refine w1k ?_ | refine w1e ?_); (refine sy1 ?_; try exact True.intro)) | refine an2 ?_ | fail)
  refine ⟨rfl, ⟨by omega, by omega, by omega⟩, Int, 0, cI, 0, rfl, rfl, by omega, rfl, ?_⟩
  simp (maxSteps := 400000) (disch := omega) only [push_cast, ↓reduceIte, reduceCtorEq, Nat.reduceAdd, Nat.reduceSub, Nat.reduceEqDiff, Nat.reduceLeDiff, Nat.reduceLT, Nat.reduceBEq, Nat.reduceDiv, Nat.reduceMod, Nat.reducePow, Nat.reduceMul, Int.reduceToNat, Int.reduceLT, Int.reduceLE, Int.toNat_natCast]
  repeat' (first | refine w1g ?_ | refine w1l ?_ | refine w1q ?_ | refine w1b ?_ | refine w1p ?_ | ((first | refine w1r ?_ | refine w1k ?_ | refine w1e ?_); simp (maxSteps := 400000) (disch := omega) only [push_cast, ↓reduceIte, reduceCtorEq, Nat.reduceAdd, Nat.reduceSub, Nat.reduceEqDiff, Nat.reduceLeDiff, Nat.reduceLT, Nat.reduceBEq, Nat.reduceDiv, Nat.reduceMod, Nat.reducePow, Nat.reduceMul, Int.reduceToNat, Int.reduceLT, Int.reduceLE, List.length_replicate]) | refine an2 ?_ | fail)
  refine W_loopU (fun i : Nat => [(42, iv i)]) (fun i => [(19, .row 0 2 1 0 cI (tbl m.rs.length (upT c i)))]) (fun i => i ≤ m.rs.length) (fun i => m.rs.length - i) 0 (by omega) (by rfl) (by rw [upT_zero]; rfl) (fun i hi => ?_)
  have tc := tbl_len m.rs.length (upT c i)
  (refine sy1 ?_; try exact True.intro)
  repeat' (first | refine w1g ?_ | refine w1l ?_ | refine w1q ?_ | refine w1b ?_ | refine w1p ?_ | ((first | refine w1r ?_ | refine w1k ?_ | refine w1e ?_); (refine sy1 ?_; try exact True.intro)) | refine an2 ?_ | fail)
  refine W_condD (by rfl) (fun h6 => ?_) (fun h6 => ?_)
  · have hlt : i < m.rs.length := by omega
    have e3 := upT_set c (j := i) (n := m.rs.length)
    have cg := hg i hlt
    repeat' (first | refine w1g ?_ | refine w1l ?_ | refine w1q ?_ | refine w1b ?_ | refine w1p ?_ | ((first | refine w1r ?_ | refine w1k ?_ | refine w1e ?_ | refine CallC.now (cg) ?_); simp (maxSteps := 400000) (disch := omega) only [push_cast, ↓reduceIte, reduceCtorEq, Nat.reduceAdd, Nat.reduceSub, Nat.reduceEqDiff, Nat.reduceLeDiff, Nat.reduceLT, Nat.reduceBEq, Nat.reduceDiv, Nat.reduceMod, Nat.reducePow, Nat.reduceMul, Int.reduceToNat, Int.reduceLT, Int.reduceLE, tc]) | refine an2 ?_ | fail)
    refine ⟨rfl, ⟨Nat.le_of_ble_eq_true rfl, rfl⟩, by omega, c i, rfl, rfl, ?_⟩
    rw [e3]
    (refine sy1 ?_; try exact True.intro)
    repeat' (first | refine w1g ?_ | refine w1l ?_ | refine w1q ?_ | refine w1b ?_ | refine w1p ?_ | ((first | refine w1r ?_ | refine w1k ?_ | refine w1e ?_); (refine sy1 ?_; try exact True.intro)) | refine an2 ?_ | fail)
    refine ⟨i + 1, by omega, by omega, by rfl, ?_⟩
    (refine syE ?_; try exact True.intro)
  have hin : i = m.rs.length := by omega
  rw [hin, upT_all]
  clear tc tl ei h5 hj h6 hi
  obtain ⟨es, hes⟩ : ∃ es, es = edgC m bk c := ⟨_, rfl⟩
  obtain ⟨k1, k2⟩ := edgC_ok h bk hc
  rw [← hes, hnn, Int.toNat_natCast] at k1
  rw [← hes] at k2
  have hsj : a.toNat < j := by omega
  have hres : dstC m bk c a = dst es j a.toNat := by unfold dstC; rw [← hes, hnn, Int.toNat_natCast]
  rw [hres]
  repeat' (first | refine w1g ?_ | refine w1l ?_ | refine w1q ?_ | refine w1b ?_ | refine w1p ?_ | ((first | refine w1r ?_ | refine w1k ?_ | refine w1e ?_); (refine sy1 ?_; try exact True.intro)) | refine an2 ?_ | fail)
  refine W_loopU (fun u : List Int × Bool => [(13, bv u.2)]) (fun u => [(5, .row 0 2 1 0 cI u.1)]) (fun u => Dst es a.toNat j u.1 ∧ (u.2 = false → ∀ e ∈ es, stp u.1 e = u.1)) (fun u => 2 * (tot u.1).toNat + (if u.2 = true then 1 else 0)) (ini j a.toNat, true) ⟨ini_dst hsj, fun q => by cases q⟩ (by rfl) (by rfl) (fun u hu => ?_)
  obtain ⟨o, ch⟩ := u
  obtain ⟨hd, hch⟩ := hu
  dsimp only at hd hch ⊢
  have lo := hd.len
  have gI : ∀ (l : List Int) i, l.getD i 0 = gi l i := fun _ _ => rfl
  (refine sy1 ?_; try exact True.intro)
  repeat' (first | refine w1g ?_ | refine w1l ?_ | refine w1q ?_ | refine w1b ?_ | refine w1p ?_ | ((first | refine w1r ?_ | refine w1k ?_ | refine w1e ?_); (refine sy1 ?_; try exact True.intro)) | refine an2 ?_ | fail)
  refine W_cond (by rfl) (fun hb => ?_) (fun hb => ?_)
  · subst hb
    repeat' (first | refine w1g ?_ | refine w1l ?_ | refine w1q ?_ | refine w1b ?_ | refine w1p ?_ | ((first | refine w1r ?_ | refine w1k ?_ | refine w1e ?_); (refine sy1 ?_; try exact True.intro)) | refine an2 ?_ | fail)
    refine W_loopU (fun v : Nat × Bool => [(13, bv v.2), (57, iv v.1)]) (fun v => [(5, .row 0 2 1 0 cI (pas o (es.take v.1)))]) (fun v => v.1 ≤ m.rs.length ∧ (v.2 = true → tot (pas o (es.take v.1)) < tot o) ∧ (v.2 = false → ∀ e ∈ es.take v.1, stp o e = o)) (fun v => m.rs.length - v.1) (0, false) ⟨Nat.zero_le _, (fun q => absurd q (by decide)), fun _ e he => by rw [List.take_zero] at he; cases he⟩ (by rfl) (by rfl) (fun v hv => ?_)
    obtain ⟨i, cv⟩ := v
    obtain ⟨hi, hv1, hv2⟩ := hv
    dsimp only at hi hv1 hv2 ⊢
    (refine sy1 ?_; try exact True.intro)
    repeat' (first | refine w1g ?_ | refine w1l ?_ | refine w1q ?_ | refine w1b ?_ | refine w1p ?_ | ((first | refine w1r ?_ | refine w1k ?_ | refine w1e ?_); (refine sy1 ?_; try exact True.intro)) | refine an2 ?_ | fail)
    refine W_condD (by rfl) (fun h6 => ?_) (fun h6 => ?_)
    · have hlt : i < m.rs.length := by omega
      have hgr : m.rs.getD i dR = gr m i := rfl
      have e3 : es.take (i + 1) = es.take i ++ [edC m bk c i] := by rw [hes]; exact take_edC hlt
      have e4 : pas o (es.take (i + 1)) = stp (pas o (es.take i)) (edC m bk c i) := by rw [e3, pas_snoc]
      have hci := tbl_at c hlt
      have hcb := hcb i hlt
      repeat' (first | refine w1g ?_ | refine w1l ?_ | refine w1q ?_ | refine w1b ?_ | refine w1p ?_ | ((first | refine w1r ?_ | refine w1k ?_ | refine w1e ?_); simp (maxSteps := 400000) (disch := omega) only [push_cast, ↓reduceIte, reduceCtorEq, Nat.reduceAdd, Nat.reduceSub, Nat.reduceEqDiff, Nat.reduceLeDiff, Nat.reduceLT, Nat.reduceBEq, Nat.reduceDiv, Nat.reduceMod, Nat.reducePow, Nat.reduceMul, Int.reduceToNat, Int.reduceLT, Int.reduceLE, hgr, hci, tbl_len]) | refine an2 ?_ | fail)
      have hdu := pas_dst k1 (es.take i) o (fun e he => List.mem_of_mem_take he) hd
      have hel : edC m bk c i ∈ es := by rw [hes]; exact List.mem_map.2 ⟨i, List.mem_range.2 hlt, rfl⟩
      obtain ⟨X, hX⟩ : ∃ X, X = if bk = true then (gr m i).t else (gr m i).f := ⟨_, rfl⟩
      obtain ⟨Y, hY⟩ : ∃ Y, Y = if bk = true then (gr m i).f else (gr m i).t := ⟨_, rfl⟩
      have hr := roadB_ok (h.r i hlt)
      have hXr : 0 ≤ X ∧ X < j := by have := hr.f; have := hr.t; rw [hX]; split <;> omega
      have hYr : 0 ≤ Y ∧ Y < j := by have := hr.f; have := hr.t; rw [hY]; split <;> omega
      have hex : (edC m bk c i).x = X.toNat := by unfold edC; rw [hX]; split <;> rfl
      have hey : (edC m bk c i).y = Y.toNat := by unfold edC; rw [hY]; split <;> rfl
      have hec : (edC m bk c i).c = c i := by unfold edC; split <;> rfl
      have htk : ∀ e ∈ es.take (i + 1), e ∈ es.take i ∨ e = edC m bk c i := fun e he => by
        rw [e3] at he
        rcases List.mem_append.1 he with he | he
        · exact .inl he
        · exact .inr (List.mem_singleton.1 he)
      have hsame : cv = false → pas o (es.take i) = o := fun q => pas_same _ _ (hv2 q)
      generalize edC m bk c i = e at *
      have hst : ∀ z, stp z e = if 0 ≤ c i ∧ gi z X.toNat < far ∧ gi z X.toNat + c i < gi z Y.toNat then z.set Y.toNat (gi z X.toNat + c i) else z := fun z => by unfold stp; rw [hec, hex, hey]
      have hux := hdu.le (y := X.toNat) (by omega)
      have huy := hdu.le (y := Y.toNat) (by omega)
      have hux2 : gi (pas o (es.take i)) X.toNat ≤ 1125899906842624 := hux.2
      have huy2 : gi (pas o (es.take i)) Y.toNat ≤ 1125899906842624 := huy.2
      have hlu := hdu.len
      have htot := stp_tot (pas o (es.take i)) e (by rw [hey]; omega)
      have hto := pas_tot (es.take i) o (fun e he => by rw [lo]; exact (k1 e (List.mem_of_mem_take he)).2)
      generalize pas o (es.take i) = u at *
      refine W_condD (by rfl) (fun h7 => ?_) (fun h7 => ?_)
      · have hz : ∀ z, stp z e = z := fun z => by rw [hst, if_neg (by omega)]
        repeat' (first | refine w1g ?_ | refine w1l ?_ | refine w1q ?_ | refine w1b ?_ | refine w1p ?_ | ((first | refine w1r ?_ | refine w1k ?_ | refine w1e ?_); (refine sy1 ?_; try exact True.intro)) | refine an2 ?_ | fail)
        refine ⟨(i + 1, cv), ⟨by dsimp only; omega, fun q => by dsimp only at q ⊢; rw [e4, hz]; exact hv1 q, fun q e' he' => ?_⟩, by dsimp only; omega, by rfl, ?_⟩
        · rcases htk e' he' with he' | rfl
          · exact hv2 q e' he'
          · exact hz o
        dsimp only
        rw [e4, hz]
        (refine syE ?_; try exact True.intro)
      repeat' (first | refine w1g ?_ | refine w1l ?_ | refine w1q ?_ | refine w1b ?_ | refine w1p ?_ | ((first | refine w1r ?_ | refine w1k ?_ | refine w1e ?_); (refine sy1 ?_; try exact True.intro)) | refine an2 ?_ | fail)
      refine W_meet [(16, iv X), (17, iv Y)] [] ?_ ?_
      · refine W_cond (by rfl) (fun hb => ?_) (fun hb => ?_)
        · rw [hX, hY, hb, if_pos rfl, if_pos rfl]
          repeat' (first | refine w1g ?_ | refine w1l ?_ | refine w1q ?_ | refine w1b ?_ | refine w1p ?_ | ((first | refine w1r ?_ | refine w1k ?_ | refine w1e ?_); (refine sy1 ?_; try exact True.intro)) | refine an2 ?_ | fail)
          first | exact ⟨rfl, by rfl⟩ | rfl
        · rw [hX, hY, hb, if_neg (by decide), if_neg (by decide)]
          repeat' (first | refine w1g ?_ | refine w1l ?_ | refine w1q ?_ | refine w1b ?_ | refine w1p ?_ | ((first | refine w1r ?_ | refine w1k ?_ | refine w1e ?_); (refine sy1 ?_; try exact True.intro)) | refine an2 ?_ | fail)
          first | exact ⟨rfl, by rfl⟩ | rfl
      (refine sy1 ?_; try exact True.intro)
      repeat' (first | refine w1g ?_ | refine w1l ?_ | refine w1q ?_ | refine w1b ?_ | refine w1p ?_ | ((first | refine w1r ?_ | refine w1k ?_ | refine w1e ?_); simp (maxSteps := 400000) (disch := omega) only [push_cast, ↓reduceIte, reduceCtorEq, Nat.reduceAdd, Nat.reduceSub, Nat.reduceEqDiff, Nat.reduceLeDiff, Nat.reduceLT, Nat.reduceBEq, Nat.reduceDiv, Nat.reduceMod, Nat.reducePow, Nat.reduceMul, Int.reduceToNat, Int.reduceLT, Int.reduceLE, gI, hci, tbl_len, hlu]) | refine an2 ?_ | fail)
      refine W_cond (by rfl) (fun h8 => ?_) (fun h8 => ?_)
      · rw [Bool.and_eq_true, decide_eq_true_eq, decide_eq_true_eq] at h8
        have hs1 : stp u e = u.set Y.toNat (gi u X.toNat + c i) := by rw [hst, if_pos ⟨by omega, h8.1, h8.2⟩]
        have ht1 : tot (stp u e) < tot u := by
          rcases Int.lt_or_eq_of_le htot.1 with q | q
          · exact q
          · have q2 := htot.2 q
            rw [hs1] at q2
            have q3 : gi (u.set Y.toNat (gi u X.toNat + c i)) Y.toNat = gi u Y.toNat := by rw [q2]
            rw [gi_set (by omega), if_pos rfl] at q3
            omega
        repeat' (first | refine w1g ?_ | refine w1l ?_ | refine w1q ?_ | refine w1b ?_ | refine w1p ?_ | ((first | refine w1r ?_ | refine w1k ?_ | refine w1e ?_); simp (maxSteps := 400000) (disch := omega) only [push_cast, ↓reduceIte, reduceCtorEq, Nat.reduceAdd, Nat.reduceSub, Nat.reduceEqDiff, Nat.reduceLeDiff, Nat.reduceLT, Nat.reduceBEq, Nat.reduceDiv, Nat.reduceMod, Nat.reducePow, Nat.reduceMul, Int.reduceToNat, Int.reduceLT, Int.reduceLE, tbl_len, hlu]) | refine an2 ?_ | fail)
        refine ⟨rfl, ⟨Nat.le_of_ble_eq_true rfl, rfl⟩, by omega, gi u X.toNat + c i, rfl, rfl, ?_⟩
        rw [← hs1, ← e4]
        (refine sy1 ?_; try exact True.intro)
        repeat' (first | refine w1g ?_ | refine w1l ?_ | refine w1q ?_ | refine w1b ?_ | refine w1p ?_ | ((first | refine w1r ?_ | refine w1k ?_ | refine w1e ?_); (refine sy1 ?_; try exact True.intro)) | refine an2 ?_ | fail)
        refine ⟨(i + 1, true), ⟨by dsimp only; omega, fun _ => by dsimp only; rw [e4]; omega, fun q => absurd (show true = false from q) (by decide)⟩, by dsimp only; omega, by rfl, ?_⟩
        (refine syE ?_; try exact True.intro)
      · have hz : stp u e = u := by
          rw [hst, if_neg]
          rintro ⟨q1, q2, q3⟩
          have q2 : gi u X.toNat < 1125899906842624 := q2
          rw [decide_eq_true q2, decide_eq_true q3] at h8
          cases h8
        repeat' (first | refine w1g ?_ | refine w1l ?_ | refine w1q ?_ | refine w1b ?_ | refine w1p ?_ | ((first | refine w1r ?_ | refine w1k ?_ | refine w1e ?_); (refine sy1 ?_; try exact True.intro)) | refine an2 ?_ | fail)
        refine ⟨(i + 1, cv), ⟨by dsimp only; omega, fun q => by dsimp only at q ⊢; rw [e4, hz]; exact hv1 q, fun q e' he' => ?_⟩, by dsimp only; omega, by rfl, ?_⟩
        · rcases htk e' he' with he' | rfl
          · exact hv2 q e' he'
          · rw [hsame q] at hz
            exact hz
        dsimp only
        rw [e4, hz]
        (refine syE ?_; try exact True.intro)
    · have hin2 : i = m.rs.length := by omega
      have hall : es.take i = es := by rw [hin2, hes]; exact List.take_of_length_le (by simp [edgC])
      rw [hall] at hv1 hv2 ⊢
      have hdp := pas_dst k1 es o (fun e he => he) hd
      have hnn1 := tot_nn (pas o es) (fun q hq => (hdp.le (by rw [hdp.len] at hq; exact hq)).1)
      repeat' (first | refine w1g ?_ | refine w1l ?_ | refine w1q ?_ | refine w1b ?_ | refine w1p ?_ | ((first | refine w1r ?_ | refine w1k ?_ | refine w1e ?_); (refine sy1 ?_; try exact True.intro)) | refine an2 ?_ | fail)
      refine ⟨(pas o es, cv), ⟨hdp, fun q => ?_⟩, ?_, by rfl, ?_⟩
      · dsimp only at q ⊢
        have := hv2 q
        rw [pas_same es o this]
        exact this
      · dsimp only
        cases cv with
        | true =>
          have := hv1 rfl
          simp only [if_true]
          omega
        | false =>
          rw [pas_same es o (hv2 rfl)]
          simp
      (refine syE ?_; try exact True.intro)
  · have hfix := fix_stp (fun e he => by rw [lo]; exact (k1 e he).2) (hch hb)
    have hfin : o = dst es j a.toNat := dst_ext k1 hd hfix (dst_dst k1 hsj) (dst_fix k1 k2 hsj)
    rw [← hfin]
    repeat' (first | refine w1g ?_ | refine w1l ?_ | refine w1q ?_ | refine w1b ?_ | refine w1p ?_ | ((first | refine w1r ?_ | refine w1k ?_ | refine w1e ?_); (refine sy1 ?_; try exact True.intro)) | refine an2 ?_ | fail)
    exact W_ret ⟨_, _, ⟨rfl, rfl⟩, rfl⟩
theorem fn57 (m : Mp) (f : Nat → Int) (a : Int) (bk : Bool) (g : Nat) (fi ca : List AV) (c : Nat → Int) (h : OkM m) (ha : 0 ≤ a ∧ a < m.n) (hc : ∀ i, i < m.rs.length → 0 ≤ c i → 1 ≤ c i) (hcb : ∀ i, i < m.rs.length → -1099511627776 ≤ c i ∧ c i ≤ 1099511627776)
    (hg : ∀ i, i < m.rs.length → Sy.Fn Try.prog g (fi ++ [iv (i : Nat)] ++ ca) (iv (c i))) : Sy.Fn Try.prog 57 [aAt m f, iv a, bv bk, .clo g fi ca] (aI (dstC m bk c a)) := by
  exact Fn_of_W mixed Xt57 rfl (W_mono' (w57 m f a bk g fi ca c h ha hc hcb hg) fin_of_finO)
theorem fo57 (m : Mp) (f : Nat → Int) (a : Int) (bk : Bool) (g : Nat) (fi ca : List AV) (c : Nat → Int) (h : OkM m) (ha : 0 ≤ a ∧ a < m.n) (hc : ∀ i, i < m.rs.length → 0 ≤ c i → 1 ≤ c i) (hcb : ∀ i, i < m.rs.length → -1099511627776 ≤ c i ∧ c i ≤ 1099511627776)
    (hg : ∀ i, i < m.rs.length → Sy.Fn Try.prog g (fi ++ [iv (i : Nat)] ++ ca) (iv (c i))) : FnO Try.prog 57 [aAt m f, iv a, bv bk, .clo g fi ca] 2 1 0 cI (dstC m bk c a) := by
  exact FnO_of_W mixed Xt57 rfl (fun x _ => rfl) (w57 m f a bk g fi ca c h ha hc hcb hg)
end Go.Proofs.Ytfbdlmenhoagmaa

namespace Go.Proofs.Ytfbdlmenhoagmaa
set_option linter.unusedVariables false
def msk (l : List Int) : Nat := l.foldl (fun s x => s ||| 2 ^ x.toNat) 0
theorem msk_snoc (l : List Int) (i : Nat) : msk (l ++ [(i : Int)]) = msk l ||| 2 ^ i := by
  unfold msk; rw [List.foldl_append]; rfl
theorem msk_aux : ∀ (l p : List Int) (s : Nat), BitsOf s p → (∀ x ∈ l, 0 ≤ x) → BitsOf (l.foldl (fun s x => s ||| 2 ^ x.toNat) s) (p ++ l)
  | [], p, s, h, _ => by simpa using h
  | x :: l, p, s, h, hx => by
    have h1 := bits_snoc h x.toNat
    have e : ((x.toNat : Nat) : Int) = x := by have := hx x List.mem_cons_self; omega
    rw [e] at h1
    have := msk_aux l _ _ h1 (fun y hy => hx y (List.mem_cons_of_mem _ hy))
    rwa [List.append_assoc] at this
theorem msk_bits {l : List Int} (h : ∀ x ∈ l, 0 ≤ x) : BitsOf (msk l) l := msk_aux l [] 0 bits_nil h
theorem msk_lt {n : Int} {l : List Int} (h : Srt n 0 l) (hn : n ≤ 10) : msk l < 1024 := by
  have := bits_lt (n := 10) (msk_bits fun x hx => (h.mem x hx).1) (fun x hx => by have := (h.mem x hx).2; omega)
  simpa using this
def bS : Option (List Int × Int) → Nat
  | none => 0
  | some p => msk p.1
def bC : Option (List Int × Int) → Int
  | none => 0
  | some p => p.2
def bF : Option (List Int × Int) → Bool
  | none => false
  | some _ => true
theorem lstep_no {f : List Int → Int} {ok : List Int → Bool} {b : Option (List Int × Int)} {x : List Int} (h : ok x = false ∨ (bF b = true ∧ bC b ≤ f x)) : lstep f ok b x = b := by
  unfold lstep
  by_cases q : ok x = true
  · rw [if_pos q]
    rcases h with h | ⟨h1, h2⟩
    · rw [q] at h; cases h
    · cases b with
      | none => cases h1
      | some p =>
        obtain ⟨y, n⟩ := p
        dsimp only
        rw [if_neg (by show ¬ f x < n; have : bC (some (y, n)) = n := rfl; omega)]
  · rw [if_neg q]
theorem lstep_yes {f : List Int → Int} {ok : List Int → Bool} {b : Option (List Int × Int)} {x : List Int} (h : ok x = true) (h2 : bF b = false ∨ f x < bC b) : lstep f ok b x = some (x, f x) := by
  unfold lstep
  rw [if_pos h]
  cases b with
  | none => rfl
  | some p =>
    obtain ⟨y, n⟩ := p
    rcases h2 with h2 | h2
    · cases h2
    · dsimp only
      rw [if_pos (by have : bC (some (y, n)) = n := rfl; omega)]
end Go.Proofs.Ytfbdlmenhoagmaa

namespace Go.Proofs.Ytfbdlmenhoagmaa
open Go Sy
set_option maxRecDepth 100000
set_option maxHeartbeats 4000000
set_option linter.unusedVariables false
set_option linter.unusedSimpArgs false
theorem fn55 (n : Int) : Sy.Fn Try.prog 55 [iv n] (.clo 114 [] [.fp [iv n] 0]) := by
  refine Fn_of_W mixed Xt55 rfl ?_
  repeat' (first | refine w1g ?_ | refine w1l ?_ | refine w1q ?_ | refine w1b ?_ | refine w1p ?_ | ((first | refine w1r ?_ | refine w1k ?_ | refine w1e ?_); (refine sy1 ?_; try exact True.intro)) | refine an2 ?_ | fail)
  exact W_ret ⟨[_], ⟨rfl, rfl⟩, rfl⟩
theorem shl_one {j : Nat} (h : j ≤ 9) : IntKind.u64.wrap (1 * 2 ^ min j IntKind.u64.bits) = ((2 ^ j : Nat) : Int) := by
  have : j = 0 ∨ j = 1 ∨ j = 2 ∨ j = 3 ∨ j = 4 ∨ j = 5 ∨ j = 6 ∨ j = 7 ∨ j = 8 ∨ j = 9 := by omega
  rcases this with rfl | rfl | rfl | rfl | rfl | rfl | rfl | rfl | rfl | rfl <;> decide
theorem or_msk {x : List Int} {j : Nat} (h : msk x < 1024) (hj : j ≤ 9) : bits .or .u64 (msk x : Int) (IntKind.u64.wrap (1 * 2 ^ min j IntKind.u64.bits)) = (msk (x ++ [(j : Int)]) : Int) := by
  rw [shl_one hj, msk_snoc]
  have : 2 ^ j ≤ 2 ^ 9 := Nat.pow_le_pow_right (by omega) hj
  exact bits_or_u64_nat _ _ (by omega) (by omega)
theorem walk_inl {ι : Type} (n : Nat) (hn : n ≤ 10) (B : ι → Mem) (step : ι → List Int → ι) (N0 kw l : Nat) (hBas : ∀ b, Bas N0 (B b))
    (hW : ∀ b, lm (B b) kw = some (.cells [.cq 115 [] [.fp [yv l] 0, .fp [iv n] 0, .own kw 0]]))
    (HY : ∀ b x, Srt n 0 x → ∀ tm R nx, Opq N0 R nx → Yl Try.prog l [uv (msk x)] ⟨tm, B b ++ R, nx⟩ (MidB N0 nx tm R (fun r B' => r = true ∧ B' = B (step b x)))) :
    ∀ (d i : Nat) (x : List Int), i + d = n → Srt n 0 x → (∀ y ∈ x, y < (i : Int)) → ∀ b tm R nx, Opq N0 R nx →
      Inl Try.prog 115 [uv (msk x), iv i, .fp [yv l] 0, .fp [iv n] 0, .own kw 0] ⟨tm, B b ++ R, nx⟩ (MidR N0 nx tm R (fun r B' => r = bv true ∧ B' = B ((x :: brn d x i).foldl step b))) := by
  intro d
  induction d using Nat.strongRecOn with
  | _ d ih =>
  intro i x hi hx hlt b tm R nx hR
  refine Inl_mid mixed Xt115 rfl hR (hBas b) (fun R' nx' hR' => ?_)
  have hWR : ∀ b, lm (B b ++ R') kw = some (.cells [.cq 115 [] [.fp [yv l] 0, .fp [iv n] 0, .own kw 0]]) := fun b => by rw [lm_app, hW]
  (refine sy1 ?_; try exact True.intro)
  repeat' (first | refine w1g ?_ | refine w1l ?_ | refine w1q ?_ | refine w1b ?_ | refine w1p ?_ | ((first | refine w1r ?_ | refine w1k ?_ | refine w1e ?_); simp (maxSteps := 400000) (disch := omega) only [push_cast, ↓reduceIte, reduceCtorEq, Nat.reduceAdd, Nat.reduceSub, Nat.reduceEqDiff, Nat.reduceLeDiff, Nat.reduceLT, Nat.reduceBEq, Nat.reduceDiv, Nat.reduceMod, Nat.reducePow, Nat.reduceMul, Int.reduceToNat, Int.reduceLT, Int.reduceLE, hWR]) | refine an2 ?_ | fail)
  refine StopC.yld (fun hpc => ⟨trivial, Yl_le (HY b x hx _ R' _ (hR'.le (by omega))) (fun r s' hs => ?_)⟩) (fun hpc => absurd trivial hpc)
  obtain ⟨B', _, ⟨rfl, rfl⟩, hl⟩ := hs
  refine ⟨_, ?_, hl⟩
  (refine sy1 ?_; try exact True.intro)
  repeat' (first | refine w1g ?_ | refine w1l ?_ | refine w1q ?_ | refine w1b ?_ | refine w1p ?_ | ((first | refine w1r ?_ | refine w1k ?_ | refine w1e ?_); simp (maxSteps := 400000) (disch := omega) only [push_cast, ↓reduceIte, reduceCtorEq, Nat.reduceAdd, Nat.reduceSub, Nat.reduceEqDiff, Nat.reduceLeDiff, Nat.reduceLT, Nat.reduceBEq, Nat.reduceDiv, Nat.reduceMod, Nat.reducePow, Nat.reduceMul, Int.reduceToNat, Int.reduceLT, Int.reduceLE, hWR]) | refine an2 ?_ | fail)
  refine W_cond (by rfl) (fun h => by cases h) (fun _ => ?_)
  repeat' (first | refine w1g ?_ | refine w1l ?_ | refine w1q ?_ | refine w1b ?_ | refine w1p ?_ | ((first | refine w1r ?_ | refine w1k ?_ | refine w1e ?_); (refine sy1 ?_; try exact True.intro)) | refine an2 ?_ | fail)
  refine W_loopM (fun u : Nat × ι => [(8, iv u.1)]) (fun u => B u.2 ++ R') (fun u => i ≤ u.1 ∧ u.1 ≤ n ∧ (brn (n - u.1) x u.1).foldl step u.2 = (x :: brn d x i).foldl step b) (fun u => n - u.1) nx' (fun u _ => hR'.mem (hBas u.2)) (i, step b x) ⟨Nat.le_refl _, by omega, by rw [show n - i = d by omega]; rfl⟩ (by rfl) (by rfl) (fun u hu => ?_)
  obtain ⟨j, c⟩ := u
  obtain ⟨h1, h2, h3⟩ := hu
  dsimp only at h1 h2 h3 ⊢
  (refine sy1 ?_; try exact True.intro)
  repeat' (first | refine w1g ?_ | refine w1l ?_ | refine w1q ?_ | refine w1b ?_ | refine w1p ?_ | ((first | refine w1r ?_ | refine w1k ?_ | refine w1e ?_); (refine sy1 ?_; try exact True.intro)) | refine an2 ?_ | fail)
  refine W_condD (by rfl) (fun h5 => ?_) (fun h5 => ?_)
  · have e5 := or_msk (j := j) (msk_lt hx (by omega)) (by omega)
    have hx1 : Srt (n : Int) 0 (x ++ [(j : Int)]) := hx.snoc (by omega) (by omega) (fun y hy => by have := hlt y hy; omega)
    have hx2 : ∀ y ∈ x ++ [(j : Int)], y < ((j + 1 : Nat) : Int) := fun y hy => by
      rcases List.mem_append.1 hy with q | q
      · have := hlt y q; omega
      · rw [List.mem_singleton] at q; omega
    have e6 : ((j + 1 : Nat) : Int) = (j : Int) + 1 := by omega
    obtain ⟨d', hd'⟩ : ∃ d', n - j = d' + 1 := ⟨n - j - 1, by omega⟩
    have hI := ih d' (by omega) (j + 1) (x ++ [(j : Int)]) (by omega) hx1 hx2 c
    rw [e6] at hI
    repeat' (first | refine w1g ?_ | refine w1l ?_ | refine w1q ?_ | refine w1b ?_ | refine w1p ?_ | ((first | refine W_regS 7 (by decide) (by decide) ?_ | refine w1r ?_ | refine w1k ?_ | refine w1e ?_); simp (maxSteps := 400000) (disch := omega) only [push_cast, ↓reduceIte, reduceCtorEq, Nat.reduceAdd, Nat.reduceSub, Nat.reduceEqDiff, Nat.reduceLeDiff, Nat.reduceLT, Nat.reduceBEq, Nat.reduceDiv, Nat.reduceMod, Nat.reducePow, Nat.reduceMul, Int.reduceToNat, Int.reduceLT, Int.reduceLE, hWR, e5]) | refine an2 ?_ | fail)
    refine CallC.inl (Inl_le' (hI _ R' _ (hR'.le (by omega))) (fun r s2 hs => ?_))
    obtain ⟨B', _, ⟨rfl, rfl⟩, hl2⟩ := hs
    refine ⟨_, ?_, hl2⟩
    (refine sy1 ?_; try exact True.intro)
    repeat' (first | refine w1g ?_ | refine w1l ?_ | refine w1q ?_ | refine w1b ?_ | refine w1p ?_ | ((first | refine w1r ?_ | refine w1k ?_ | refine w1e ?_); simp (maxSteps := 400000) (disch := omega) only [push_cast, ↓reduceIte, reduceCtorEq, Nat.reduceAdd, Nat.reduceSub, Nat.reduceEqDiff, Nat.reduceLeDiff, Nat.reduceLT, Nat.reduceBEq, Nat.reduceDiv, Nat.reduceMod, Nat.reducePow, Nat.reduceMul, Int.reduceToNat, Int.reduceLT, Int.reduceLE, hWR]) | refine an2 ?_ | fail)
    refine W_cond (by rfl) (fun h => by cases h) (fun _ => ?_)
    repeat' (first | refine w1g ?_ | refine w1l ?_ | refine w1q ?_ | refine w1b ?_ | refine w1p ?_ | ((first | refine w1r ?_ | refine w1k ?_ | refine w1e ?_); (refine sy1 ?_; try exact True.intro)) | refine an2 ?_ | fail)
    refine ⟨(j + 1, (((x ++ [(j : Int)]) :: brn d' (x ++ [(j : Int)]) (j + 1)).foldl step c)), ⟨by dsimp only; omega, by dsimp only; omega, ?_⟩, by dsimp only; omega, by rfl, rfl⟩
    dsimp only
    rw [← h3, hd', show n - (j + 1) = d' by omega]
    simp only [brn, List.foldl_append, List.foldl_cons, List.cons_append]
  · have e7 : n - j = 0 := by omega
    rw [e7] at h3
    have h3 : c = (x :: brn d x i).foldl step b := h3
    repeat' (first | refine w1g ?_ | refine w1l ?_ | refine w1q ?_ | refine w1b ?_ | refine w1p ?_ | ((first | refine w1r ?_ | refine w1k ?_ | refine w1e ?_); (refine sy1 ?_; try exact True.intro)) | refine an2 ?_ | fail)
    refine W_ret ?_
    exact ⟨[_], _, ⟨rfl, rfl⟩, rfl, hBas _, rfl, by rw [h3]⟩
def tmL (n g : Nat) (fi ca : List AV) : List (Nat × AV) := [(3, .fp [.clo g fi ca] 0), (4, .own 1 0), (5, .own 2 0), (6, .own 3 0), (10, .clo 114 [] [.fp [iv n] 0])]
def memL (n g : Nat) (fi ca : List AV) (vs : Array Value) (lp : Nat) (R : Loop) (b : Option (List Int × Int)) : Mem := [(6, .oth (.fr vs (tmL n g fi ca))), (5, .oth (.lp lp R (tmL n g fi ca))), (1, .cells [uv (bS b)]), (2, .cells [iv (bC b)]), (3, .cells [bv (bF b)]), (8, .cells [.cq 115 [] [.fp [yv lp] 0, .fp [iv n] 0, .own 8 0]])]
theorem fn54 (n : Nat) (hn : n ≤ 10) (g : Nat) (fi ca : List AV) (f : List Int → Int) (ok : List Int → Bool) (hf : ∀ x, Srt n 0 x → -1099511627776000 ≤ f x ∧ f x ≤ 11258999068426240)
    (hg : ∀ x, Srt n 0 x → Sy.Fn Try.prog g (fi ++ [uv (msk x)] ++ ca) (.tup [iv (f x), bv (ok x)])) : Sy.Fn Try.prog 54 [.clo 114 [] [.fp [iv n] 0], .clo g fi ca] (.tup [uv (bS (leastL f ok (setsM n))), iv (bC (leastL f ok (setsM n))), bv (bF (leastL f ok (setsM n)))]) := by
  refine Fn_of_W mixed Xt54 rfl ?_
  repeat' (first | refine w1g ?_ | refine w1l ?_ | refine w1q ?_ | refine w1b ?_ | refine w1p ?_ | ((first | refine w1r ?_ | refine w1k ?_ | refine w1e ?_); (refine sy1 ?_; try exact True.intro)) | refine an2 ?_ | fail)
  refine W_rfn (.inl rfl) (fun lp R hR => Inl_of_W mixed Xt114 rfl (fun vs => ?_))
  (refine sy1 ?_; try exact True.intro)
  repeat' (first | refine w1g ?_ | refine w1l ?_ | refine w1q ?_ | refine w1b ?_ | refine w1p ?_ | ((first | refine w1r ?_ | refine w1k ?_ | refine w1e ?_); (refine sy1 ?_; try exact True.intro)) | refine an2 ?_ | fail)
  have HY : ∀ b x, Srt n 0 x → ∀ tm R' nx, Opq 12 R' nx → Yl Try.prog lp [uv (msk x)] ⟨tm, memL n g fi ca vs lp R b ++ R', nx⟩ (MidB 12 nx tm R' (fun r B' => r = true ∧ B' = memL n g fi ca vs lp R (lstep f ok b x))) := fun b x hx tm R' nx hO => by
    refine Yl_mid mixed (k := 5) (tml := tmL n g fi ca) hR rfl rfl rfl hO (bas_of rfl) (fun R2 nx2 hO2 => ?_)
    have cg := hg x hx
    unfold memL tmL
    simp (maxSteps := 400000) (disch := omega) only [push_cast, ↓reduceIte, reduceCtorEq, Nat.reduceAdd, Nat.reduceSub, Nat.reduceEqDiff, Nat.reduceLeDiff, Nat.reduceLT, Nat.reduceBEq, Nat.reduceDiv, Nat.reduceMod, Nat.reducePow, Nat.reduceMul, Int.reduceToNat, Int.reduceLT, Int.reduceLE, List.cons_append, List.nil_append]
    repeat' (first | refine w1g ?_ | refine w1l ?_ | refine w1q ?_ | refine w1b ?_ | refine w1p ?_ | ((first | refine w1r ?_ | refine w1k ?_ | refine w1e ?_); (refine sy1 ?_; try exact True.intro)) | refine an2 ?_ | fail)
    refine ⟨[_, _, _, _, _, _], _, rfl, rfl, ?_⟩
    (refine sy1 ?_; try exact True.intro)
    repeat' (first | refine w1g ?_ | refine w1l ?_ | refine w1q ?_ | refine w1b ?_ | refine w1p ?_ | ((first | refine w1r ?_ | refine w1k ?_ | refine w1e ?_ | refine CallC.now (cg) ?_); (refine sy1 ?_; try exact True.intro)) | refine an2 ?_ | fail)
    refine W_cond (by rfl) (fun hb => ?_) (fun hb => ?_)
    · have e : lstep f ok b x = some (x, f x) := by
        simp only [Bool.and_eq_true, Bool.or_eq_true, Bool.not_eq_true', decide_eq_true_eq] at hb
        exact lstep_yes hb.1 hb.2
      rw [e]
      repeat' (first | refine w1g ?_ | refine w1l ?_ | refine w1q ?_ | refine w1b ?_ | refine w1p ?_ | ((first | refine w1r ?_ | refine w1k ?_ | refine w1e ?_); (refine sy1 ?_; try exact True.intro)) | refine an2 ?_ | fail)
      refine ⟨[_, _, _, _, _, _], _, rfl, bas_of rfl, rfl, rfl, rfl⟩
    · have e : lstep f ok b x = b := by
        refine lstep_no ?_
        cases h1 : ok x
        · exact .inl rfl
        · right
          rw [h1] at hb
          simp only [Bool.true_and, Bool.or_eq_false_iff, Bool.not_eq_false', decide_eq_false_iff_not] at hb
          exact ⟨hb.1, by omega⟩
      rw [e]
      repeat' (first | refine w1g ?_ | refine w1l ?_ | refine w1q ?_ | refine w1b ?_ | refine w1p ?_ | ((first | refine w1r ?_ | refine w1k ?_ | refine w1e ?_); (refine sy1 ?_; try exact True.intro)) | refine an2 ?_ | fail)
      refine ⟨[_, _, _, _, _, _], _, rfl, bas_of rfl, rfl, rfl, rfl⟩
  refine CallC.inl (Inl_le' (walk_inl n hn (memL n g fi ca vs lp R) (lstep f ok) 12 8 lp (fun b => bas_of rfl) (fun b => rfl) HY n 0 [] (by omega) trivial (fun y hy => by cases hy) none _ [] 12 (opq_nil 12)) (fun r s' hs => ?_))
  obtain ⟨B', _, ⟨rfl, rfl⟩, hl2⟩ := hs
  refine ⟨_, ?_, hl2⟩
  have el : (([] : List Int) :: brn n [] 0).foldl (lstep f ok) none = leastL f ok (setsM n) := rfl
  rw [el, List.append_nil]
  generalize leastL f ok (setsM n) = X
  unfold memL tmL
  (refine sy1 ?_; try exact True.intro)
  refine ⟨_, _, rfl, rfl, ⟨_, _, rfl, by rw [hR.st]; simp, ?_⟩⟩
  rw [hR.pe]
  simp (maxSteps := 400000) (disch := omega) only [push_cast, ↓reduceIte, reduceCtorEq, Nat.reduceAdd, Nat.reduceSub, Nat.reduceEqDiff, Nat.reduceLeDiff, Nat.reduceLT, Nat.reduceBEq, Nat.reduceDiv, Nat.reduceMod, Nat.reducePow, Nat.reduceMul, Int.reduceToNat, Int.reduceLT, Int.reduceLE, EndP]
  repeat' (first | refine w1g ?_ | refine w1l ?_ | refine w1q ?_ | refine w1b ?_ | refine w1p ?_ | ((first | refine w1r ?_ | refine w1k ?_ | refine w1e ?_); (refine sy1 ?_; try exact True.intro)) | refine an2 ?_ | fail)
  exact W_ret ⟨[_, _, _], ⟨⟨by simp, rfl⟩, ⟨by simp, rfl⟩, ⟨by simp, rfl⟩, rfl⟩, rfl⟩
end Go.Proofs.Ytfbdlmenhoagmaa

namespace Go.Proofs.Ytfbdlmenhoagmaa
open Go Sy
set_option maxRecDepth 100000
set_option maxHeartbeats 4000000
set_option linter.unusedVariables false
set_option linter.unusedSimpArgs false
theorem setW_msk {m : Mp} {l : List Int} (h : Srt m.ws.length 0 l) : SetW m l (msk l) := ⟨msk_bits fun x hx => (h.mem x hx).1, h⟩
theorem fn117 (l : List Int) (n : Nat) (hn : n ≤ 10) (hs : Srt n 0 l) : Sy.Fn Try.prog 117 [.v (.slice none 0 0), .clo 118 [] [.fp [uv (msk l)] 0]] (aI l) := by
  refine Fn_of_W mixed Xt117 rfl ?_
  obtain ⟨s, hsm⟩ : ∃ s, s = msk l := ⟨_, rfl⟩
  have hb : BitsOf s l := by rw [hsm]; exact msk_bits fun x hx => (hs.mem x hx).1
  have hs1 : s < 1024 := by rw [hsm]; exact msk_lt hs (by omega)
  rw [← hsm]
  repeat' (first | refine w1g ?_ | refine w1l ?_ | refine w1q ?_ | refine w1b ?_ | refine w1p ?_ | ((first | refine w1r ?_ | refine w1k ?_ | refine w1e ?_); (refine sy1 ?_; try exact True.intro)) | refine an2 ?_ | fail)
  refine W_rfn (.inl rfl) (fun lp R hR => Inl_of_W mixed Xt118 rfl (fun vs => ?_))
  (refine sy1 ?_; try exact True.intro)
  repeat' (first | refine w1g ?_ | refine w1l ?_ | refine w1q ?_ | refine w1b ?_ | refine w1p ?_ | ((first | refine w1r ?_ | refine w1k ?_ | refine w1e ?_); (refine sy1 ?_; try exact True.intro)) | refine an2 ?_ | fail)
  refine W_le (le_adoptC 0 0 3 1 (0 : Int) cI (by omega) _ rfl rfl (by simp)) ?_
  (refine sy1 ?_; try exact True.intro)
  refine W_loopU (fun i : Nat => [(3, iv i)]) (fun i => [(0, .cells [.row 6 (pre l i).length]), (6, .row (pre l i).length 3 1 0 cI (pre l i))]) (fun i => i ≤ 10) (fun i => 11 - i) 0 (by omega) (by rfl) (by rw [pre_zero hs]; rfl) (fun i hi => ?_)
  obtain ⟨q, hq⟩ : ∃ q, q = s / 2 ^ i := ⟨_, rfl⟩
  have e1 := shrS s (i := i) (by omega)
  have e2 := andS (s / 2 ^ i) (div_lt64 hs1 i)
  rw [bits_shr hb i] at e2
  rw [← hq] at e1 e2
  have e4 := pre_succ (i := i) hs
  have hlen : (pre l i).length ≤ 10 := by
    have h1 := hs.len (by omega)
    have h2 := List.length_filter_le (fun x => decide (x < (i : Int))) l
    unfold pre
    omega
  (refine sy1 ?_; try exact True.intro)
  repeat' (first | refine w1g ?_ | refine w1l ?_ | refine w1q ?_ | refine w1b ?_ | refine w1p ?_ | ((first | refine w1r ?_ | refine w1k ?_ | refine w1e ?_); simp (maxSteps := 400000) (disch := omega) only [push_cast, ↓reduceIte, reduceCtorEq, Nat.reduceAdd, Nat.reduceSub, Nat.reduceEqDiff, Nat.reduceLeDiff, Nat.reduceLT, Nat.reduceBEq, Nat.reduceDiv, Nat.reduceMod, Nat.reducePow, Nat.reduceMul, Int.reduceToNat, Int.reduceLT, Int.reduceLE, e1]) | refine an2 ?_ | fail)
  refine W_cond (by rfl) (fun hb2 => ?_) (fun hb2 => ?_)
  · have hi10 : i < 10 := bits_more hb (by rw [← hq]; intro z; rw [z] at hb2; simp at hb2) (fun x hx => by have := (hs.mem x hx).2; omega)
    by_cases hm : (i : Int) ∈ l
    · rw [if_pos hm] at e2 e4
      have e2 : bits .and .u64 (q : Int) 1 = 1 := e2
      repeat' (first | refine w1g ?_ | refine w1l ?_ | refine w1q ?_ | refine w1b ?_ | refine w1p ?_ | ((first | refine w1r ?_ | refine w1k ?_ | refine w1e ?_); simp (maxSteps := 400000) (disch := omega) only [push_cast, ↓reduceIte, reduceCtorEq, Nat.reduceAdd, Nat.reduceSub, Nat.reduceEqDiff, Nat.reduceLeDiff, Nat.reduceLT, Nat.reduceBEq, Nat.reduceDiv, Nat.reduceMod, Nat.reducePow, Nat.reduceMul, Int.reduceToNat, Int.reduceLT, Int.reduceLE, e1, e2]) | refine an2 ?_ | fail)
      refine StopC.yld (fun hpc => ⟨trivial, Yl_of_W (k := 3) mixed hR rfl rfl rfl (fun vs2 => ?_)⟩) (fun hpc => absurd (by simp [pc]) hpc)
      (refine sy1 ?_; try exact True.intro)
      repeat' (first | refine w1g ?_ | refine w1l ?_ | refine w1q ?_ | refine w1b ?_ | refine w1p ?_ | ((first | refine w1r ?_ | refine w1k ?_ | refine w1e ?_); (refine sy1 ?_; try exact True.intro)) | refine an2 ?_ | fail)
      refine ⟨_, rfl, ?_⟩
      (refine sy1 ?_; try exact True.intro)
      repeat' (first | refine w1g ?_ | refine w1l ?_ | refine w1q ?_ | refine w1b ?_ | refine w1p ?_ | ((first | refine w1r ?_ | refine w1k ?_ | refine w1e ?_); (refine sy1 ?_; try exact True.intro)) | refine an2 ?_ | fail)
      refine ⟨rfl, trivial, Int, 0, cI, [(i : Int)], rfl, by omega, fun x _ => ⟨rfl, rfl⟩, rfl, ?_⟩
      (refine sy1 ?_; try exact True.intro)
      refine ⟨rfl, ⟨Nat.le_of_ble_eq_true rfl, rfl⟩, trivial, [(i : Int)], rfl, by first | omega | (simp; omega), by first | omega | (simp; omega), ?_⟩
      (refine sy1 ?_; try exact True.intro)
      refine ⟨_, _, rfl, rfl, ?_⟩
      (refine sy1 ?_; try exact True.intro)
      refine W_cond (by rfl) (fun h => by cases h) (fun _ => ?_)
      repeat' (first | refine w1g ?_ | refine w1l ?_ | refine w1q ?_ | refine w1b ?_ | refine w1p ?_ | ((first | refine w1r ?_ | refine w1k ?_ | refine w1e ?_); (refine sy1 ?_; try exact True.intro)) | refine an2 ?_ | fail)
      refine ⟨i + 1, by omega, by omega, by rfl, ?_⟩
      rw [e4, List.length_append]
      (refine syE ?_; try exact True.intro)
    · rw [if_neg hm] at e2 e4
      have e2 : bits .and .u64 (q : Int) 1 = 0 := e2
      have z01 : ((0 : Int) == 1) = false := rfl
      repeat' (first | refine w1g ?_ | refine w1l ?_ | refine w1q ?_ | refine w1b ?_ | refine w1p ?_ | ((first | refine w1r ?_ | refine w1k ?_ | refine w1e ?_); simp (maxSteps := 400000) (disch := omega) only [push_cast, ↓reduceIte, reduceCtorEq, Nat.reduceAdd, Nat.reduceSub, Nat.reduceEqDiff, Nat.reduceLeDiff, Nat.reduceLT, Nat.reduceBEq, Nat.reduceDiv, Nat.reduceMod, Nat.reducePow, Nat.reduceMul, Int.reduceToNat, Int.reduceLT, Int.reduceLE, e1, e2, z01]) | refine an2 ?_ | fail)
      refine StopC.yld (fun hpc => absurd hpc (by simp [pc])) (fun hpc => ?_)
      (refine sy1 ?_; try exact True.intro)
      repeat' (first | refine w1g ?_ | refine w1l ?_ | refine w1q ?_ | refine w1b ?_ | refine w1p ?_ | ((first | refine w1r ?_ | refine w1k ?_ | refine w1e ?_); (refine sy1 ?_; try exact True.intro)) | refine an2 ?_ | fail)
      refine W_cond (by rfl) (fun h => by cases h) (fun _ => ?_)
      repeat' (first | refine w1g ?_ | refine w1l ?_ | refine w1q ?_ | refine w1b ?_ | refine w1p ?_ | ((first | refine w1r ?_ | refine w1k ?_ | refine w1e ?_); (refine sy1 ?_; try exact True.intro)) | refine an2 ?_ | fail)
      refine ⟨i + 1, by omega, by omega, by rfl, ?_⟩
      rw [e4, List.append_nil]
      (refine syE ?_; try exact True.intro)
  · have hq0 : s / 2 ^ i = 0 := by
      rw [← hq]
      have := bne_eq_false_iff_eq.1 hb2
      omega
    have hall := pre_all (bits_end hb (fun x hx => (hs.mem x hx).1) hq0)
    rw [hall]
    repeat' (first | refine w1g ?_ | refine w1l ?_ | refine w1q ?_ | refine w1b ?_ | refine w1p ?_ | ((first | refine w1r ?_ | refine w1k ?_ | refine w1e ?_); (refine sy1 ?_; try exact True.intro)) | refine an2 ?_ | fail)
    refine ⟨_, _, rfl, rfl, ⟨_, _, rfl, by rw [hR.st]; simp, ?_⟩⟩
    rw [hR.pe]
    simp (maxSteps := 400000) (disch := omega) only [push_cast, ↓reduceIte, reduceCtorEq, Nat.reduceAdd, Nat.reduceSub, Nat.reduceEqDiff, Nat.reduceLeDiff, Nat.reduceLT, Nat.reduceBEq, Nat.reduceDiv, Nat.reduceMod, Nat.reducePow, Nat.reduceMul, Int.reduceToNat, Int.reduceLT, Int.reduceLE, EndP]
    repeat' (first | refine w1g ?_ | refine w1l ?_ | refine w1q ?_ | refine w1b ?_ | refine w1p ?_ | ((first | refine w1r ?_ | refine w1k ?_ | refine w1e ?_); (refine sy1 ?_; try exact True.intro)) | refine an2 ?_ | fail)
    refine W_ret ⟨[_], ⟨rfl, rfl⟩, ?_⟩
    simp (maxSteps := 400000) (disch := omega) only [push_cast, ↓reduceIte, reduceCtorEq, Nat.reduceAdd, Nat.reduceSub, Nat.reduceEqDiff, Nat.reduceLeDiff, Nat.reduceLT, Nat.reduceBEq, Nat.reduceDiv, Nat.reduceMod, Nat.reducePow, Nat.reduceMul, Int.reduceToNat, Int.reduceLT, Int.reduceLE, pack]
theorem fn60 (l : List Int) (n : Nat) (hn : n ≤ 10) (hs : Srt n 0 l) : Sy.Fn Try.prog 60 [.clo 118 [] [.fp [uv (msk l)] 0]] (aI l) := by
  refine Fn_of_W mixed Xt60 rfl ?_
  repeat' (first | refine w1g ?_ | refine w1l ?_ | refine w1q ?_ | refine w1b ?_ | refine w1p ?_ | ((first | refine w1r ?_ | refine w1k ?_ | refine w1e ?_ | refine CallC.now (fn117 l n hn hs) ?_); (refine sy1 ?_; try exact True.intro)) | refine an2 ?_ | fail)
  exact W_ret ⟨[_], ⟨rfl, rfl⟩, rfl⟩
def cU (m : Mp) (f : Nat → Int) (s : List Int) (i : Nat) : Int := (edB m (usB m f s) i).c
theorem cU_rng {m : Mp} (h : OkM m) (f : Nat → Int) (s : List Int) {i : Nat} (hi : i < m.rs.length) : (0 ≤ cU m f s i → 1 ≤ cU m f s i) ∧ -1 ≤ cU m f s i ∧ cU m f s i ≤ 1073741824 := by
  have hr := (roadB_ok (h.r i hi)).c
  unfold cU edB
  dsimp only
  split <;> omega
def dL (m : Mp) (f : Nat → Int) (s : List Int) (to : Int) : List Int := dstC m true (cU m f s) to
theorem dL_fn (m : Mp) (f : Nat → Int) (s : List Int) (to : Int) (bk : Bool) (h : OkM m) (hs : Srt m.ws.length 0 s) (ht : 0 ≤ to ∧ to < m.n) : Sy.Fn Try.prog 57 [aAt m f, iv to, bv bk, .clo 116 [] [.fp (cAt m f) 0, .fp [uv (msk s)] 0]] (aI (dstC m bk (cU m f s) to)) :=
  fn57 m f to bk 116 [] _ (cU m f s) h ht (fun i hi => (cU_rng h f s hi).1) (fun i hi => by have := (cU_rng h f s hi).2; omega) (fun i hi => fn116 m f s (msk s) i h (setW_msk hs) hi)
theorem dL_dst {m : Mp} (h : OkM m) (f : Nat → Int) (s : List Int) (bk : Bool) {to : Int} (ht : 0 ≤ to ∧ to < m.n) : Dst (edgC m bk (cU m f s)) to.toNat m.n.toNat (dstC m bk (cU m f s) to) ∧ Fix (edgC m bk (cU m f s)) (dstC m bk (cU m f s) to) := by
  obtain ⟨k1, k2⟩ := edgC_ok h bk (c := cU m f s) (fun i hi => (cU_rng h f s hi).1)
  exact ⟨dst_dst k1 (by omega), dst_fix k1 k2 (by omega)⟩
theorem dL_rng {m : Mp} (h : OkM m) (f : Nat → Int) (s : List Int) (bk : Bool) {to : Int} (ht : 0 ≤ to ∧ to < m.n) {y : Nat} (hy : y < m.n.toNat) : 0 ≤ gi (dstC m bk (cU m f s) to) y ∧ gi (dstC m bk (cU m f s) to) y ≤ 1125899906842624 := (dL_dst h f s bk ht).1.le hy
theorem dL_len {m : Mp} (h : OkM m) (f : Nat → Int) (s : List Int) (bk : Bool) {to : Int} (ht : 0 ≤ to ∧ to < m.n) : (dstC m bk (cU m f s) to).length = m.n.toNat := (dL_dst h f s bk ht).1.len
def cfS (m : Mp) (f : Nat → Int) (fr to : Int) (s : List Int) : Int := gi (dL m f s to) fr.toNat + costL m s
def okS (m : Mp) (f : Nat → Int) (fr to : Int) (s : List Int) : Bool := decide (gi (dL m f s to) fr.toNat < 1125899906842624)
theorem costL_set {m : Mp} (h : OkM m) {s : List Int} (hs : Srt m.ws.length 0 s) : 0 ≤ costL m s ∧ costL m s ≤ 10737418240 := by
  have h1 := costL_rng h (l := s) (fun x hx => hs.mem x hx)
  have h2 := hs.len (by omega)
  have := h.nw
  have h3 : (s.length : Int) * 1073741824 ≤ 10 * 1073741824 := by omega
  omega
theorem fn56 (m : Mp) (f : Nat → Int) (fr to : Int) (s : List Int) (h : OkM m) (hs : Srt m.ws.length 0 s) (ht : 0 ≤ to ∧ to < m.n) (hf : 0 ≤ fr ∧ fr < m.n) : Sy.Fn Try.prog 56 [uv (msk s), .fp (cAt m f) 0, .fp [iv to] 0, .fp [iv fr] 0] (.tup [iv (cfS m f fr to s), bv (okS m f fr to s)]) := by
  refine Fn_of_W mixed Xt56 rfl ?_
  have c57 := dL_fn m f s to true h hs ht
  have c59 := fn59 m f s (msk s) h (setW_msk hs)
  have hr := dL_rng h f s true ht (y := fr.toNat) (by omega)
  have hl := dL_len h f s true ht
  have hc := costL_set h hs
  unfold cfS okS
  have e : dL m f s to = dstC m true (cU m f s) to := rfl
  rw [e]
  generalize dstC m true (cU m f s) to = D at *
  have gI : ∀ (l : List Int) i, l.getD i 0 = gi l i := fun _ _ => rfl
  repeat' (first | refine w1g ?_ | refine w1l ?_ | refine w1q ?_ | refine w1b ?_ | refine w1p ?_ | ((first | refine w1r ?_ | refine w1k ?_ | refine w1e ?_ | refine CallC.now (fn58 m f (msk s)) ?_ | refine CallC.now (c57) ?_ | refine CallC.now (c59) ?_); simp (maxSteps := 400000) (disch := omega) only [push_cast, ↓reduceIte, reduceCtorEq, Nat.reduceAdd, Nat.reduceSub, Nat.reduceEqDiff, Nat.reduceLeDiff, Nat.reduceLT, Nat.reduceBEq, Nat.reduceDiv, Nat.reduceMod, Nat.reducePow, Nat.reduceMul, Int.reduceToNat, Int.reduceLT, Int.reduceLE, gI]) | refine an2 ?_ | fail)
  exact W_ret ⟨[_, _], ⟨rfl, rfl, rfl⟩, rfl⟩
end Go.Proofs.Ytfbdlmenhoagmaa

namespace Go.Proofs.Ytfbdlmenhoagmaa
open Go Sy
set_option linter.unusedVariables false
def fstN (p : Nat → Bool) : Nat → Nat → Nat
  | 0, i => i
  | k + 1, i => if p i = true then i else fstN p k (i + 1)
theorem fst_eq {p : Nat → Bool} : ∀ (k i j : Nat), i ≤ j → j < i + k → p j = true → (∀ x, i ≤ x → x < j → p x = false) → fstN p k i = j
  | 0, i, j, h1, h2, _, _ => by omega
  | k + 1, i, j, h1, h2, h3, h4 => by
    simp only [fstN]
    by_cases q : p i = true
    · rw [if_pos q]
      apply Classical.byContradiction
      intro z
      rw [h4 i (Nat.le_refl _) (by omega)] at q
      cases q
    · rw [if_neg q]
      have : i ≠ j := fun e => q (e ▸ h3)
      exact fst_eq k (i + 1) j (by omega) (by omega) h3 (fun x hx hy => h4 x (by omega) hy)
theorem fst_ex {p : Nat → Bool} : ∀ (k i j : Nat), i ≤ j → j < i + k → p j = true → ∃ d, i ≤ d ∧ d < i + k ∧ p d = true ∧ (∀ x, i ≤ x → x < d → p x = false)
  | 0, i, j, h1, h2, _ => by omega
  | k + 1, i, j, h1, h2, h3 => by
    by_cases q : p i = true
    · exact ⟨i, Nat.le_refl _, by omega, q, fun x hx hy => by omega⟩
    · have : i ≠ j := fun e => q (e ▸ h3)
      obtain ⟨d, h4, h5, h6, h7⟩ := fst_ex k (i + 1) j (by omega) (by omega) h3
      refine ⟨d, by omega, by omega, h6, fun x hx hy => ?_⟩
      by_cases e : x = i
      · rw [e]; simpa using q
      · exact h7 x (by omega) hy
def pB (left : List Int) (a : Int) (r : Rd) : Bool := r.f == a && gi left a.toNat == r.c + gi left r.t.toNat
def hitB (m : Mp) (f : Nat → Int) (s left : List Int) (a : Int) (i : Nat) : Bool := usB m f s i && pB left a (gr m i)
def nxt (m : Mp) (f : Nat → Int) (s left : List Int) (a : Int) : Nat := fstN (hitB m f s left a) m.rs.length 0
def wayC (m : Mp) (f : Nat → Int) (s left : List Int) (to : Int) : Nat → Int → List Int
  | 0, _ => []
  | k + 1, a => if a = to then [] else (nxt m f s left a : Int) :: wayC m f s left to k (gr m (nxt m f s left a)).t
def minL (m : Mp) (l : List Int) : Int := l.foldl (fun n x => n + (gr m x.toNat).m) 0
theorem minL_snoc (m : Mp) (l : List Int) (x : Int) : minL m (l ++ [x]) = minL m l + (gr m x.toNat).m := by
  unfold minL; rw [List.foldl_append]; rfl
structure AtW (m : Mp) (f : Nat → Int) (s left : List Int) (to a : Int) : Prop where
  r : 0 ≤ a ∧ a < m.n
  l : 0 ≤ gi left a.toNat ∧ gi left a.toNat < 1125899906842624
theorem hit_ex {m : Mp} {f : Nat → Int} {s : List Int} {to a : Int} (h : OkM m) (ht : 0 ≤ to ∧ to < m.n) (ha : AtW m f s (dL m f s to) to a) (hne : a ≠ to) : ∃ i, i < m.rs.length ∧ hitB m f s (dL m f s to) a i = true := by
  obtain ⟨h1, h2⟩ := dL_dst h f s true ht
  obtain ⟨k1, k2⟩ := edgC_ok h true (c := cU m f s) (fun i hi => (cU_rng h f s hi).1)
  have hl := ha.l
  have hr := ha.r
  rcases last_road k1 h1 h2 (y := a.toNat) (by omega) hl.2 with q | ⟨e, he, h3, h4, h5⟩
  · omega
  · obtain ⟨i, hi, rfl⟩ := List.mem_map.1 he
    have hi := List.mem_range.1 hi
    have ok := roadB_ok (h.r i hi)
    refine ⟨i, hi, ?_⟩
    have e1 : (edC m true (cU m f s) i).y = (gr m i).f.toNat := rfl
    have e2 : (edC m true (cU m f s) i).x = (gr m i).t.toNat := rfl
    have e3 : (edC m true (cU m f s) i).c = cU m f s i := rfl
    rw [e1] at h3
    rw [e2, e3] at h5
    rw [e3] at h4
    have hu : usB m f s i = true := by
      apply Classical.byContradiction
      intro z
      have : cU m f s i = -1 := by unfold cU edB; simp [z]
      omega
    have hc : cU m f s i = (gr m i).c := by unfold cU edB; simp [hu]
    have hf := ok.f
    unfold hitB pB
    rw [hu, Bool.true_and, Bool.and_eq_true, beq_iff_eq, beq_iff_eq]
    refine ⟨by omega, ?_⟩
    rw [hc] at h5
    show gi (dstC m true (cU m f s) to) a.toNat = _ + gi (dstC m true (cU m f s) to) _
    omega
theorem hit_step {m : Mp} {f : Nat → Int} {s : List Int} {to a : Int} (h : OkM m) (ht : 0 ≤ to ∧ to < m.n) (ha : AtW m f s (dL m f s to) to a) {i : Nat} (hi : i < m.rs.length) (hh : hitB m f s (dL m f s to) a i = true) :
    usB m f s i = true ∧ (gr m i).f = a ∧ gi (dL m f s to) a.toNat = (gr m i).c + gi (dL m f s to) (gr m i).t.toNat ∧ AtW m f s (dL m f s to) to (gr m i).t ∧ rk (dL m f s to) m.n.toNat (gr m i).t.toNat < rk (dL m f s to) m.n.toNat a.toNat := by
  have ok := roadB_ok (h.r i hi)
  unfold hitB pB at hh
  rw [Bool.and_eq_true, Bool.and_eq_true, beq_iff_eq, beq_iff_eq] at hh
  obtain ⟨h1, h2, h3⟩ := hh
  have hl := ha.l
  have hc := ok.c
  have htr := ok.t
  have hb := dL_rng h f s true ht (y := (gr m i).t.toNat) (by omega)
  have hb : 0 ≤ gi (dL m f s to) (gr m i).t.toNat ∧ gi (dL m f s to) (gr m i).t.toNat ≤ 1125899906842624 := hb
  refine ⟨h1, h2, h3, ⟨htr, by omega⟩, rk_lt (by omega) (by omega)⟩
theorem nxt_spec {m : Mp} {f : Nat → Int} {s : List Int} {to a : Int} (h : OkM m) (ht : 0 ≤ to ∧ to < m.n) (ha : AtW m f s (dL m f s to) to a) (hne : a ≠ to) :
    nxt m f s (dL m f s to) a < m.rs.length ∧ hitB m f s (dL m f s to) a (nxt m f s (dL m f s to) a) = true ∧ ∀ j, j < nxt m f s (dL m f s to) a → hitB m f s (dL m f s to) a j = false := by
  obtain ⟨i, hi, hh⟩ := hit_ex h ht ha hne
  obtain ⟨d, h1, h2, h3, h4⟩ := fst_ex m.rs.length 0 i (by omega) (by omega) hh
  have e : nxt m f s (dL m f s to) a = d := fst_eq m.rs.length 0 d (by omega) (by omega) h3 h4
  rw [e]
  exact ⟨by omega, h3, fun j hj => h4 j (by omega) hj⟩
def bestS (m : Mp) (f : Nat → Int) (fr to : Int) : Option (List Int × Int) := leastL (cfS m f fr to) (okS m f fr to) (setsM m.ws.length)
def wayS (m : Mp) (f : Nat → Int) (fr to : Int) (s : List Int) : List Int := wayC m f s (dL m f s to) to m.n.toNat fr
def bE : Option (List Int × Int) → Int
  | none => 15
  | some _ => 0
def chV (m : Mp) (f : Nat → Int) (fr to : Int) : Option (List Int × Int) := if opE m f = 0 then (if plB m.n fr = true ∧ plB m.n to = true then bestS m f fr to else none) else none
def chE (m : Mp) (f : Nat → Int) (fr to : Int) : Int := if opE m f = 0 then (if plB m.n fr = true ∧ plB m.n to = true then bE (bestS m f fr to) else 3) else opE m f
theorem leastL_mem {g : List Int → Int} {ok : List Int → Bool} : ∀ (l : List (List Int)) (b : Option (List Int × Int)) {s : List Int} {n : Int}, l.foldl (lstep g ok) b = some (s, n) → b = some (s, n) ∨ (s ∈ l ∧ ok s = true ∧ n = g s)
  | [], b, s, n, h => .inl h
  | x :: l, b, s, n, h => by
    rcases leastL_mem l (lstep g ok b x) h with q | ⟨q1, q2, q3⟩
    · unfold lstep at q
      by_cases c : ok x = true
      · rw [if_pos c] at q
        rcases b with _ | ⟨y, k⟩
        · cases q; exact .inr ⟨List.mem_cons_self, c, rfl⟩
        · dsimp only at q
          split at q
          · cases q; exact .inr ⟨List.mem_cons_self, c, rfl⟩
          · exact .inl q
      · rw [if_neg c] at q
        exact .inl q
    · exact .inr ⟨List.mem_cons_of_mem _ q1, q2, q3⟩
theorem best_some {m : Mp} {f : Nat → Int} {fr to : Int} {s : List Int} {n : Int} (h : bestS m f fr to = some (s, n)) : s ∈ setsM m.ws.length ∧ Srt m.ws.length 0 s ∧ okS m f fr to s = true ∧ n = cfS m f fr to s := by
  rcases leastL_mem _ _ h with q | ⟨q1, q2, q3⟩
  · cases q
  · exact ⟨q1, sets_srt s q1, q2, q3⟩
end Go.Proofs.Ytfbdlmenhoagmaa

namespace Go.Proofs.Ytfbdlmenhoagmaa
open Go Sy
set_option maxRecDepth 100000
set_option maxHeartbeats 4000000
set_option linter.unusedVariables false
set_option linter.unusedSimpArgs false
theorem fn63 (left : List Int) (a : Int) (r : Rd) (ha : 0 ≤ a ∧ a < left.length) (ht : 0 ≤ r.t ∧ r.t < left.length) (hc : 1 ≤ r.c ∧ r.c ≤ 1073741824) (hl : 0 ≤ gi left r.t.toNat ∧ gi left r.t.toNat ≤ 1125899906842624) : Sy.Fn Try.prog 63 [.agg (cR r), .fp [iv a] 0, .fp [aI left] 0] (bv (pB left a r)) := by
  refine Fn_of_W mixed Xt63 rfl ?_
  have gI : ∀ (l : List Int) i, l.getD i 0 = gi l i := fun _ _ => rfl
  unfold pB
  cases hb : r.f == a
  · repeat' (first | refine w1g ?_ | refine w1l ?_ | refine w1q ?_ | refine w1b ?_ | refine w1p ?_ | ((first | refine w1r ?_ | refine w1k ?_ | refine w1e ?_); simp (maxSteps := 400000) (disch := omega) only [push_cast, ↓reduceIte, reduceCtorEq, Nat.reduceAdd, Nat.reduceSub, Nat.reduceEqDiff, Nat.reduceLeDiff, Nat.reduceLT, Nat.reduceBEq, Nat.reduceDiv, Nat.reduceMod, Nat.reducePow, Nat.reduceMul, Int.reduceToNat, Int.reduceLT, Int.reduceLE, gI, hb]) | refine an2 ?_ | fail)
    exact W_ret ⟨[_], ⟨rfl, rfl⟩, rfl⟩
  · repeat' (first | refine w1g ?_ | refine w1l ?_ | refine w1q ?_ | refine w1b ?_ | refine w1p ?_ | ((first | refine w1r ?_ | refine w1k ?_ | refine w1e ?_); simp (maxSteps := 400000) (disch := omega) only [push_cast, ↓reduceIte, reduceCtorEq, Nat.reduceAdd, Nat.reduceSub, Nat.reduceEqDiff, Nat.reduceLeDiff, Nat.reduceLT, Nat.reduceBEq, Nat.reduceDiv, Nat.reduceMod, Nat.reducePow, Nat.reduceMul, Int.reduceToNat, Int.reduceLT, Int.reduceLE, gI, hb]) | refine an2 ?_ | fail)
    exact W_ret ⟨[_], ⟨rfl, rfl⟩, rfl⟩
theorem fn65 (left : List Int) (a : Int) (r : Rd) (ha : 0 ≤ a ∧ a < left.length) (ht : 0 ≤ r.t ∧ r.t < left.length) (hc : 1 ≤ r.c ∧ r.c ≤ 1073741824) (hl : 0 ≤ gi left r.t.toNat ∧ gi left r.t.toNat ≤ 1125899906842624) : Sy.Fn Try.prog 65 [.agg (cR r), .fp [iv a] 0, .fp [aI left] 0] (bv (pB left a r)) := by
  refine Fn_of_W mixed Xt65 rfl ?_
  have gI : ∀ (l : List Int) i, l.getD i 0 = gi l i := fun _ _ => rfl
  unfold pB
  cases hb : r.f == a
  · repeat' (first | refine w1g ?_ | refine w1l ?_ | refine w1q ?_ | refine w1b ?_ | refine w1p ?_ | ((first | refine w1r ?_ | refine w1k ?_ | refine w1e ?_); simp (maxSteps := 400000) (disch := omega) only [push_cast, ↓reduceIte, reduceCtorEq, Nat.reduceAdd, Nat.reduceSub, Nat.reduceEqDiff, Nat.reduceLeDiff, Nat.reduceLT, Nat.reduceBEq, Nat.reduceDiv, Nat.reduceMod, Nat.reducePow, Nat.reduceMul, Int.reduceToNat, Int.reduceLT, Int.reduceLE, gI, hb]) | refine an2 ?_ | fail)
    exact W_ret ⟨[_], ⟨rfl, rfl⟩, rfl⟩
  · repeat' (first | refine w1g ?_ | refine w1l ?_ | refine w1q ?_ | refine w1b ?_ | refine w1p ?_ | ((first | refine w1r ?_ | refine w1k ?_ | refine w1e ?_); simp (maxSteps := 400000) (disch := omega) only [push_cast, ↓reduceIte, reduceCtorEq, Nat.reduceAdd, Nat.reduceSub, Nat.reduceEqDiff, Nat.reduceLeDiff, Nat.reduceLT, Nat.reduceBEq, Nat.reduceDiv, Nat.reduceMod, Nat.reducePow, Nat.reduceMul, Int.reduceToNat, Int.reduceLT, Int.reduceLE, gI, hb]) | refine an2 ?_ | fail)
    exact W_ret ⟨[_], ⟨rfl, rfl⟩, rfl⟩
def cRt (rs ws : List Int) (c mi : Int) : List AV := [aI rs, aI ws, iv c, iv mi]
def zRt : List AV := [.v (.slice none 0 0), .v (.slice none 0 0), iv 0, iv 0]
def rtC (m : Mp) (f : Nat → Int) (fr to : Int) : Option (List Int × Int) → List AV
  | none => zRt
  | some p => cRt (wayS m f fr to p.1) p.1 p.2 (minL m (wayS m f fr to p.1))
theorem fn15 (m : Mp) (f : Nat → Int) (fr to : Int) (hm : Gm m) : Sy.Fn Try.prog 15 [aM m, .agg (c6 f), iv fr, iv to] (.tup [.agg (rtC m f fr to (chV m f fr to)), iv (chE m f fr to)]) := by
  refine Fn_of_W mixed Xt15 rfl ?_
  have c52 := fn52 m f hm
  by_cases h0 : opE m f = 0
  rotate_left
  · have e1 : chV m f fr to = none := by unfold chV; rw [if_neg h0]
    have e2 : chE m f fr to = opE m f := by unfold chE; rw [if_neg h0]
    rw [e1, e2]
    have hv : opV m f = cAt m f ∨ opV m f = zAt := by
      unfold opV
      split
      · exact .inl rfl
      · exact .inr rfl
    generalize opE m f = e at *
    rcases hv with hv | hv
    all_goals
      rw [hv] at c52
      try unfold zAt at c52
      repeat' (first | refine w1g ?_ | refine w1l ?_ | refine w1q ?_ | refine w1b ?_ | refine w1p ?_ | ((first | refine w1r ?_ | refine w1k ?_ | refine w1e ?_ | refine CallC.now (c52) ?_); (refine sy1 ?_; try exact True.intro)) | refine an2 ?_ | fail)
      refine W_cond (by rfl) (fun h => ?_) (fun h => ?_)
      · repeat' (first | refine w1g ?_ | refine w1l ?_ | refine w1q ?_ | refine w1b ?_ | refine w1p ?_ | ((first | refine w1r ?_ | refine w1k ?_ | refine w1e ?_); (refine sy1 ?_; try exact True.intro)) | refine an2 ?_ | fail)
        exact W_ret ⟨[_, _], ⟨⟨by simp, rfl⟩, rfl, rfl⟩, rfl⟩
      · exact absurd (by simpa using h) h0
  have hchk : chkM m = 0 ∧ szE f = 0 := by
    unfold opE at h0
    by_cases q : chkM m = 0
    · rw [if_pos q] at h0; exact ⟨q, h0⟩
    · rw [if_neg q] at h0; exact absurd h0 q
  have hv : opV m f = cAt m f := by unfold opV; rw [if_pos hchk.1]
  have hok := chkM_ok hchk.1
  rw [hv, h0] at c52
  have c53 := fn53 m [fr, to] (by simp)
  have hpl : plsB m [fr, to] = (plB m.n fr && plB m.n to) := by simp [plsB]
  rw [hpl] at c53
  by_cases hp : plB m.n fr = true ∧ plB m.n to = true
  rotate_left
  · have e1 : chV m f fr to = none := by unfold chV; rw [if_pos h0, if_neg hp]
    have e2 : chE m f fr to = 3 := by unfold chE; rw [if_pos h0, if_neg hp]
    have e3 : (plB m.n fr && plB m.n to) = false := by rw [← Bool.not_eq_true, Bool.and_eq_true]; exact hp
    rw [e3] at c53
    rw [e1, e2]
    repeat' (first | refine w1g ?_ | refine w1l ?_ | refine w1q ?_ | refine w1b ?_ | refine w1p ?_ | ((first | refine w1r ?_ | refine w1k ?_ | refine w1e ?_ | refine CallC.now (c52) ?_); (refine sy1 ?_; try exact True.intro)) | refine an2 ?_ | fail)
    refine W_cond (by rfl) (fun h => by cases h) (fun h => ?_)
    repeat' (first | refine w1g ?_ | refine w1l ?_ | refine w1q ?_ | refine w1b ?_ | refine w1p ?_ | ((first | refine w1r ?_ | refine w1k ?_ | refine w1e ?_ | refine CallC.now (c53) ?_); (refine sy1 ?_; try exact True.intro)) | refine an2 ?_ | fail)
    refine ⟨rfl, trivial, Int, 0, cI, [fr, to], rfl, by omega, fun x _ => ⟨rfl, rfl⟩, rfl, ?_⟩
    (refine sy1 ?_; try exact True.intro)
    repeat' (first | refine w1g ?_ | refine w1l ?_ | refine w1q ?_ | refine w1b ?_ | refine w1p ?_ | ((first | refine w1r ?_ | refine w1k ?_ | refine w1e ?_ | refine CallC.go _ (fun _ => ⟨trivial, c53⟩) rfl ?_); (refine sy1 ?_; try exact True.intro)) | refine an2 ?_ | fail)
    refine W_cond (by rfl) (fun h => ?_) (fun h => by cases h)
    repeat' (first | refine w1g ?_ | refine w1l ?_ | refine w1q ?_ | refine w1b ?_ | refine w1p ?_ | ((first | refine w1r ?_ | refine w1k ?_ | refine w1e ?_); (refine sy1 ?_; try exact True.intro)) | refine an2 ?_ | fail)
    exact W_ret ⟨[_, _], ⟨⟨by simp, rfl⟩, rfl, rfl⟩, rfl⟩
  have hp1 : (0 ≤ fr ∧ fr < m.n) ∧ (0 ≤ to ∧ to < m.n) := by
    have := hp.1; have := hp.2
    unfold plB at *
    simp only [Bool.and_eq_true, decide_eq_true_eq] at *
    omega
  have e3 : (plB m.n fr && plB m.n to) = true := by rw [hp.1, hp.2]; rfl
  rw [e3] at c53
  have c54 := fn54 m.ws.length hok.nw 56 [] [.fp (cAt m f) 0, .fp [iv to] 0, .fp [iv fr] 0] (cfS m f fr to) (okS m f fr to) (fun x hx => by
    have h1 := costL_set hok hx
    have h2 := dL_rng hok f x true hp1.2 (y := fr.toNat) (by omega)
    have h2 : 0 ≤ gi (dL m f x to) fr.toNat ∧ gi (dL m f x to) fr.toNat ≤ 1125899906842624 := h2
    unfold cfS
    omega) (fun x hx => fn56 m f fr to x hok hx hp1.2 hp1.1)
  have e1 : chV m f fr to = bestS m f fr to := by unfold chV; rw [if_pos h0, if_pos hp]
  have e2 : chE m f fr to = bE (bestS m f fr to) := by unfold chE; rw [if_pos h0, if_pos hp]
  rw [e1, e2]
  have hbs : leastL (cfS m f fr to) (okS m f fr to) (setsM m.ws.length) = bestS m f fr to := rfl
  rw [hbs] at c54
  repeat' (first | refine w1g ?_ | refine w1l ?_ | refine w1q ?_ | refine w1b ?_ | refine w1p ?_ | ((first | refine w1r ?_ | refine w1k ?_ | refine w1e ?_ | refine CallC.now (c52) ?_); (refine sy1 ?_; try exact True.intro)) | refine an2 ?_ | fail)
  refine W_cond (by rfl) (fun h => by cases h) (fun h => ?_)
  repeat' (first | refine w1g ?_ | refine w1l ?_ | refine w1q ?_ | refine w1b ?_ | refine w1p ?_ | ((first | refine w1r ?_ | refine w1k ?_ | refine w1e ?_ | refine CallC.now (c53) ?_); (refine sy1 ?_; try exact True.intro)) | refine an2 ?_ | fail)
  refine ⟨rfl, trivial, Int, 0, cI, [fr, to], rfl, by omega, fun x _ => ⟨rfl, rfl⟩, rfl, ?_⟩
  (refine sy1 ?_; try exact True.intro)
  repeat' (first | refine w1g ?_ | refine w1l ?_ | refine w1q ?_ | refine w1b ?_ | refine w1p ?_ | ((first | refine w1r ?_ | refine w1k ?_ | refine w1e ?_ | refine CallC.go _ (fun _ => ⟨trivial, c53⟩) rfl ?_); (refine sy1 ?_; try exact True.intro)) | refine an2 ?_ | fail)
  refine W_cond (by rfl) (fun h => by cases h) (fun h => ?_)
  repeat' (first | refine w1g ?_ | refine w1l ?_ | refine w1q ?_ | refine w1b ?_ | refine w1p ?_ | ((first | refine w1r ?_ | refine w1k ?_ | refine w1e ?_ | refine CallC.now (fn55 _) ?_ | refine CallC.go _ (fun _ => ⟨trivial, c54⟩) rfl ?_); (refine sy1 ?_; try exact True.intro)) | refine an2 ?_ | fail)
  rcases hb : bestS m f fr to with _ | ⟨s, n⟩
  · refine W_cond (by rfl) (fun h => ?_) (fun h => by cases h)
    repeat' (first | refine w1g ?_ | refine w1l ?_ | refine w1q ?_ | refine w1b ?_ | refine w1p ?_ | ((first | refine w1r ?_ | refine w1k ?_ | refine w1e ?_); (refine sy1 ?_; try exact True.intro)) | refine an2 ?_ | fail)
    exact W_ret ⟨[_, _], ⟨⟨by simp, rfl⟩, rfl, rfl⟩, rfl⟩
  obtain ⟨b1, b2, b3, b4⟩ := best_some hb
  have c60 := fn60 s m.ws.length hok.nw b2
  have c57 := dL_fn m f s to true hok b2 hp1.2
  have hl := dL_len hok f s true hp1.2
  have hlr : ∀ y, y < m.n.toNat → 0 ≤ gi (dstC m true (cU m f s) to) y ∧ gi (dstC m true (cU m f s) to) y ≤ 1125899906842624 := fun y hy => dL_rng hok f s true hp1.2 hy
  have hd : dL m f s to = dstC m true (cU m f s) to := rfl
  rw [← hd] at c57 hl hlr
  have hA0 : AtW m f s (dL m f s to) to fr := ⟨hp1.1, (by have := hlr fr.toNat (by omega); omega), (by unfold okS at b3; rw [decide_eq_true_eq] at b3; exact b3)⟩
  refine W_cond (by rfl) (fun h => by cases h) (fun h => ?_)
  repeat' (first | refine w1g ?_ | refine w1l ?_ | refine w1q ?_ | refine w1b ?_ | refine w1p ?_ | ((first | refine w1r ?_ | refine w1k ?_ | refine w1e ?_ | refine CallC.now (fn61 _) ?_ | refine CallC.now (c60) ?_); (refine sy1 ?_; try exact True.intro)) | refine an2 ?_ | fail)
  repeat' (first | refine w1g ?_ | refine w1l ?_ | refine w1q ?_ | refine w1b ?_ | refine w1p ?_ | ((first | refine w1r ?_ | refine w1k ?_ | refine w1e ?_ | refine CallC.now (fn58 m f (msk s)) ?_ | refine CallC.now (c57) ?_); (refine sy1 ?_; try exact True.intro)) | refine an2 ?_ | fail)
  have hN := hok.n
  obtain ⟨left, hleft⟩ : ∃ left, left = dL m f s to := ⟨_, rfl⟩
  have hbC : bC (some (s, n)) = n := rfl
  have hbS : bS (some (s, n)) = msk s := rfl
  have hres : rtC m f fr to (some (s, n)) = cRt (wayS m f fr to s) s n (minL m (wayS m f fr to s)) := rfl
  have hway : wayS m f fr to s = wayC m f s left to m.n.toNat fr := by rw [hleft]; rfl
  have hres2 : bE (some (s, n)) = 0 := rfl
  rw [hres, hres2, hway]
  rw [hbC, hbS]
  rw [← hleft] at hl hlr hA0 ⊢
  refine W_le (le_adoptC 45 0 3 1 (0 : Int) cI (by omega) _ rfl rfl (by simp)) ?_
  (refine sy1 ?_; try exact True.intro)
  refine W_loopU (fun u : Nat × Int × List Int => []) (fun u => [(2, .cells [iv u.2.1]), (45, .cells [.row 55 u.2.2.length, aI s, iv n, iv (minL m u.2.2)]), (55, .row u.2.2.length 3 1 0 cI u.2.2)]) (fun u => AtW m f s left to u.2.1 ∧ rk left m.n.toNat u.2.1.toNat ≤ u.1 ∧ u.2.2 ++ wayC m f s left to u.1 u.2.1 = wayC m f s left to m.n.toNat fr ∧ u.2.2.length + u.1 ≤ 64 ∧ 0 ≤ minL m u.2.2 ∧ minL m u.2.2 ≤ 1440 * u.2.2.length) (fun u => u.1) (m.n.toNat, fr, []) ⟨hA0, rk_le _ _ _, List.nil_append _, by simp; omega, by simp [minL], by simp [minL]⟩ (by rfl) (by rfl) (fun u hu => ?_)
  obtain ⟨k, a, acc⟩ := u
  obtain ⟨q1, q2, q3, q4, q5, q6⟩ := hu
  dsimp only at q1 q2 q3 q4 q5 q6 ⊢
  (refine sy1 ?_; try exact True.intro)
  repeat' (first | refine w1g ?_ | refine w1l ?_ | refine w1q ?_ | refine w1b ?_ | refine w1p ?_ | ((first | refine w1r ?_ | refine w1k ?_ | refine w1e ?_); (refine sy1 ?_; try exact True.intro)) | refine an2 ?_ | fail)
  refine W_cond (by rfl) (fun hb => ?_) (fun hb => ?_)
  · have hne : a ≠ to := by rw [bne_iff_ne] at hb; exact hb
    rw [hleft] at q1 q2
    obtain ⟨x1, x2, x3⟩ := nxt_spec hok hp1.2 q1 hne
    obtain ⟨y1, y2, y3, y4, y5⟩ := hit_step hok hp1.2 q1 x1 x2
    rw [← hleft] at q1 q2 x1 x2 x3 y1 y2 y3 y4 y5
    have ha := q1.r
    have hcl : ∀ r ∈ m.rs, Sy.Fn Try.prog 63 ([] ++ [.agg (cR r)] ++ [.fp [iv a] 0, .fp [aI left] 0]) (bv (pB left a r)) := fun r hr => by
      obtain ⟨i, hi, rfl⟩ := List.mem_iff_getElem.1 hr
      have hri := roadB_ok (hok.r i hi)
      have e : gr m i = m.rs[i] := by simp [gr, List.getD, hi]
      rw [e] at hri
      have := hri.t
      exact fn63 left a _ (by rw [hl]; omega) (by rw [hl]; omega) hri.c (hlr _ (by omega))
    have hnr := hok.nr
    have c62 := fn62 m.rs (by omega) 63 [] [.fp [iv a] 0, .fp [aI left] 0] (pB left a) hcl
    obtain ⟨x, hx⟩ : ∃ x, x = nxt m f s left a := ⟨_, rfl⟩
    rw [← hx] at x1 x2 x3 y1 y2 y3 y4 y5
    have hpx : pB left a (gr m x) = true := by unfold hitB at x2; rw [Bool.and_eq_true] at x2; exact x2.2
    obtain ⟨i0, z1, z2, z3, z4⟩ := fst_ex (p := fun i => pB left a (gr m i)) m.rs.length 0 x (by omega) (by omega) hpx
    have hi0 : idxF (pB left a) m.rs 0 = (i0 : Int) := by
      rw [idxF_at (pB left a) dR m.rs i0 0 (by omega) (fun j hj => z4 j (by omega) hj) z3]; omega
    rw [hi0] at c62
    have hno : ∀ j, pB left a (gr m j) = false → hitB m f s left a j = false := fun j hj => by unfold hitB; rw [hj, Bool.and_false]
    repeat' (first | refine w1g ?_ | refine w1l ?_ | refine w1q ?_ | refine w1b ?_ | refine w1p ?_ | ((first | refine w1r ?_ | refine w1k ?_ | refine w1e ?_ | refine CallC.go _ (fun _ => ⟨trivial, c62⟩) rfl ?_); (refine sy1 ?_; try exact True.intro)) | refine an2 ?_ | fail)
    refine W_loopU (fun i : Nat => [(18, iv i)]) (fun i => []) (fun i => i < m.rs.length ∧ pB left a (gr m i) = true ∧ ∀ j, j < i → hitB m f s left a j = false) (fun i => m.rs.length - i) i0 ⟨by omega, z3, fun j hj => hno j (z4 j (by omega) hj)⟩ (by rfl) (by rfl) (fun i hi => ?_)
    obtain ⟨w1, w2, w3⟩ := hi
    have c64 := fn64 m f s (msk s) i hok (setW_msk b2) w1
    (refine sy1 ?_; try exact True.intro)
    repeat' (first | refine w1g ?_ | refine w1l ?_ | refine w1q ?_ | refine w1b ?_ | refine w1p ?_ | ((first | refine w1r ?_ | refine w1k ?_ | refine w1e ?_ | refine CallC.go _ (fun _ => ⟨trivial, c64⟩) rfl ?_); (refine sy1 ?_; try exact True.intro)) | refine an2 ?_ | fail)
    refine W_cond (by rfl) (fun hu => ?_) (fun hu => ?_)
    · have hu : usB m f s i = false := by simpa using hu
      have hix : i < x := by
        rcases Nat.lt_trichotomy i x with q | q | q
        · exact q
        · rw [← q, hu] at y1; cases y1
        · rw [w3 x q] at x2; cases x2
      obtain ⟨i1, v1, v2, v3, v4⟩ := fst_ex (p := fun i => pB left a (gr m i)) (m.rs.length - (i + 1)) (i + 1) x (by omega) (by omega) hpx
      have hgd : ∀ j, (m.rs.drop (i + 1)).getD j dR = gr m (i + 1 + j) := fun j => by simp [gr, List.getD]
      have c62 := fn62 (m.rs.drop (i + 1)) (by rw [List.length_drop]; omega) 65 [] [.fp [iv a] 0, .fp [aI left] 0] (pB left a) (fun r hr => by
        have hr := List.mem_of_mem_drop hr
        obtain ⟨i, hi, rfl⟩ := List.mem_iff_getElem.1 hr
        have hri := roadB_ok (hok.r i hi)
        have e : gr m i = m.rs[i] := by simp [gr, List.getD, hi]
        rw [e] at hri
        have := hri.t
        exact fn65 left a _ (by rw [hl]; omega) (by rw [hl]; omega) hri.c (hlr _ (by omega)))
      have hi1 : idxF (pB left a) (m.rs.drop (i + 1)) 0 = ((i1 - (i + 1) : Nat) : Int) := by
        rw [idxF_at (pB left a) dR (m.rs.drop (i + 1)) (i1 - (i + 1)) 0 (by rw [List.length_drop]; omega) (fun j hj => by rw [hgd]; exact v4 (i + 1 + j) (by omega) (by omega)) (by rw [hgd, show i + 1 + (i1 - (i + 1)) = i1 by omega]; exact v3)]; omega
      rw [hi1] at c62
      repeat' (first | refine w1g ?_ | refine w1l ?_ | refine w1q ?_ | refine w1b ?_ | refine w1p ?_ | ((first | refine w1r ?_ | refine w1k ?_ | refine w1e ?_ | refine CallC.go _ (fun _ => ⟨trivial, c62⟩) rfl ?_); (refine sy1 ?_; try exact True.intro)) | refine an2 ?_ | fail)
      refine ⟨i1, ⟨by omega, v3, fun j hj => ?_⟩, by omega, by rfl, ?_⟩
      · rcases Nat.lt_trichotomy j i with q | q | q
        · exact w3 j q
        · rw [q]; unfold hitB; rw [hu]; rfl
        · exact hno j (v4 j (by omega) hj)
      · have e : (i : Int) + (1 + ((i1 : Int) - ((i : Int) + 1))) = i1 := by omega
        simp (maxSteps := 400000) (disch := omega) only [push_cast, ↓reduceIte, reduceCtorEq, Nat.reduceAdd, Nat.reduceSub, Nat.reduceEqDiff, Nat.reduceLeDiff, Nat.reduceLT, Nat.reduceBEq, Nat.reduceDiv, Nat.reduceMod, Nat.reducePow, Nat.reduceMul, Int.reduceToNat, Int.reduceLT, Int.reduceLE, S.mk.injEq, List.cons.injEq, Prod.mk.injEq, AV.v.injEq, Value.int.injEq, Value.bool.injEq, Blk.cells.injEq, e]
    · have hu : usB m f s i = true := by simpa using hu
      have hhit : hitB m f s left a i = true := by unfold hitB; rw [hu, w2]; rfl
      have hix : i = x := by
        rcases Nat.lt_trichotomy i x with q | q | q
        · rw [x3 i q] at hhit; cases hhit
        · exact q
        · rw [w3 x q] at x2; cases x2
      subst hix
      have hgr : m.rs.getD i dR = gr m i := rfl
      have hm1 := (roadB_ok (hok.r i w1)).m
      have hms : minL m (acc ++ [(i : Int)]) = minL m acc + (gr m i).m := by rw [minL_snoc]; rfl
      obtain ⟨k', hk'⟩ : ∃ k', k = k' + 1 := ⟨k - 1, by omega⟩
      have hw1 : wayC m f s left to k a = (i : Int) :: wayC m f s left to k' (gr m i).t := by
        rw [hk']
        simp only [wayC]
        rw [if_neg hne, ← hx]
      repeat' (first | refine w1g ?_ | refine w1l ?_ | refine w1q ?_ | refine w1b ?_ | refine w1p ?_ | ((first | refine w1r ?_ | refine w1k ?_ | refine w1e ?_); (refine sy1 ?_; try exact True.intro)) | refine an2 ?_ | fail)
      refine ⟨rfl, trivial, Int, 0, cI, [(i : Int)], rfl, by omega, fun x _ => ⟨rfl, rfl⟩, rfl, ?_⟩
      (refine sy1 ?_; try exact True.intro)
      refine ⟨rfl, ⟨Nat.le_of_ble_eq_true rfl, rfl⟩, trivial, [(i : Int)], rfl, by first | omega | (simp; omega), by first | omega | (simp; omega), ?_⟩
      (refine sy1 ?_; try exact True.intro)
      repeat' (first | refine w1g ?_ | refine w1l ?_ | refine w1q ?_ | refine w1b ?_ | refine w1p ?_ | ((first | refine w1r ?_ | refine w1k ?_ | refine w1e ?_); simp (maxSteps := 400000) (disch := omega) only [push_cast, ↓reduceIte, reduceCtorEq, Nat.reduceAdd, Nat.reduceSub, Nat.reduceEqDiff, Nat.reduceLeDiff, Nat.reduceLT, Nat.reduceBEq, Nat.reduceDiv, Nat.reduceMod, Nat.reducePow, Nat.reduceMul, Int.reduceToNat, Int.reduceLT, Int.reduceLE, hgr]) | refine an2 ?_ | fail)
      refine ⟨(k', (gr m i).t, acc ++ [(i : Int)]), ⟨y4, by dsimp only; omega, ?_, ?_, ?_, ?_⟩, by dsimp only; omega, by rfl, ?_⟩
      · dsimp only
        rw [← q3, hw1, List.append_assoc]; rfl
      · dsimp only; rw [List.length_append]; simp only [List.length_singleton]; omega
      · dsimp only; rw [hms]; omega
      · dsimp only; rw [hms, List.length_append]; simp only [List.length_singleton]; omega
      · dsimp only
        rw [hms, List.length_append]
        (refine syE ?_; try exact True.intro)
  · have hat : a = to := by simpa using hb
    have hw1 : wayC m f s left to k a = [] := by
      cases k with
      | zero => rfl
      | succ k => simp only [wayC]; rw [if_pos hat]
    rw [hw1, List.append_nil] at q3
    rw [← q3]
    repeat' (first | refine w1g ?_ | refine w1l ?_ | refine w1q ?_ | refine w1b ?_ | refine w1p ?_ | ((first | refine w1r ?_ | refine w1k ?_ | refine w1e ?_); (refine sy1 ?_; try exact True.intro)) | refine an2 ?_ | fail)
    refine W_ret ⟨[_, _], ⟨⟨by simp, rfl⟩, rfl, rfl⟩, ?_⟩
    simp (maxSteps := 400000) (disch := omega) only [push_cast, ↓reduceIte, reduceCtorEq, Nat.reduceAdd, Nat.reduceSub, Nat.reduceEqDiff, Nat.reduceLeDiff, Nat.reduceLT, Nat.reduceBEq, Nat.reduceDiv, Nat.reduceMod, Nat.reducePow, Nat.reduceMul, Int.reduceToNat, Int.reduceLT, Int.reduceLE, pack]
    rfl
end Go.Proofs.Ytfbdlmenhoagmaa

namespace Go.Proofs.Ytfbdlmenhoagmaa
open Go Sy
set_option maxRecDepth 100000
set_option maxHeartbeats 4000000
set_option linter.unusedVariables false
set_option linter.unusedSimpArgs false
def lvT (r : Rd) (t : Int) : Int := (if t % 1440 < r.o then t + (r.o - t % 1440) else if r.z - r.m < t % 1440 then t + (1440 - t % 1440 + r.o) else t) + r.m
theorem lvT_rng {n : Int} {r : Rd} (h : OkR n r) (t : Int) (ht : 0 ≤ t) : t + 1 ≤ lvT r t ∧ lvT r t ≤ t + 4320 := by
  have := h.o; have := h.m
  unfold lvT
  have := Int.emod_nonneg t (show (1440 : Int) ≠ 0 by decide)
  have := Int.emod_lt_of_pos t (show (0 : Int) < 1440 by decide)
  split
  · omega
  · split <;> omega
theorem fn93 (n : Int) (r : Rd) (t : Int) (h : OkR n r) (ht : 0 ≤ t ∧ t ≤ 4398046511104) : Sy.Fn Try.prog 93 [.agg (cR r), iv t] (iv (lvT r t)) := by
  refine Fn_of_W mixed Xt93 rfl ?_
  have ho := h.o; have hm := h.m
  have e0 : t.tmod 1440 = t % 1440 := Int.tmod_eq_emod_of_nonneg ht.1
  have h1 := Int.emod_nonneg t (show (1440 : Int) ≠ 0 by decide)
  have h2 := Int.emod_lt_of_pos t (show (0 : Int) < 1440 by decide)
  unfold lvT
  generalize t % 1440 = w at *
  repeat' (first | refine w1g ?_ | refine w1l ?_ | refine w1q ?_ | refine w1b ?_ | refine w1p ?_ | ((first | refine w1r ?_ | refine w1k ?_ | refine w1e ?_); simp (maxSteps := 400000) (disch := omega) only [push_cast, ↓reduceIte, reduceCtorEq, Nat.reduceAdd, Nat.reduceSub, Nat.reduceEqDiff, Nat.reduceLeDiff, Nat.reduceLT, Nat.reduceBEq, Nat.reduceDiv, Nat.reduceMod, Nat.reducePow, Nat.reduceMul, Int.reduceToNat, Int.reduceLT, Int.reduceLE, e0]) | refine an2 ?_ | fail)
  refine W_condD (by rfl) (fun q => ?_) (fun q => ?_)
  · rw [if_pos q]
    repeat' (first | refine w1g ?_ | refine w1l ?_ | refine w1q ?_ | refine w1b ?_ | refine w1p ?_ | ((first | refine w1r ?_ | refine w1k ?_ | refine w1e ?_); (refine sy1 ?_; try exact True.intro)) | refine an2 ?_ | fail)
    exact W_ret ⟨[_], ⟨rfl, rfl⟩, rfl⟩
  · rw [if_neg q]
    repeat' (first | refine w1g ?_ | refine w1l ?_ | refine w1q ?_ | refine w1b ?_ | refine w1p ?_ | ((first | refine w1r ?_ | refine w1k ?_ | refine w1e ?_); (refine sy1 ?_; try exact True.intro)) | refine an2 ?_ | fail)
    refine W_condD (by rfl) (fun q => ?_) (fun q => ?_)
    · rw [if_pos q]
      repeat' (first | refine w1g ?_ | refine w1l ?_ | refine w1q ?_ | refine w1b ?_ | refine w1p ?_ | ((first | refine w1r ?_ | refine w1k ?_ | refine w1e ?_); (refine sy1 ?_; try exact True.intro)) | refine an2 ?_ | fail)
      exact W_ret ⟨[_], ⟨rfl, rfl⟩, rfl⟩
    · rw [if_neg q]
      repeat' (first | refine w1g ?_ | refine w1l ?_ | refine w1q ?_ | refine w1b ?_ | refine w1p ?_ | ((first | refine w1r ?_ | refine w1k ?_ | refine w1e ?_); (refine sy1 ?_; try exact True.intro)) | refine an2 ?_ | fail)
      exact W_ret ⟨[_], ⟨rfl, rfl⟩, rfl⟩
def arT (m : Mp) (l : List Int) (t : Int) : Int := l.foldl (fun t x => lvT (gr m x.toNat) t) t
def cnB (m : Mp) (l : List Int) (i : Nat) : Bool := decide (i = 0) || (gr m (gi l i).toNat).f == (gr m (gi l (i - 1)).toNat).t
def cnA (m : Mp) (l : List Int) : Bool := (List.range l.length).all (cnB m l)
def arE (m : Mp) (l : List Int) (t : Int) : Int := if chkM m = 0 then (if rdE m l = 0 then (if inR t 0 1099511627776 = true then (if cnA m l = true then 0 else 16) else 3) else rdE m l) else chkM m
def arV (m : Mp) (l : List Int) (t : Int) : Int := if arE m l t = 0 then arT m l t else 0
theorem arT_snoc (m : Mp) (l : List Int) (x t : Int) : arT m (l ++ [x]) t = lvT (gr m x.toNat) (arT m l t) := by
  unfold arT; rw [List.foldl_append]; rfl
theorem take_snoc {l : List Int} {i : Nat} (h : i < l.length) : l.take (i + 1) = l.take i ++ [gi l i] := by
  rw [List.take_succ_eq_append_getElem h]
  simp [gi, List.getD, h]
theorem rdE_ok {m : Mp} {l : List Int} (h : rdE m l = 0) : l.length ≤ 256 ∧ ∀ i, i < l.length → 0 ≤ gi l i ∧ gi l i < m.rs.length := by
  unfold rdE at h
  by_cases q : 256 < l.length
  · rw [if_pos q] at h; omega
  · rw [if_neg q] at h
    by_cases q2 : (l.any fun x => !plB m.rs.length x) = true
    · rw [if_pos q2] at h; omega
    · refine ⟨by omega, fun i hi => ?_⟩
      rw [List.any_eq_true] at q2
      have h1 : gi l i ∈ l := getD_mem 0 l i hi
      have h2 : ¬ (!plB m.rs.length (gi l i)) = true := fun z => q2 ⟨_, h1, z⟩
      unfold plB at h2
      simp only [Bool.not_eq_true', Bool.not_eq_false, Bool.and_eq_true, decide_eq_true_eq] at h2
      exact h2
theorem cnA_yes {m : Mp} {l : List Int} (h : ∀ i, i < l.length → cnB m l i = true) : cnA m l = true := by
  unfold cnA; rw [List.all_eq_true]; intro i hi; exact h i (List.mem_range.1 hi)
theorem cnA_no {m : Mp} {l : List Int} {i : Nat} (hi : i < l.length) (h : cnB m l i = false) : cnA m l = false := by
  unfold cnA
  rw [← Bool.not_eq_true, List.all_eq_true]
  intro q
  have := q i (List.mem_range.2 hi)
  rw [h] at this; cases this
theorem arT_rng {m : Mp} (h : OkM m) : ∀ (l : List Int) (t : Int), 0 ≤ t → (∀ x ∈ l, 0 ≤ x ∧ x < m.rs.length) → t ≤ arT m l t ∧ arT m l t ≤ t + 4320 * l.length
  | [], t, ht, _ => by simp [arT]
  | x :: l, t, ht, hx => by
    have h1 := hx x List.mem_cons_self
    have h2 := lvT_rng (roadB_ok (h.r x.toNat (by omega))) t ht
    have h3 := arT_rng h l (lvT (gr m x.toNat) t) (by omega) (fun y hy => hx y (List.mem_cons_of_mem _ hy))
    have e : arT m (x :: l) t = arT m l (lvT (gr m x.toNat) t) := rfl
    rw [e]
    simp only [List.length_cons]
    omega
theorem fn34 (m : Mp) (l : List Int) (t : Int) (hm : Gm m) (hl : l.length ≤ 1000000) : Sy.Fn Try.prog 34 [aM m, aI l, iv t] (.tup [iv (arV m l t), iv (arE m l t)]) := by
  refine Fn_of_W mixed Xt34 rfl ?_
  have c27 := fn27 m hm
  have c68 := fn68 m l hl
  by_cases h0 : chkM m = 0
  rotate_left
  · have e1 : arE m l t = chkM m := by unfold arE; rw [if_neg h0]
    have e2 : arV m l t = 0 := by unfold arV; rw [e1, if_neg h0]
    rw [e1, e2]
    generalize chkM m = e at *
    repeat' (first | refine w1g ?_ | refine w1l ?_ | refine w1q ?_ | refine w1b ?_ | refine w1p ?_ | ((first | refine w1r ?_ | refine w1k ?_ | refine w1e ?_ | refine CallC.now (c27) ?_); (refine sy1 ?_; try exact True.intro)) | refine an2 ?_ | fail)
    refine W_cond (by rfl) (fun h => ?_) (fun h => ?_)
    · repeat' (first | refine w1g ?_ | refine w1l ?_ | refine w1q ?_ | refine w1b ?_ | refine w1p ?_ | ((first | refine w1r ?_ | refine w1k ?_ | refine w1e ?_); (refine sy1 ?_; try exact True.intro)) | refine an2 ?_ | fail)
      exact W_ret ⟨[_, _], ⟨rfl, rfl, rfl⟩, rfl⟩
    · exact absurd (by simpa using h) h0
  have hok := chkM_ok h0
  rw [h0] at c27
  repeat' (first | refine w1g ?_ | refine w1l ?_ | refine w1q ?_ | refine w1b ?_ | refine w1p ?_ | ((first | refine w1r ?_ | refine w1k ?_ | refine w1e ?_ | refine CallC.now (c27) ?_); (refine sy1 ?_; try exact True.intro)) | refine an2 ?_ | fail)
  refine W_cond (by rfl) (fun h => by cases h) (fun _ => ?_)
  by_cases h1 : rdE m l = 0
  rotate_left
  · have e1 : arE m l t = rdE m l := by unfold arE; rw [if_pos h0, if_neg h1]
    have e2 : arV m l t = 0 := by unfold arV; rw [e1, if_neg h1]
    rw [e1, e2]
    generalize rdE m l = e at *
    repeat' (first | refine w1g ?_ | refine w1l ?_ | refine w1q ?_ | refine w1b ?_ | refine w1p ?_ | ((first | refine w1r ?_ | refine w1k ?_ | refine w1e ?_ | refine CallC.now (c68) ?_); (refine sy1 ?_; try exact True.intro)) | refine an2 ?_ | fail)
    refine W_cond (by rfl) (fun h => ?_) (fun h => ?_)
    · repeat' (first | refine w1g ?_ | refine w1l ?_ | refine w1q ?_ | refine w1b ?_ | refine w1p ?_ | ((first | refine w1r ?_ | refine w1k ?_ | refine w1e ?_); (refine sy1 ?_; try exact True.intro)) | refine an2 ?_ | fail)
      exact W_ret ⟨[_, _], ⟨rfl, rfl, rfl⟩, rfl⟩
    · exact absurd (by simpa using h) h1
  obtain ⟨hl2, hlr⟩ := rdE_ok h1
  rw [h1] at c68
  repeat' (first | refine w1g ?_ | refine w1l ?_ | refine w1q ?_ | refine w1b ?_ | refine w1p ?_ | ((first | refine w1r ?_ | refine w1k ?_ | refine w1e ?_ | refine CallC.now (c68) ?_); (refine sy1 ?_; try exact True.intro)) | refine an2 ?_ | fail)
  refine W_cond (by rfl) (fun h => by cases h) (fun _ => ?_)
  have e1 : arE m l t = if inR t 0 1099511627776 = true then (if cnA m l = true then 0 else 16) else 3 := by unfold arE; rw [if_pos h0, if_pos h1]
  repeat' (first | refine w1g ?_ | refine w1l ?_ | refine w1q ?_ | refine w1b ?_ | refine w1p ?_ | ((first | refine w1r ?_ | refine w1k ?_ | refine w1e ?_ | refine CallC.now (fn85 _ _ _) ?_); (refine sy1 ?_; try exact True.intro)) | refine an2 ?_ | fail)
  refine W_cond (by rfl) (fun h => ?_) (fun h => ?_)
  · have h : inR t 0 1099511627776 = false := by simpa using h
    rw [h] at e1
    have e2 : arV m l t = 0 := by unfold arV; rw [e1]; rfl
    rw [e1, e2]
    repeat' (first | refine w1g ?_ | refine w1l ?_ | refine w1q ?_ | refine w1b ?_ | refine w1p ?_ | ((first | refine w1r ?_ | refine w1k ?_ | refine w1e ?_); (refine sy1 ?_; try exact True.intro)) | refine an2 ?_ | fail)
    exact W_ret ⟨[_, _], ⟨rfl, rfl, rfl⟩, rfl⟩
  have h : inR t 0 1099511627776 = true := by simpa using h
  rw [if_pos h] at e1
  have ht := inR_iff.1 h
  repeat' (first | refine w1g ?_ | refine w1l ?_ | refine w1q ?_ | refine w1b ?_ | refine w1p ?_ | ((first | refine w1r ?_ | refine w1k ?_ | refine w1e ?_); (refine sy1 ?_; try exact True.intro)) | refine an2 ?_ | fail)
  refine W_loopU (fun i : Nat => [(10, iv (arT m (l.take i) t)), (30, iv i)]) (fun i => []) (fun i => i ≤ l.length ∧ ∀ j, j < i → cnB m l j = true) (fun i => l.length - i) 0 ⟨by omega, fun j hj => by omega⟩ (by rfl) (by rfl) (fun i hi => ?_)
  obtain ⟨hi, hall⟩ := hi
  (refine sy1 ?_; try exact True.intro)
  repeat' (first | refine w1g ?_ | refine w1l ?_ | refine w1q ?_ | refine w1b ?_ | refine w1p ?_ | ((first | refine w1r ?_ | refine w1k ?_ | refine w1e ?_); (refine sy1 ?_; try exact True.intro)) | refine an2 ?_ | fail)
  refine W_condD (by rfl) (fun h5 => ?_) (fun h5 => ?_)
  · have hlt : i < l.length := by omega
    have gI : ∀ (l : List Int) i, l.getD i 0 = gi l i := fun _ _ => rfl
    have gR : ∀ i, m.rs.getD i dR = gr m i := fun _ => rfl
    have b1 := hlr i hlt
    have b2 := hlr (i - 1) (by omega)
    have e3 : ((i : Int) - 1).toNat = i - 1 := by omega
    have ecn : cnB m l i = (decide (i = 0) || (gr m (gi l i).toNat).f == (gr m (gi l (i - 1)).toNat).t) := rfl
    have hat := arT_rng hok (l.take i) t (by omega) (fun x hx => by
      obtain ⟨j, hj, rfl⟩ := List.mem_iff_getElem.1 (List.mem_of_mem_take hx)
      have := hlr j hj
      simpa [gi, List.getD, hj] using this)
    have htl : (l.take i).length = i := by rw [List.length_take]; omega
    rw [htl] at hat
    have hsn : arT m (l.take (i + 1)) t = lvT (gr m (gi l i).toNat) (arT m (l.take i) t) := by rw [take_snoc hlt, arT_snoc]
    have c93 := fn93 m.n (gr m (gi l i).toNat) (arT m (l.take i) t) (roadB_ok (hok.r _ (by omega))) (by omega)
    generalize arT m (l.take i) t = T at *
    repeat' (first | refine w1g ?_ | refine w1l ?_ | refine w1q ?_ | refine w1b ?_ | refine w1p ?_ | ((first | refine w1r ?_ | refine w1k ?_ | refine w1e ?_); simp (maxSteps := 400000) (disch := omega) only [push_cast, ↓reduceIte, reduceCtorEq, Nat.reduceAdd, Nat.reduceSub, Nat.reduceEqDiff, Nat.reduceLeDiff, Nat.reduceLT, Nat.reduceBEq, Nat.reduceDiv, Nat.reduceMod, Nat.reducePow, Nat.reduceMul, Int.reduceToNat, Int.reduceLT, Int.reduceLE, gI, gR, e3]) | refine an2 ?_ | fail)
    refine W_cond (by rfl) (fun hb => ?_) (fun hb => ?_)
    · have hz : cnB m l i = false := by
        rw [ecn, Bool.or_eq_false_iff, decide_eq_false_iff_not, beq_eq_false_iff_ne]
        rw [Bool.and_eq_true, decide_eq_true_eq, bne_iff_ne] at hb
        exact ⟨by omega, hb.2⟩
      rw [cnA_no hlt hz] at e1
      have e2 : arV m l t = 0 := by unfold arV; rw [e1]; rfl
      rw [e1, e2]
      repeat' (first | refine w1g ?_ | refine w1l ?_ | refine w1q ?_ | refine w1b ?_ | refine w1p ?_ | ((first | refine w1r ?_ | refine w1k ?_ | refine w1e ?_); (refine sy1 ?_; try exact True.intro)) | refine an2 ?_ | fail)
      exact W_ret ⟨[_, _], ⟨rfl, rfl, rfl⟩, rfl⟩
    · have hz : cnB m l i = true := by
        rw [ecn, Bool.or_eq_true, decide_eq_true_eq, beq_iff_eq]
        rw [Bool.and_eq_false_iff, decide_eq_false_iff_not, bne_eq_false_iff_eq] at hb
        rcases hb with hb | hb
        · left; omega
        · exact .inr hb
      repeat' (first | refine w1g ?_ | refine w1l ?_ | refine w1q ?_ | refine w1b ?_ | refine w1p ?_ | ((first | refine w1r ?_ | refine w1k ?_ | refine w1e ?_ | refine CallC.now (c93) ?_); simp (maxSteps := 400000) (disch := omega) only [push_cast, ↓reduceIte, reduceCtorEq, Nat.reduceAdd, Nat.reduceSub, Nat.reduceEqDiff, Nat.reduceLeDiff, Nat.reduceLT, Nat.reduceBEq, Nat.reduceDiv, Nat.reduceMod, Nat.reducePow, Nat.reduceMul, Int.reduceToNat, Int.reduceLT, Int.reduceLE, gI, gR]) | refine an2 ?_ | fail)
      refine ⟨i + 1, ⟨by omega, up_all hall hz⟩, by omega, by rfl, ?_⟩
      rw [hsn]
      (refine syE ?_; try exact True.intro)
  · have hil : i = l.length := by omega
    subst hil
    rw [cnA_yes hall] at e1
    have e2 : arV m l t = arT m l t := by unfold arV; rw [e1]; rfl
    rw [e1, e2, List.take_length]
    repeat' (first | refine w1g ?_ | refine w1l ?_ | refine w1q ?_ | refine w1b ?_ | refine w1p ?_ | ((first | refine w1r ?_ | refine w1k ?_ | refine w1e ?_); (refine sy1 ?_; try exact True.intro)) | refine an2 ?_ | fail)
    exact W_ret ⟨[_, _], ⟨rfl, rfl, rfl⟩, rfl⟩
end Go.Proofs.Ytfbdlmenhoagmaa

namespace Go.Proofs.Ytfbdlmenhoagmaa
open Go Sy
set_option maxRecDepth 100000
set_option maxHeartbeats 4000000
set_option linter.unusedVariables false
set_option linter.unusedSimpArgs false
def exR (a b c : Int) (s : Bool) : Rd := if s = true then ⟨a, b, c, 60, 480, 600, 5000, 5000, 5000, 5000, 5000, 5000⟩ else ⟨a, b, c, 0, 0, 0, 0, 0, 0, 0, 0, 0⟩
def exL (i : Nat) : List Rd := [exR 0 1 10 (decide (0 < i)), exR 1 2 10 (decide (1 < i)), exR 0 2 15 (decide (2 < i))]
def exM : Mp := ⟨3, [⟨0, 1, 10, 60, 480, 600, 5000, 5000, 5000, 5000, 5000, 5000⟩, ⟨1, 2, 10, 60, 480, 600, 5000, 3000, 5000, 5000, 5000, 5000⟩, ⟨0, 2, 15, 60, 480, 600, 5000, 2000, 5000, 5000, 5000, 5000⟩], [⟨[1], 1, 4000, 4⟩, ⟨[2], 1, 4000, 12⟩]⟩
def exV (a b c : Int) (j : Nat) : Rd := ⟨a, b, c, if 1 ≤ j then 60 else 0, if 2 ≤ j then 480 else 0, if 3 ≤ j then 600 else 0, if 4 ≤ j then 5000 else 0, if 4 ≤ j then 5000 else 0, if 4 ≤ j then 5000 else 0, if 4 ≤ j then 5000 else 0, if 4 ≤ j then 5000 else 0, if 4 ≤ j then 5000 else 0⟩
def exW (i j : Nat) : Rd := match i with
  | 0 => exV 0 1 10 j
  | 1 => exV 1 2 10 j
  | _ => exV 0 2 15 j
def exK (i j : Nat) : List Rd := (exL i).set i (exW i j)
theorem exK_len (i j : Nat) : (exK i j).length = 3 := by simp [exK]; rfl
theorem exK_set (i j k : Nat) : (exK i j).set i (exW i k) = exK i k := by simp [exK]
theorem exK_0 (i : Nat) (h : i = 0 ∨ i = 1 ∨ i = 2) : exL i = exK i 0 := by rcases h with rfl | rfl | rfl <;> rfl
theorem exK_4 (i : Nat) (h : i = 0 ∨ i = 1 ∨ i = 2) : exK i 4 = exL (i + 1) := by rcases h with rfl | rfl | rfl <;> rfl
def slt (b : Bool) (x : AV) : AV := if b = true then x else .bad
theorem slt_t (x : AV) : slt true x = x := rfl
theorem le_stK {s s' : S} (ks : List Nat) (nx : Nat) (h : ∀ j, nx ≤ j → lm s.mem j = none) (he : (⟨keepL s.tm ks, s.mem, nx⟩ : S) = s') : le s s' := he ▸ le_keepL ks nx h
def exQ (b c : Bool) : List Rd := [⟨0, 1, 10, 60, 480, 600, 5000, 5000, 5000, 5000, 5000, 5000⟩, ⟨1, 2, 10, 60, 480, 600, 5000, if b = true then 3000 else 5000, 5000, 5000, 5000, 5000⟩, ⟨0, 2, 15, 60, 480, 600, 5000, if c = true then 2000 else 5000, 5000, 5000, 5000, 5000⟩]
theorem exQ_len (b c : Bool) : (exQ b c).length = 3 := rfl
def exS (D : Nat → Bool) : S := ⟨[(0, .own 0 0), (2, .own 9 0), (35, slt (D 0) (.own 9 1)), (36, slt (D 1) (.row 7 0)), (37, slt (D 2) (.own 9 1)), (38, slt (D 3) (.row 7 0)), (39, slt (D 4) (.roff 7 0 12 1 0)), (40, slt (D 5) (.roff 7 0 12 1 6)), (41, slt (D 6) (.roff 7 0 12 1 7)), (42, slt (D 8) (.roff 7 0 12 2 0)), (43, slt (D 9) (.roff 7 0 12 2 6)), (44, slt (D 10) (.roff 7 0 12 2 7))],
  [(0, .cells [iv 0, .v (.slice none 0 0), .v (.slice none 0 0)]), (2, .cells [iv 5000, iv 5000, iv 5000, iv 5000, iv 5000, iv 5000]), (7, .row 0 67 12 dR cR (exQ (D 7) (D 11))), (9, .cells [iv 3, .row 7 0, .v (.slice none 0 0)])], 30⟩
theorem fn51 : Sy.Fn Try.prog 51 [] (aM exM) := by
  refine Fn_of_W mixed Xt51 rfl ?_
  repeat' (first | refine w1g ?_ | refine w1l ?_ | refine w1q ?_ | refine w1b ?_ | refine w1p ?_ | ((first | refine w1r ?_ | refine w1k ?_ | refine w1e ?_); (refine sy1 ?_; try exact True.intro)) | refine an2 ?_ | fail)
  refine ⟨rfl, trivial, Rd, dR, cR, exL 0, rfl, by omega, fun x _ => ⟨rfl, rfl⟩, rfl, ?_⟩
  (refine sy1 ?_; try exact True.intro)
  repeat' (first | refine w1g ?_ | refine w1l ?_ | refine w1q ?_ | refine w1b ?_ | refine w1p ?_ | ((first | refine w1r ?_ | refine w1k ?_ | refine w1e ?_); (refine sy1 ?_; try exact True.intro)) | refine an2 ?_ | fail)
  refine W_loopU (fun i : Nat => [(3, iv i)]) (fun i => [(7, .row 0 67 12 dR cR (exL i))]) (fun i => i ≤ 3) (fun i => 3 - i) 0 (by omega) (by rfl) (by rfl) (fun i hi => ?_)
  have hl : (exL i).length = 3 := rfl
  (refine sy1 ?_; try exact True.intro)
  repeat' (first | refine w1g ?_ | refine w1l ?_ | refine w1q ?_ | refine w1b ?_ | refine w1p ?_ | ((first | refine w1r ?_ | refine w1k ?_ | refine w1e ?_); (refine sy1 ?_; try exact True.intro)) | refine an2 ?_ | fail)
  refine W_condD (by rfl) (fun h5 => ?_) (fun h5 => ?_)
  · have h3 : i = 0 ∨ i = 1 ∨ i = 2 := by omega
    rw [exK_0 i h3]
    repeat' (first | refine w1g ?_ | refine w1l ?_ | refine w1q ?_ | refine w1b ?_ | refine w1p ?_ | ((first | refine w1r ?_ | refine w1k ?_ | refine w1e ?_); simp (maxSteps := 400000) (disch := omega) only [push_cast, ↓reduceIte, reduceCtorEq, Nat.reduceAdd, Nat.reduceSub, Nat.reduceEqDiff, Nat.reduceLeDiff, Nat.reduceLT, Nat.reduceBEq, Nat.reduceDiv, Nat.reduceMod, Nat.reducePow, Nat.reduceMul, Int.reduceToNat, Int.reduceLT, Int.reduceLE, exK_len]) | refine an2 ?_ | fail)
    refine ⟨rfl, ⟨Nat.le_of_ble_eq_true rfl, rfl⟩, by omega, exW i 1, by rcases h3 with rfl | rfl | rfl <;> rfl, rfl, ?_⟩
    rw [exK_set]
    simp (maxSteps := 400000) (disch := omega) only [push_cast, ↓reduceIte, reduceCtorEq, Nat.reduceAdd, Nat.reduceSub, Nat.reduceEqDiff, Nat.reduceLeDiff, Nat.reduceLT, Nat.reduceBEq, Nat.reduceDiv, Nat.reduceMod, Nat.reducePow, Nat.reduceMul, Int.reduceToNat, Int.reduceLT, Int.reduceLE, exK_len]
    refine ⟨by omega, ?_⟩
    refine ⟨rfl, ⟨Nat.le_of_ble_eq_true rfl, rfl⟩, by omega, exW i 2, by rcases h3 with rfl | rfl | rfl <;> rfl, rfl, ?_⟩
    rw [exK_set]
    simp (maxSteps := 400000) (disch := omega) only [push_cast, ↓reduceIte, reduceCtorEq, Nat.reduceAdd, Nat.reduceSub, Nat.reduceEqDiff, Nat.reduceLeDiff, Nat.reduceLT, Nat.reduceBEq, Nat.reduceDiv, Nat.reduceMod, Nat.reducePow, Nat.reduceMul, Int.reduceToNat, Int.reduceLT, Int.reduceLE, exK_len]
    refine ⟨by omega, ?_⟩
    refine ⟨rfl, ⟨Nat.le_of_ble_eq_true rfl, rfl⟩, by omega, exW i 3, by rcases h3 with rfl | rfl | rfl <;> rfl, rfl, ?_⟩
    rw [exK_set]
    simp (maxSteps := 400000) (disch := omega) only [push_cast, ↓reduceIte, reduceCtorEq, Nat.reduceAdd, Nat.reduceSub, Nat.reduceEqDiff, Nat.reduceLeDiff, Nat.reduceLT, Nat.reduceBEq, Nat.reduceDiv, Nat.reduceMod, Nat.reducePow, Nat.reduceMul, Int.reduceToNat, Int.reduceLT, Int.reduceLE, exK_len]
    refine ⟨by omega, ?_⟩
    refine ⟨rfl, ⟨Nat.le_of_ble_eq_true rfl, rfl⟩, by omega, exW i 4, by rcases h3 with rfl | rfl | rfl <;> rfl, rfl, ?_⟩
    rw [exK_set, exK_4 i h3]
    simp (maxSteps := 400000) (disch := omega) only [push_cast, ↓reduceIte, reduceCtorEq, Nat.reduceAdd, Nat.reduceSub, Nat.reduceEqDiff, Nat.reduceLeDiff, Nat.reduceLT, Nat.reduceBEq, Nat.reduceDiv, Nat.reduceMod, Nat.reducePow, Nat.reduceMul, Int.reduceToNat, Int.reduceLT, Int.reduceLE, exK_len]
    repeat' (first | refine w1g ?_ | refine w1l ?_ | refine w1q ?_ | refine w1b ?_ | refine w1p ?_ | ((first | refine w1r ?_ | refine w1k ?_ | refine w1e ?_); (refine sy1 ?_; try exact True.intro)) | refine an2 ?_ | fail)
    refine ⟨i + 1, by omega, by omega, by rfl, ?_⟩
    (refine syE ?_; try exact True.intro)
  · obtain rfl : i = 3 := by omega
    have hl : (exL 3).length = 3 := rfl
    refine W_exit ?_
    (refine sy1 ?_; try exact True.intro)
    repeat (first | refine WK_go ?_ | refine W_seqL ?_ | refine W_seq ?_)
    refine W_regI exS (le_stK [0, 2, 35, 36, 37, 38, 39, 40, 41, 42, 43, 44] 30 (fun j hj => by simp only [lm]; repeat rw [if_neg (by omega)]) (by rfl)) (fun D i ro m hro hms hD ha => ?_) (fun D hD => ?_)
    · have nn : ∀ (b c : Bool) (j : Nat), 30 ≤ j → lm [(0, .cells [iv 0, .v (.slice none 0 0), .v (.slice none 0 0)]), (2, .cells [iv 5000, iv 5000, iv 5000, iv 5000, iv 5000, iv 5000]), (7, .row 0 67 12 dR cR (exQ b c)), (9, .cells [iv 3, .row 7 0, .v (.slice none 0 0)])] j = none := fun b c j hj => by
        simp only [lm]; repeat rw [if_neg (by omega)]
      rcases i with _ | _ | _ | _ | _ | _ | _ | _ | _ | _ | _ | _ | i
      all_goals simp only [List.getElem?_cons_zero, List.getElem?_cons_succ, List.getElem?_nil, Option.some.injEq, reduceCtorEq] at hro hms
      all_goals subst hro
      all_goals subst hms
      · unfold exS
        simp (maxSteps := 400000) (disch := omega) only [push_cast, ↓reduceIte, reduceCtorEq, Nat.reduceAdd, Nat.reduceSub, Nat.reduceEqDiff, Nat.reduceLeDiff, Nat.reduceLT, Nat.reduceBEq, Nat.reduceDiv, Nat.reduceMod, Nat.reducePow, Nat.reduceMul, Int.reduceToNat, Int.reduceLT, Int.reduceLE, slt_t, exQ_len]
        first | exact le_stK [0, 2, 35, 36, 37, 38, 39, 40, 41, 42, 43, 44] 30 (fun j hj => nn (D 7) (D 11) j hj) (by rfl) | exact le_stK [0, 2, 35, 36, 37, 38, 39, 40, 41, 42, 43, 44] 30 (fun j hj => nn true (D 11) j hj) (by rfl) | exact le_stK [0, 2, 35, 36, 37, 38, 39, 40, 41, 42, 43, 44] 30 (fun j hj => nn (D 7) true j hj) (by rfl) | exact ⟨by decide, le_stK [0, 2, 35, 36, 37, 38, 39, 40, 41, 42, 43, 44] 30 (fun j hj => nn (D 7) (D 11) j hj) (by rfl)⟩ | trace_state
      · unfold exS
        have a0 := ha 0 (by unfold tb; decide)
        simp (maxSteps := 400000) (disch := omega) only [push_cast, ↓reduceIte, reduceCtorEq, Nat.reduceAdd, Nat.reduceSub, Nat.reduceEqDiff, Nat.reduceLeDiff, Nat.reduceLT, Nat.reduceBEq, Nat.reduceDiv, Nat.reduceMod, Nat.reducePow, Nat.reduceMul, Int.reduceToNat, Int.reduceLT, Int.reduceLE, slt_t, exQ_len, a0]
        first | exact le_stK [0, 2, 35, 36, 37, 38, 39, 40, 41, 42, 43, 44] 30 (fun j hj => nn (D 7) (D 11) j hj) (by rfl) | exact le_stK [0, 2, 35, 36, 37, 38, 39, 40, 41, 42, 43, 44] 30 (fun j hj => nn true (D 11) j hj) (by rfl) | exact le_stK [0, 2, 35, 36, 37, 38, 39, 40, 41, 42, 43, 44] 30 (fun j hj => nn (D 7) true j hj) (by rfl) | exact ⟨by decide, le_stK [0, 2, 35, 36, 37, 38, 39, 40, 41, 42, 43, 44] 30 (fun j hj => nn (D 7) (D 11) j hj) (by rfl)⟩ | trace_state
      · unfold exS
        simp (maxSteps := 400000) (disch := omega) only [push_cast, ↓reduceIte, reduceCtorEq, Nat.reduceAdd, Nat.reduceSub, Nat.reduceEqDiff, Nat.reduceLeDiff, Nat.reduceLT, Nat.reduceBEq, Nat.reduceDiv, Nat.reduceMod, Nat.reducePow, Nat.reduceMul, Int.reduceToNat, Int.reduceLT, Int.reduceLE, slt_t, exQ_len]
        first | exact le_stK [0, 2, 35, 36, 37, 38, 39, 40, 41, 42, 43, 44] 30 (fun j hj => nn (D 7) (D 11) j hj) (by rfl) | exact le_stK [0, 2, 35, 36, 37, 38, 39, 40, 41, 42, 43, 44] 30 (fun j hj => nn true (D 11) j hj) (by rfl) | exact le_stK [0, 2, 35, 36, 37, 38, 39, 40, 41, 42, 43, 44] 30 (fun j hj => nn (D 7) true j hj) (by rfl) | exact ⟨by decide, le_stK [0, 2, 35, 36, 37, 38, 39, 40, 41, 42, 43, 44] 30 (fun j hj => nn (D 7) (D 11) j hj) (by rfl)⟩ | trace_state
      · unfold exS
        have a0 := ha 2 (by unfold tb; decide)
        simp (maxSteps := 400000) (disch := omega) only [push_cast, ↓reduceIte, reduceCtorEq, Nat.reduceAdd, Nat.reduceSub, Nat.reduceEqDiff, Nat.reduceLeDiff, Nat.reduceLT, Nat.reduceBEq, Nat.reduceDiv, Nat.reduceMod, Nat.reducePow, Nat.reduceMul, Int.reduceToNat, Int.reduceLT, Int.reduceLE, slt_t, exQ_len, a0]
        first | exact le_stK [0, 2, 35, 36, 37, 38, 39, 40, 41, 42, 43, 44] 30 (fun j hj => nn (D 7) (D 11) j hj) (by rfl) | exact le_stK [0, 2, 35, 36, 37, 38, 39, 40, 41, 42, 43, 44] 30 (fun j hj => nn true (D 11) j hj) (by rfl) | exact le_stK [0, 2, 35, 36, 37, 38, 39, 40, 41, 42, 43, 44] 30 (fun j hj => nn (D 7) true j hj) (by rfl) | exact ⟨by decide, le_stK [0, 2, 35, 36, 37, 38, 39, 40, 41, 42, 43, 44] 30 (fun j hj => nn (D 7) (D 11) j hj) (by rfl)⟩ | trace_state
      · unfold exS
        have a0 := ha 1 (by unfold tb; decide)
        simp (maxSteps := 400000) (disch := omega) only [push_cast, ↓reduceIte, reduceCtorEq, Nat.reduceAdd, Nat.reduceSub, Nat.reduceEqDiff, Nat.reduceLeDiff, Nat.reduceLT, Nat.reduceBEq, Nat.reduceDiv, Nat.reduceMod, Nat.reducePow, Nat.reduceMul, Int.reduceToNat, Int.reduceLT, Int.reduceLE, slt_t, exQ_len, a0]
        first | exact le_stK [0, 2, 35, 36, 37, 38, 39, 40, 41, 42, 43, 44] 30 (fun j hj => nn (D 7) (D 11) j hj) (by rfl) | exact le_stK [0, 2, 35, 36, 37, 38, 39, 40, 41, 42, 43, 44] 30 (fun j hj => nn true (D 11) j hj) (by rfl) | exact le_stK [0, 2, 35, 36, 37, 38, 39, 40, 41, 42, 43, 44] 30 (fun j hj => nn (D 7) true j hj) (by rfl) | exact ⟨by decide, le_stK [0, 2, 35, 36, 37, 38, 39, 40, 41, 42, 43, 44] 30 (fun j hj => nn (D 7) (D 11) j hj) (by rfl)⟩ | trace_state
      · unfold exS
        have a0 := ha 4 (by unfold tb; decide)
        simp (maxSteps := 400000) (disch := omega) only [push_cast, ↓reduceIte, reduceCtorEq, Nat.reduceAdd, Nat.reduceSub, Nat.reduceEqDiff, Nat.reduceLeDiff, Nat.reduceLT, Nat.reduceBEq, Nat.reduceDiv, Nat.reduceMod, Nat.reducePow, Nat.reduceMul, Int.reduceToNat, Int.reduceLT, Int.reduceLE, slt_t, exQ_len, a0]
        first | exact le_stK [0, 2, 35, 36, 37, 38, 39, 40, 41, 42, 43, 44] 30 (fun j hj => nn (D 7) (D 11) j hj) (by rfl) | exact le_stK [0, 2, 35, 36, 37, 38, 39, 40, 41, 42, 43, 44] 30 (fun j hj => nn true (D 11) j hj) (by rfl) | exact le_stK [0, 2, 35, 36, 37, 38, 39, 40, 41, 42, 43, 44] 30 (fun j hj => nn (D 7) true j hj) (by rfl) | exact ⟨by decide, le_stK [0, 2, 35, 36, 37, 38, 39, 40, 41, 42, 43, 44] 30 (fun j hj => nn (D 7) (D 11) j hj) (by rfl)⟩ | trace_state
      · unfold exS
        have a0 := ha 5 (by unfold tb; decide)
        simp (maxSteps := 400000) (disch := omega) only [push_cast, ↓reduceIte, reduceCtorEq, Nat.reduceAdd, Nat.reduceSub, Nat.reduceEqDiff, Nat.reduceLeDiff, Nat.reduceLT, Nat.reduceBEq, Nat.reduceDiv, Nat.reduceMod, Nat.reducePow, Nat.reduceMul, Int.reduceToNat, Int.reduceLT, Int.reduceLE, slt_t, exQ_len, a0]
        first | exact le_stK [0, 2, 35, 36, 37, 38, 39, 40, 41, 42, 43, 44] 30 (fun j hj => nn (D 7) (D 11) j hj) (by rfl) | exact le_stK [0, 2, 35, 36, 37, 38, 39, 40, 41, 42, 43, 44] 30 (fun j hj => nn true (D 11) j hj) (by rfl) | exact le_stK [0, 2, 35, 36, 37, 38, 39, 40, 41, 42, 43, 44] 30 (fun j hj => nn (D 7) true j hj) (by rfl) | exact ⟨by decide, le_stK [0, 2, 35, 36, 37, 38, 39, 40, 41, 42, 43, 44] 30 (fun j hj => nn (D 7) (D 11) j hj) (by rfl)⟩ | trace_state
      · unfold exS
        have a0 := ha 6 (by unfold tb; decide)
        simp (maxSteps := 400000) (disch := omega) only [push_cast, ↓reduceIte, reduceCtorEq, Nat.reduceAdd, Nat.reduceSub, Nat.reduceEqDiff, Nat.reduceLeDiff, Nat.reduceLT, Nat.reduceBEq, Nat.reduceDiv, Nat.reduceMod, Nat.reducePow, Nat.reduceMul, Int.reduceToNat, Int.reduceLT, Int.reduceLE, slt_t, exQ_len, a0, hD]
        refine ⟨rfl, ⟨Nat.le_of_ble_eq_true rfl, rfl⟩, by decide, ⟨1, 2, 10, 60, 480, 600, 5000, 3000, 5000, 5000, 5000, 5000⟩, rfl, rfl, ?_⟩
        have e : (exQ false (D 11)).set 1 ⟨1, 2, 10, 60, 480, 600, 5000, 3000, 5000, 5000, 5000, 5000⟩ = exQ true (D 11) := rfl
        rw [e]
        simp (maxSteps := 400000) (disch := omega) only [push_cast, ↓reduceIte, reduceCtorEq, Nat.reduceAdd, Nat.reduceSub, Nat.reduceEqDiff, Nat.reduceLeDiff, Nat.reduceLT, Nat.reduceBEq, Nat.reduceDiv, Nat.reduceMod, Nat.reducePow, Nat.reduceMul, Int.reduceToNat, Int.reduceLT, Int.reduceLE, slt_t, exQ_len, a0]
        first | exact le_stK [0, 2, 35, 36, 37, 38, 39, 40, 41, 42, 43, 44] 30 (fun j hj => nn (D 7) (D 11) j hj) (by rfl) | exact le_stK [0, 2, 35, 36, 37, 38, 39, 40, 41, 42, 43, 44] 30 (fun j hj => nn true (D 11) j hj) (by rfl) | exact le_stK [0, 2, 35, 36, 37, 38, 39, 40, 41, 42, 43, 44] 30 (fun j hj => nn (D 7) true j hj) (by rfl) | exact ⟨by decide, le_stK [0, 2, 35, 36, 37, 38, 39, 40, 41, 42, 43, 44] 30 (fun j hj => nn (D 7) (D 11) j hj) (by rfl)⟩ | trace_state
      · unfold exS
        have a0 := ha 3 (by unfold tb; decide)
        simp (maxSteps := 400000) (disch := omega) only [push_cast, ↓reduceIte, reduceCtorEq, Nat.reduceAdd, Nat.reduceSub, Nat.reduceEqDiff, Nat.reduceLeDiff, Nat.reduceLT, Nat.reduceBEq, Nat.reduceDiv, Nat.reduceMod, Nat.reducePow, Nat.reduceMul, Int.reduceToNat, Int.reduceLT, Int.reduceLE, slt_t, exQ_len, a0]
        first | exact le_stK [0, 2, 35, 36, 37, 38, 39, 40, 41, 42, 43, 44] 30 (fun j hj => nn (D 7) (D 11) j hj) (by rfl) | exact le_stK [0, 2, 35, 36, 37, 38, 39, 40, 41, 42, 43, 44] 30 (fun j hj => nn true (D 11) j hj) (by rfl) | exact le_stK [0, 2, 35, 36, 37, 38, 39, 40, 41, 42, 43, 44] 30 (fun j hj => nn (D 7) true j hj) (by rfl) | exact ⟨by decide, le_stK [0, 2, 35, 36, 37, 38, 39, 40, 41, 42, 43, 44] 30 (fun j hj => nn (D 7) (D 11) j hj) (by rfl)⟩ | trace_state
      · unfold exS
        have a0 := ha 8 (by unfold tb; decide)
        simp (maxSteps := 400000) (disch := omega) only [push_cast, ↓reduceIte, reduceCtorEq, Nat.reduceAdd, Nat.reduceSub, Nat.reduceEqDiff, Nat.reduceLeDiff, Nat.reduceLT, Nat.reduceBEq, Nat.reduceDiv, Nat.reduceMod, Nat.reducePow, Nat.reduceMul, Int.reduceToNat, Int.reduceLT, Int.reduceLE, slt_t, exQ_len, a0]
        first | exact le_stK [0, 2, 35, 36, 37, 38, 39, 40, 41, 42, 43, 44] 30 (fun j hj => nn (D 7) (D 11) j hj) (by rfl) | exact le_stK [0, 2, 35, 36, 37, 38, 39, 40, 41, 42, 43, 44] 30 (fun j hj => nn true (D 11) j hj) (by rfl) | exact le_stK [0, 2, 35, 36, 37, 38, 39, 40, 41, 42, 43, 44] 30 (fun j hj => nn (D 7) true j hj) (by rfl) | exact ⟨by decide, le_stK [0, 2, 35, 36, 37, 38, 39, 40, 41, 42, 43, 44] 30 (fun j hj => nn (D 7) (D 11) j hj) (by rfl)⟩ | trace_state
      · unfold exS
        have a0 := ha 9 (by unfold tb; decide)
        simp (maxSteps := 400000) (disch := omega) only [push_cast, ↓reduceIte, reduceCtorEq, Nat.reduceAdd, Nat.reduceSub, Nat.reduceEqDiff, Nat.reduceLeDiff, Nat.reduceLT, Nat.reduceBEq, Nat.reduceDiv, Nat.reduceMod, Nat.reducePow, Nat.reduceMul, Int.reduceToNat, Int.reduceLT, Int.reduceLE, slt_t, exQ_len, a0]
        first | exact le_stK [0, 2, 35, 36, 37, 38, 39, 40, 41, 42, 43, 44] 30 (fun j hj => nn (D 7) (D 11) j hj) (by rfl) | exact le_stK [0, 2, 35, 36, 37, 38, 39, 40, 41, 42, 43, 44] 30 (fun j hj => nn true (D 11) j hj) (by rfl) | exact le_stK [0, 2, 35, 36, 37, 38, 39, 40, 41, 42, 43, 44] 30 (fun j hj => nn (D 7) true j hj) (by rfl) | exact ⟨by decide, le_stK [0, 2, 35, 36, 37, 38, 39, 40, 41, 42, 43, 44] 30 (fun j hj => nn (D 7) (D 11) j hj) (by rfl)⟩ | trace_state
      · unfold exS
        have a0 := ha 10 (by unfold tb; decide)
        simp (maxSteps := 400000) (disch := omega) only [push_cast, ↓reduceIte, reduceCtorEq, Nat.reduceAdd, Nat.reduceSub, Nat.reduceEqDiff, Nat.reduceLeDiff, Nat.reduceLT, Nat.reduceBEq, Nat.reduceDiv, Nat.reduceMod, Nat.reducePow, Nat.reduceMul, Int.reduceToNat, Int.reduceLT, Int.reduceLE, slt_t, exQ_len, a0, hD]
        refine ⟨rfl, ⟨Nat.le_of_ble_eq_true rfl, rfl⟩, by decide, ⟨0, 2, 15, 60, 480, 600, 5000, 2000, 5000, 5000, 5000, 5000⟩, rfl, rfl, ?_⟩
        have e : (exQ (D 7) false).set 2 ⟨0, 2, 15, 60, 480, 600, 5000, 2000, 5000, 5000, 5000, 5000⟩ = exQ (D 7) true := rfl
        rw [e]
        simp (maxSteps := 400000) (disch := omega) only [push_cast, ↓reduceIte, reduceCtorEq, Nat.reduceAdd, Nat.reduceSub, Nat.reduceEqDiff, Nat.reduceLeDiff, Nat.reduceLT, Nat.reduceBEq, Nat.reduceDiv, Nat.reduceMod, Nat.reducePow, Nat.reduceMul, Int.reduceToNat, Int.reduceLT, Int.reduceLE, slt_t, exQ_len, a0]
        first | exact le_stK [0, 2, 35, 36, 37, 38, 39, 40, 41, 42, 43, 44] 30 (fun j hj => nn (D 7) (D 11) j hj) (by rfl) | exact le_stK [0, 2, 35, 36, 37, 38, 39, 40, 41, 42, 43, 44] 30 (fun j hj => nn true (D 11) j hj) (by rfl) | exact le_stK [0, 2, 35, 36, 37, 38, 39, 40, 41, 42, 43, 44] 30 (fun j hj => nn (D 7) true j hj) (by rfl) | exact ⟨by decide, le_stK [0, 2, 35, 36, 37, 38, 39, 40, 41, 42, 43, 44] 30 (fun j hj => nn (D 7) (D 11) j hj) (by rfl)⟩ | trace_state
    · refine ⟨_, le.refl _, ?_⟩
      unfold exS
      have d7 := hD 7 (by decide)
      have d11 := hD 11 (by decide)
      rw [d7, d11]
      (refine sy1 ?_; try exact True.intro)
      repeat (first | refine WK_go ?_ | refine W_seqL ?_ | refine W_seq ?_)
      refine W_regP [1, 2] (by decide) ?_
      simp (maxSteps := 400000) (disch := omega) only [push_cast, ↓reduceIte, reduceCtorEq, Nat.reduceAdd, Nat.reduceSub, Nat.reduceEqDiff, Nat.reduceLeDiff, Nat.reduceLT, Nat.reduceBEq, Nat.reduceDiv, Nat.reduceMod, Nat.reducePow, Nat.reduceMul, Int.reduceToNat, Int.reduceLT, Int.reduceLE, chainP, List.take_succ_cons, List.take_zero, List.drop_succ_cons, List.drop_zero]
      refine ⟨rfl, trivial, Int, 0, cI, [1], rfl, by omega, fun x _ => ⟨rfl, rfl⟩, rfl, ?_⟩
      (refine sy1 ?_; try exact True.intro)
      refine ⟨_, le_frzR 45 [0, 2] [0, 7, 9] 40 30 0 3 1 0 cI [1] rfl rfl rfl rfl, ?_⟩
      simp (maxSteps := 400000) (disch := omega) only [push_cast, ↓reduceIte, reduceCtorEq, Nat.reduceAdd, Nat.reduceSub, Nat.reduceEqDiff, Nat.reduceLeDiff, Nat.reduceLT, Nat.reduceBEq, Nat.reduceDiv, Nat.reduceMod, Nat.reducePow, Nat.reduceMul, Int.reduceToNat, Int.reduceLT, Int.reduceLE, chainP, List.take_succ_cons, List.take_zero, List.drop_succ_cons, List.drop_zero]
      refine ⟨rfl, trivial, Int, 0, cI, [2], rfl, by omega, fun x _ => ⟨rfl, rfl⟩, rfl, ?_⟩
      (refine sy1 ?_; try exact True.intro)
      refine ⟨_, le_frzR 47 [0, 2, 46] [0, 7, 9] 60 41 0 3 1 0 cI [2] rfl rfl rfl rfl, ?_⟩
      simp (maxSteps := 400000) (disch := omega) only [push_cast, ↓reduceIte, reduceCtorEq, Nat.reduceAdd, Nat.reduceSub, Nat.reduceEqDiff, Nat.reduceLeDiff, Nat.reduceLT, Nat.reduceBEq, Nat.reduceDiv, Nat.reduceMod, Nat.reducePow, Nat.reduceMul, Int.reduceToNat, Int.reduceLT, Int.reduceLE, chainP, List.take_succ_cons, List.take_zero, List.drop_succ_cons, List.drop_zero]
      refine ⟨rfl, trivial, Wrk, dW, cW, exM.ws, rfl, by omega, fun x _ => ⟨rfl, rfl⟩, rfl, ?_⟩
      (refine sy1 ?_; try exact True.intro)
      repeat' (first | refine w1g ?_ | refine w1l ?_ | refine w1q ?_ | refine w1b ?_ | refine w1p ?_ | ((first | refine w1r ?_ | refine w1k ?_ | refine w1e ?_); (refine sy1 ?_; try exact True.intro)) | refine an2 ?_ | fail)
      refine W_ret ⟨[_], ⟨⟨by simp, rfl⟩, rfl⟩, ?_⟩
      simp (maxSteps := 400000) (disch := omega) only [push_cast, ↓reduceIte, reduceCtorEq, Nat.reduceAdd, Nat.reduceSub, Nat.reduceEqDiff, Nat.reduceLeDiff, Nat.reduceLT, Nat.reduceBEq, Nat.reduceDiv, Nat.reduceMod, Nat.reducePow, Nat.reduceMul, Int.reduceToNat, Int.reduceLT, Int.reduceLE, pack]
      rfl
theorem exG : Gm exM := ⟨by decide, by decide, fun w hw => by
  have h : w = ⟨[1], 1, 4000, 4⟩ ∨ w = ⟨[2], 1, 4000, 12⟩ := by simpa [exM] using hw
  rcases h with rfl | rfl <;> decide⟩
def exF (k : Nat) : Int := if k = 1 then 4000 else 0
theorem ex_chV : chV exM exF 0 2 = some ([0], 24) := by kernel_rfl
theorem ex_chE : chE exM exF 0 2 = 0 := by kernel_rfl
theorem ex_way : wayS exM exF 0 2 [0] = [0, 1] := by kernel_rfl
theorem ex_min : minL exM [0, 1] = 120 := by kernel_rfl
theorem ex_arV : arV exM [0, 1] 500 = 1980 := by kernel_rfl
theorem ex_arE : arE exM [0, 1] 500 = 0 := by kernel_rfl
theorem fn14 : Sy.Fn Try.prog 14 [] (bv true) := by
  refine Fn_of_W mixed Xt14 rfl ?_
  have c15 := fn15 exM exF 0 2 exG
  have c34 := fn34 exM [0, 1] 500 exG (by decide)
  rw [ex_chV, ex_chE] at c15
  have e : rtC exM exF 0 2 (some ([0], 24)) = cRt [0, 1] [0] 24 120 := by
    show cRt (wayS exM exF 0 2 [0]) [0] 24 (minL exM (wayS exM exF 0 2 [0])) = _
    rw [ex_way, ex_min]
  rw [e] at c15
  unfold cRt at c15
  rw [ex_arV, ex_arE] at c34
  repeat' (first | refine w1g ?_ | refine w1l ?_ | refine w1q ?_ | refine w1b ?_ | refine w1p ?_ | ((first | refine w1r ?_ | refine w1k ?_ | refine w1e ?_ | refine CallC.now (fn51) ?_ | refine CallC.now (c15) ?_); (refine sy1 ?_; try exact True.intro)) | refine an2 ?_ | fail)
  repeat' (first | refine w1g ?_ | refine w1l ?_ | refine w1q ?_ | refine w1b ?_ | refine w1p ?_ | ((first | refine w1r ?_ | refine w1k ?_ | refine w1e ?_ | refine CallC.now (fn51) ?_); (refine sy1 ?_; try exact True.intro)) | refine an2 ?_ | fail)
  refine ⟨rfl, trivial, Int, 0, cI, [0, 1], rfl, by omega, fun x _ => ⟨rfl, rfl⟩, rfl, ?_⟩
  (refine sy1 ?_; try exact True.intro)
  repeat' (first | refine w1g ?_ | refine w1l ?_ | refine w1q ?_ | refine w1b ?_ | refine w1p ?_ | ((first | refine w1r ?_ | refine w1k ?_ | refine w1e ?_ | refine CallC.go _ (fun _ => ⟨trivial, c34⟩) rfl ?_); (refine sy1 ?_; try exact True.intro)) | refine an2 ?_ | fail)
  exact W_ret ⟨[_], ⟨rfl, rfl⟩, rfl⟩
end Go.Proofs.Ytfbdlmenhoagmaa

namespace Go.Proofs.Ytfbdlmenhoagmaa
open Go Sy
set_option linter.unusedVariables false
theorem mem_brn {n : Nat} : ∀ (d : Nat) (l : List Int) (i : Nat) (t : List Int), i + d = n → Srt n i t → t ≠ [] → l ++ t ∈ brn d l i
  | _, _, _, [], _, _, h => absurd rfl h
  | 0, l, i, x :: t, hi, hs, _ => by
    have := hs.1; have := hs.2.1; omega
  | d + 1, l, i, x :: t, hi, hs, _ => by
    obtain ⟨h1, h2, h3⟩ := hs
    simp only [brn, List.cons_append, List.mem_cons, List.mem_append]
    by_cases q : x = i
    · rw [q] at h3 ⊢
      cases t with
      | nil => exact .inl rfl
      | cons y t =>
        right; left
        have := mem_brn d (l ++ [(i : Int)]) (i + 1) (y :: t) (by omega) h3 (by simp)
        rwa [List.append_assoc] at this
    · right; right
      exact mem_brn d l (i + 1) (x :: t) (by omega) ⟨by omega, h2, h3⟩ (by simp)
theorem mem_sets {n : Nat} {l : List Int} (h : Srt n 0 l) : l ∈ setsM n := by
  cases l with
  | nil => exact List.mem_cons_self
  | cons x l =>
    refine List.mem_cons_of_mem _ ?_
    exact mem_brn n [] 0 (x :: l) (by omega) h (by simp)
theorem lstep_keep {g : List Int → Int} {ok : List Int → Bool} {x y : List Int} {n : Int} : ∃ z k, lstep g ok (some (y, n)) x = some (z, k) ∧ k ≤ n := by
  unfold lstep
  by_cases c : ok x = true
  · rw [if_pos c]
    dsimp only
    split
    · exact ⟨_, _, rfl, by omega⟩
    · exact ⟨_, _, rfl, Int.le_refl _⟩
  · rw [if_neg c]
    exact ⟨_, _, rfl, Int.le_refl _⟩
theorem leastL_keep {g : List Int → Int} {ok : List Int → Bool} : ∀ (l : List (List Int)) (y : List Int) (n : Int), ∃ z k, l.foldl (lstep g ok) (some (y, n)) = some (z, k) ∧ k ≤ n
  | [], y, n => ⟨y, n, rfl, Int.le_refl _⟩
  | x :: l, y, n => by
    obtain ⟨z, k, h1, h2⟩ := lstep_keep (g := g) (ok := ok) (x := x) (y := y) (n := n)
    obtain ⟨z2, k2, h3, h4⟩ := leastL_keep l z k
    refine ⟨z2, k2, ?_, by omega⟩
    rw [List.foldl_cons, h1, h3]
theorem leastL_le {g : List Int → Int} {ok : List Int → Bool} : ∀ (l : List (List Int)) (b : Option (List Int × Int)) (x : List Int), x ∈ l → ok x = true → ∃ z k, l.foldl (lstep g ok) b = some (z, k) ∧ k ≤ g x
  | [], b, x, h, _ => by cases h
  | y :: l, b, x, h, hx => by
    rcases List.mem_cons.1 h with rfl | h
    · have h1 : ∃ z k, lstep g ok b x = some (z, k) ∧ k ≤ g x := by
        unfold lstep
        rw [if_pos hx]
        cases b with
        | none => exact ⟨_, _, rfl, Int.le_refl _⟩
        | some p =>
          obtain ⟨y, n⟩ := p
          dsimp only
          split
          · exact ⟨_, _, rfl, Int.le_refl _⟩
          · exact ⟨_, _, rfl, by omega⟩
      obtain ⟨z, k, h2, h3⟩ := h1
      obtain ⟨z2, k2, h4, h5⟩ := leastL_keep (g := g) (ok := ok) l z k
      refine ⟨z2, k2, ?_, by omega⟩
      rw [List.foldl_cons, h2, h4]
    · exact leastL_le l (lstep g ok b y) x h hx
theorem best_le {m : Mp} {f : Nat → Int} {fr to : Int} {s : List Int} (hs : Srt m.ws.length 0 s) (ho : okS m f fr to s = true) : ∃ z k, bestS m f fr to = some (z, k) ∧ k ≤ cfS m f fr to s :=
  leastL_le _ none s (mem_sets hs) ho
theorem Srt.more {n n' : Int} (hn : n ≤ n') : ∀ {l : List Int} {lo : Int}, Srt n lo l → Srt n' lo l
  | [], _, _ => trivial
  | x :: l, lo, h => ⟨h.1, by have := h.2.1; omega, Srt.more hn h.2.2⟩
end Go.Proofs.Ytfbdlmenhoagmaa

namespace Go.Proofs.Ytfbdlmenhoagmaa
open Go Sy
set_option maxRecDepth 100000
set_option maxHeartbeats 4000000
set_option linter.unusedVariables false
set_option linter.unusedSimpArgs false
structure Big (m : Mp) : Prop where
  r : m.rs.length ≤ 140737488355328
  w : m.ws.length ≤ 140737488355328
  s : ∀ w ∈ m.ws, w.rs.length ≤ 140737488355328
structure Val (m : Mp) (f : Nat → Int) (fr to : Int) : Prop where
  g : greatB m = false
  c : chkM m = 0
  z : szE f = 0
  f : 0 ≤ fr ∧ fr < m.n
  t : 0 ≤ to ∧ to < m.n
theorem Val.ok {m : Mp} {f : Nat → Int} {fr to : Int} (h : Val m f fr to) : OkM m := chkM_ok h.c
theorem Val.op {m : Mp} {f : Nat → Int} {fr to : Int} (h : Val m f fr to) : opE m f = 0 := by unfold opE; rw [if_pos h.c]; exact h.z
theorem plB_of {n x : Int} (h : 0 ≤ x ∧ x < n) : plB n x = true := by unfold plB; rw [decide_eq_true h.1, decide_eq_true h.2]; rfl
theorem Val.cv {m : Mp} {f : Nat → Int} {fr to : Int} (h : Val m f fr to) : chV m f fr to = bestS m f fr to := by unfold chV; rw [if_pos h.op, if_pos ⟨plB_of h.f, plB_of h.t⟩]
end Go.Proofs.Ytfbdlmenhoagmaa

namespace Go.Proofs.Ytfbdlmenhoagmaa
open Go Sy
set_option maxRecDepth 100000
set_option linter.unusedVariables false
theorem i64_wf {n : Int} (h : (Lit.int .i64 n).wf = true) : -9223372036854775808 ≤ n ∧ n ≤ 9223372036854775807 := by
  simp [Lit.wf, IntKind.min, IntKind.max, IntKind.bits, IntKind.signed] at h
  omega
abbrev I64 (n : Int) : Prop := -9223372036854775808 ≤ n ∧ n ≤ 9223372036854775807
theorem y2 : Try.prog.cellsOf 2 = 1 := by kernel_rfl
theorem y3 : Try.prog.cellsOf 3 = 1 := by kernel_rfl
theorem y22 : Try.prog.cellsOf 22 = 1 := by kernel_rfl
theorem y23 : Try.prog.cellsOf 23 = 1 := by kernel_rfl
theorem y26 : Try.prog.cellsOf 26 = 6 := by kernel_rfl
theorem y27 : Try.prog.cellsOf 27 = 1 := by kernel_rfl
theorem y29 : Try.prog.cellsOf 29 = 4 := by kernel_rfl
theorem y67 : Try.prog.cellsOf 67 = 12 := by kernel_rfl
theorem b2 : Try.prog.bytesOf 2 = 8 := by kernel_rfl
theorem b3 : Try.prog.bytesOf 3 = 8 := by kernel_rfl
theorem b29 : Try.prog.bytesOf 29 = 48 := by kernel_rfl
theorem b67 : Try.prog.bytesOf 67 = 96 := by kernel_rfl
theorem k2 : Codec Try.prog 2 (fun n : Int => [iv n]) I64 := (Codec.int Try.underlying2).map id (fun _ => rfl) (fun _ h => i64_wf h)
theorem k3 : Codec Try.prog 3 (fun n : Int => [iv n]) I64 := (Codec.int Try.underlying3).map id (fun _ => rfl) (fun _ h => i64_wf h)
theorem k27 : Codec Try.prog 27 (fun l : List Int => [aI l]) (fun l => l.length * 8 ≤ 140737488351232) :=
  (Codec.slice Try.underlying27 (by rw [y3]; decide) y3 b3 0 k3).map id (fun _ => rfl) (fun _ h => h.1)
def szOf (x : Int × Int × Int × Int × Int × Int × Unit) : Nat → Int
  | 0 => x.1
  | 1 => x.2.1
  | 2 => x.2.2.1
  | 3 => x.2.2.2.1
  | 4 => x.2.2.2.2.1
  | _ => x.2.2.2.2.2.1
theorem k26 : Codec Try.prog 26 c6 (fun f => ∀ k, k < 6 → I64 (f k)) :=
  (Codec.array Try.underlying26 y2 (by kernel_rfl) (by kernel_rfl) (Parts.cons k2 y2 (Parts.cons k2 y2 (Parts.cons k2 y2 (Parts.cons k2 y2 (Parts.cons k2 y2 (Parts.cons k2 y2 Parts.nil))))))).map szOf (fun _ => rfl) (fun x h k hk => by
    obtain ⟨h0, h1, h2, h3, h4, h5, _⟩ := h
    have : k = 0 ∨ k = 1 ∨ k = 2 ∨ k = 3 ∨ k = 4 ∨ k = 5 := by omega
    rcases this with rfl | rfl | rfl | rfl | rfl | rfl <;> assumption)
theorem k67 : Codec Try.prog 67 cR (fun _ => True) :=
  (Codec.struct Try.underlying67 (by kernel_rfl) (by kernel_rfl) (Parts.cons k3 y3 (Parts.cons k3 y3 (Parts.cons k2 y2 (Parts.cons k2 y2 (Parts.cons k2 y2 (Parts.cons k2 y2 (Parts.cons k26 y26 Parts.nil)))))))).map
    (fun x => ⟨x.1, x.2.1, x.2.2.1, x.2.2.2.1, x.2.2.2.2.1, x.2.2.2.2.2.1, x.2.2.2.2.2.2.1 0, x.2.2.2.2.2.2.1 1, x.2.2.2.2.2.2.1 2, x.2.2.2.2.2.2.1 3, x.2.2.2.2.2.2.1 4, x.2.2.2.2.2.2.1 5⟩) (fun _ => rfl) (fun _ _ => trivial)
theorem k22 : Codec Try.prog 22 (fun l : List Rd => [aR l]) (fun l => l.length * 96 ≤ 140737488351232) :=
  (Codec.slice Try.underlying22 (by rw [y67]; decide) y67 b67 dR k67).map id (fun _ => rfl) (fun _ h => h.1)
abbrev OW (w : Wrk) : Prop := w.rs.length * 8 ≤ 140737488351232
theorem k29 : Codec Try.prog 29 cW OW :=
  (Codec.struct Try.underlying29 (by kernel_rfl) (by kernel_rfl) (Parts.cons k27 y27 (Parts.cons k3 y3 (Parts.cons k2 y2 (Parts.cons k2 y2 Parts.nil))))).map
    (fun x => ⟨x.1, x.2.1, x.2.2.1, x.2.2.2.1⟩) (fun _ => rfl) (fun _ h => h.1)
theorem k23 : Codec Try.prog 23 (fun l : List Wrk => [aW l]) (fun l => l.length * 48 ≤ 140737488351232 ∧ ∀ w ∈ l, OW w) :=
  (Codec.slice Try.underlying23 (by rw [y29]; decide) y29 b29 dW k29).map id (fun _ => rfl) (fun _ h => ⟨h.1, h.2.2⟩)
structure OM (m : Mp) : Prop where
  r : m.rs.length * 96 ≤ 140737488351232
  w : m.ws.length * 48 ≤ 140737488351232
  s : ∀ w ∈ m.ws, OW w
theorem k25 : Codec Try.prog 25 cM OM :=
  (Codec.struct Try.underlying25 (by kernel_rfl) (by kernel_rfl) (Parts.cons k3 y3 (Parts.cons k22 y22 (Parts.cons k23 y23 Parts.nil)))).map
    (fun x => ⟨x.1, x.2.1, x.2.2.1⟩) (fun _ => rfl) (fun _ h => ⟨h.2.1, h.2.2.1.1, h.2.2.1.2⟩)
theorem OM.big {m : Mp} (h : OM m) : Big m := ⟨by have := h.r; omega, by have := h.w; omega, fun w hw => by have := h.s w hw; omega⟩
end Go.Proofs.Ytfbdlmenhoagmaa

namespace Go.Proofs.Ytfbdlmenhoagmaa
open Go Sy
set_option linter.unusedVariables false
def evL (n : Nat) : List Int := (List.range n).map fun i : Nat => (i : Int)
theorem ev_mem {n : Nat} {x : Int} : x ∈ evL n ↔ 0 ≤ x ∧ x < n := by
  unfold evL
  rw [List.mem_map]
  constructor
  · rintro ⟨i, hi, rfl⟩
    have := List.mem_range.1 hi
    omega
  · rintro ⟨h1, h2⟩
    exact ⟨x.toNat, List.mem_range.2 (by omega), by omega⟩
theorem rng_srt {n : Nat} : ∀ (k lo : Nat), lo + k ≤ n → Srt n lo ((List.range' lo k).map fun i : Nat => (i : Int))
  | 0, lo, h => trivial
  | k + 1, lo, h => by
    rw [List.range'_succ, List.map_cons]
    refine ⟨Int.le_refl _, by omega, ?_⟩
    have := rng_srt (n := n) k (lo + 1) (by omega)
    exact this
theorem ev_srt (n : Nat) : Srt n 0 (evL n) := by
  have := rng_srt (n := n) n 0 (by omega)
  unfold evL
  rw [List.range_eq_range']
  exact this
theorem ev_succ (n : Nat) : evL (n + 1) = evL n ++ [(n : Int)] := by
  unfold evL
  rw [List.range_succ, List.map_append]; rfl
theorem ev_len (n : Nat) : (evL n).length = n := by simp [evL]
theorem msk_ev (n : Nat) : msk (evL n) = 2 ^ n - 1 := by
  apply Nat.eq_of_testBit_eq
  intro i
  rw [(msk_bits fun x hx => (ev_mem.1 hx).1).b, Nat.testBit_two_pow_sub_one]
  congr 1
  rw [ev_mem, eq_iff_iff]
  omega
theorem limL_iff {m : Mp} {road k : Nat} {b : Int} : ∀ {l : List Int} {a : Int}, l.foldl (fun n x => limS m road k n x.toNat) a ≤ b ↔ a ≤ b ∧ ∀ x ∈ l, ((gw m x.toNat).k = k ∧ (road : Int) ∈ (gw m x.toNat).rs) → (gw m x.toNat).l ≤ b
  | [], a => by simp
  | x :: l, a => by
    rw [List.foldl_cons, limL_iff]
    unfold limS
    constructor
    · rintro ⟨h1, h2⟩
      by_cases q : (gw m x.toNat).k = k ∧ (road : Int) ∈ (gw m x.toNat).rs
      · rw [if_pos q] at h1
        refine ⟨by omega, fun y hy hq => ?_⟩
        rcases List.mem_cons.1 hy with rfl | hy
        · omega
        · exact h2 y hy hq
      · rw [if_neg q] at h1
        refine ⟨h1, fun y hy hq => ?_⟩
        rcases List.mem_cons.1 hy with rfl | hy
        · exact absurd hq q
        · exact h2 y hy hq
    · rintro ⟨h1, h2⟩
      refine ⟨?_, fun y hy hq => h2 y (List.mem_cons_of_mem _ hy) hq⟩
      split
      · rename_i q
        have := h2 x List.mem_cons_self q
        omega
      · exact h1
theorem setB_at {l : List Int} {n : Int} (h : setB l n = true) : ∀ i, i < l.length → lastI l i < gi l i ∧ gi l i < n := fun i hi => by
  unfold setB at h
  rw [List.all_eq_true] at h
  have := h i (List.mem_range.2 hi)
  unfold okAt at this
  rwa [Bool.and_eq_true, decide_eq_true_eq, decide_eq_true_eq] at this
theorem srt_of {n : Int} : ∀ (l : List Int) (lo : Int), (∀ i, i < l.length → (if i = 0 then lo - 1 else gi l (i - 1)) < gi l i ∧ gi l i < n) → Srt n lo l
  | [], lo, _ => trivial
  | x :: l, lo, h => by
    have h0 := h 0 (by simp)
    rw [if_pos rfl] at h0
    have e0 : gi (x :: l) 0 = x := rfl
    rw [e0] at h0
    refine ⟨by omega, h0.2, srt_of l (x + 1) (fun i hi => ?_)⟩
    have h1 := h (i + 1) (by simpa using hi)
    rw [if_neg (by omega)] at h1
    have e1 : gi (x :: l) (i + 1) = gi l i := by simp [gi]
    rw [e1] at h1
    by_cases q : i = 0
    · rw [if_pos q]
      subst q
      have e2 : gi (x :: l) (0 + 1 - 1) = x := rfl
      rw [e2] at h1
      exact ⟨by omega, h1.2⟩
    · rw [if_neg q]
      have e2 : gi (x :: l) (i + 1 - 1) = gi l (i - 1) := by
        obtain ⟨j, rfl⟩ : ∃ j, i = j + 1 := ⟨i - 1, by omega⟩
        simp [gi]
      rw [e2] at h1
      exact h1
theorem setB_srt {l : List Int} {n : Int} (h : setB l n = true) : Srt n 0 l := srt_of l 0 (fun i hi => by
  have := setB_at h i hi
  unfold lastI at this
  split <;> rename_i q
  · rw [if_pos q] at this; omega
  · rw [if_neg q] at this; exact this)
theorem Wk.pre {es : List Edg} {e : Edg} (he : e ∈ es) (hc : 0 ≤ e.c) {y : Nat} {d : Int} (h : Wk es e.y y d) : Wk es e.x y (e.c + d) := by
  induction h with
  | nil => rw [show e.c + 0 = 0 + e.c by omega]; exact .snoc .nil he hc
  | snoc _ h2 h3 ih => rw [← Int.add_assoc]; exact .snoc ih h2 h3
theorem Wk.rev {m : Mp} {c : Nat → Int} {bk : Bool} {s y : Nat} {d : Int} (h : Wk (edgC m bk c) s y d) : Wk (edgC m (!bk) c) y s d := by
  induction h with
  | nil => exact .nil
  | snoc _ h2 h3 ih =>
    rename_i e d' _
    obtain ⟨i, hi, rfl⟩ := List.mem_map.1 h2
    have e1 : (edC m (!bk) c i).x = (edC m bk c i).y := by cases bk <;> rfl
    have e2 : (edC m (!bk) c i).y = (edC m bk c i).x := by cases bk <;> rfl
    have e3 : (edC m (!bk) c i).c = (edC m bk c i).c := by cases bk <;> rfl
    rw [← e2] at ih
    have := Wk.pre (List.mem_map.2 ⟨i, hi, rfl⟩) (by rw [e3]; exact h3) ih
    rw [e1, e3] at this
    rw [Int.add_comm]
    exact this
theorem dist_bound {es : List Edg} {s n : Nat} {os : List Int} (hr : ∀ e ∈ es, e.x < n ∧ e.y < n) (hp : ∀ e ∈ es, 0 ≤ e.c → 1 ≤ e.c ∧ e.c ≤ 1073741824) (h : Dst es s n os) (hf : Fix es os) : ∀ (k y : Nat), rk os n y ≤ k → y < n → gi os y < far → gi os y ≤ k * 1073741824
  | 0, y, hk, hy, hl => by
    rcases last_road hr h hf hy hl with rfl | ⟨e, he, h1, h2, h3⟩
    · rw [h.src]; omega
    · have := rk_lt (os := os) (x := e.x) (y := y) (hr e he).1 (by have := hp e he h2; omega)
      omega
  | k + 1, y, hk, hy, hl => by
    rcases last_road hr h hf hy hl with rfl | ⟨e, he, h1, h2, h3⟩
    · rw [h.src]; omega
    · have hc := hp e he h2
      have := rk_lt (os := os) (x := e.x) (y := y) (hr e he).1 (by omega)
      have := dist_bound hr hp h hf k e.x (by omega) (hr e he).1 (by omega)
      push_cast
      omega
theorem fin_iff {m : Mp} (h : OkM m) (f : Nat → Int) (s : List Int) (bk : Bool) {to : Int} (ht : 0 ≤ to ∧ to < m.n) {y : Nat} (hy : y < m.n.toNat) : (gi (dstC m bk (cU m f s) to) y < far → gi (dstC m bk (cU m f s) to) y ≤ 68719476736) := by
  obtain ⟨h1, h2⟩ := dL_dst h f s bk ht
  obtain ⟨k1, k2⟩ := edgC_ok h bk (c := cU m f s) (fun i hi => (cU_rng h f s hi).1)
  intro hl
  have hp : ∀ e ∈ edgC m bk (cU m f s), 0 ≤ e.c → 1 ≤ e.c ∧ e.c ≤ 1073741824 := fun e he hc => by
    obtain ⟨i, hi, rfl⟩ := List.mem_map.1 he
    have ec : (edC m bk (cU m f s) i).c = cU m f s i := by unfold edC; split <;> rfl
    have := cU_rng h f s (List.mem_range.1 hi)
    rw [ec] at hc ⊢
    omega
  have := dist_bound k1 hp h1 h2 m.n.toNat y (rk_le _ _ _) hy hl
  have := h.n
  have : (m.n.toNat : Int) * 1073741824 ≤ 64 * 1073741824 := by omega
  omega
theorem us_edge {m : Mp} {f : Nat → Int} {s : List Int} {bk : Bool} {i : Nat} (hi : i < m.rs.length) (hu : usB m f s i = true) : edC m bk (cU m f s) i ∈ edgC m bk (cU m f s) ∧ (edC m bk (cU m f s) i).c = (gr m i).c := by
  refine ⟨List.mem_map.2 ⟨i, List.mem_range.2 hi, rfl⟩, ?_⟩
  have ec : (edC m bk (cU m f s) i).c = cU m f s i := by unfold edC; split <;> rfl
  rw [ec]; unfold cU edB; simp [hu]
theorem edge_us {m : Mp} {f : Nat → Int} {s : List Int} {bk : Bool} {e : Edg} (he : e ∈ edgC m bk (cU m f s)) (hc : 0 ≤ e.c) : ∃ i, i < m.rs.length ∧ e = edC m bk (cU m f s) i ∧ usB m f s i = true := by
  obtain ⟨i, hi, rfl⟩ := List.mem_map.1 he
  refine ⟨i, List.mem_range.1 hi, rfl, ?_⟩
  have ec : (edC m bk (cU m f s) i).c = cU m f s i := by unfold edC; split <;> rfl
  rw [ec] at hc
  apply Classical.byContradiction
  intro z
  have : cU m f s i = -1 := by unfold cU edB; simp [z]
  omega
def rcP (m : Mp) (f : Nat → Int) (s : List Int) (a : Int) (i : Int) : Bool := decide (gi (dstC m false (cU m f s) a) i.toNat < 1125899906842624)
def rcL (m : Mp) (f : Nat → Int) (s : List Int) (a : Int) : List Int := (evL m.n.toNat).filter (rcP m f s a)
def cutB (m : Mp) (f : Nat → Int) (l : List Int) (i : Nat) : Bool := decide ((gr m i).f ∈ l) && !decide ((gr m i).t ∈ l) && usB m f (evL m.ws.length) i
def ctE (m : Mp) (f : Nat → Int) (fr to : Int) (l : List Int) : Int :=
  if opE m f = 0 then (if plB m.n fr = true ∧ plB m.n to = true then (if setB l m.n = true then (if fr ∈ l ∧ to ∉ l then (if (List.range m.rs.length).any (cutB m f l) = true then 16 else 0) else 16) else 3) else 3) else opE m f
end Go.Proofs.Ytfbdlmenhoagmaa

namespace Go.Proofs.Ytfbdlmenhoagmaa
open Go Sy
set_option maxRecDepth 100000
set_option maxHeartbeats 4000000
set_option linter.unusedVariables false
set_option linter.unusedSimpArgs false
theorem fn77 (m : Mp) (f : Nat → Int) (h : m.ws.length ≤ 10) : Sy.Fn Try.prog 77 [aAt m f] (uv (msk (evL m.ws.length))) := by
  refine Fn_of_W mixed Xt77 rfl ?_
  rw [msk_ev]
  obtain ⟨n, hn⟩ : ∃ n, n = m.ws.length := ⟨_, rfl⟩
  rw [← hn] at h ⊢
  have e : IntKind.u64.wrap (IntKind.u64.wrap (1 * 2 ^ min n IntKind.u64.bits) - 1) = ((2 ^ n - 1 : Nat) : Int) := by
    have : n = 0 ∨ n = 1 ∨ n = 2 ∨ n = 3 ∨ n = 4 ∨ n = 5 ∨ n = 6 ∨ n = 7 ∨ n = 8 ∨ n = 9 ∨ n = 10 := by omega
    rcases this with rfl | rfl | rfl | rfl | rfl | rfl | rfl | rfl | rfl | rfl | rfl <;> decide
  repeat' (first | refine w1g ?_ | refine w1l ?_ | refine w1q ?_ | refine w1b ?_ | refine w1p ?_ | ((first | refine w1r ?_ | refine w1k ?_ | refine w1e ?_); simp (maxSteps := 400000) (disch := omega) only [push_cast, ↓reduceIte, reduceCtorEq, Nat.reduceAdd, Nat.reduceSub, Nat.reduceEqDiff, Nat.reduceLeDiff, Nat.reduceLT, Nat.reduceBEq, Nat.reduceDiv, Nat.reduceMod, Nat.reducePow, Nat.reduceMul, Int.reduceToNat, Int.reduceLT, Int.reduceLE, ← hn, e]) | refine an2 ?_ | fail)
  exact W_ret ⟨[_], ⟨rfl, rfl⟩, rfl⟩
theorem fn76 (l : List Int) (n : Nat) (hn : n ≤ 10) (hs : Srt n 0 l) : Sy.Fn Try.prog 76 [aI l] (uv (msk l)) := by
  refine Fn_of_W mixed Xt76 rfl ?_
  have hl := hs.len (by omega)
  repeat' (first | refine w1g ?_ | refine w1l ?_ | refine w1q ?_ | refine w1b ?_ | refine w1p ?_ | ((first | refine w1r ?_ | refine w1k ?_ | refine w1e ?_); (refine sy1 ?_; try exact True.intro)) | refine an2 ?_ | fail)
  refine W_loopU (fun i : Nat => [(3, uv (msk (l.take i))), (8, iv i)]) (fun i => []) (fun i => i ≤ l.length) (fun i => l.length - i) 0 (by omega) (by rfl) (by rfl) (fun i hi => ?_)
  (refine sy1 ?_; try exact True.intro)
  repeat' (first | refine w1g ?_ | refine w1l ?_ | refine w1q ?_ | refine w1b ?_ | refine w1p ?_ | ((first | refine w1r ?_ | refine w1k ?_ | refine w1e ?_); (refine sy1 ?_; try exact True.intro)) | refine an2 ?_ | fail)
  refine W_condD (by rfl) (fun h5 => ?_) (fun h5 => ?_)
  · have hlt : i < l.length := by omega
    have hm := hs.mem _ (getD_mem 0 l i hlt)
    obtain ⟨j, hj⟩ : ∃ j : Nat, l.getD i 0 = j := ⟨(l.getD i 0).toNat, by omega⟩
    have htk : l.take (i + 1) = l.take i ++ [(j : Int)] := by rw [take_snoc hlt]; show _ = _; rw [← hj]
    have e5 := or_msk (x := l.take i) (j := j) (by
      have h1 : ∀ x ∈ l.take i, 0 ≤ x ∧ x < n := fun x hx => hs.mem x (List.mem_of_mem_take hx)
      have := bits_lt (n := 10) (msk_bits fun x hx => (h1 x hx).1) (fun x hx => by have := h1 x hx; omega)
      simpa using this) (by omega)
    rw [← htk] at e5
    repeat' (first | refine w1g ?_ | refine w1l ?_ | refine w1q ?_ | refine w1b ?_ | refine w1p ?_ | ((first | refine w1r ?_ | refine w1k ?_ | refine w1e ?_); simp (maxSteps := 400000) (disch := omega) only [push_cast, ↓reduceIte, reduceCtorEq, Nat.reduceAdd, Nat.reduceSub, Nat.reduceEqDiff, Nat.reduceLeDiff, Nat.reduceLT, Nat.reduceBEq, Nat.reduceDiv, Nat.reduceMod, Nat.reducePow, Nat.reduceMul, Int.reduceToNat, Int.reduceLT, Int.reduceLE, hj, e5, Int.toNat_natCast]) | refine an2 ?_ | fail)
    refine ⟨i + 1, by omega, by omega, by rfl, ?_⟩
    (refine syE ?_; try exact True.intro)
  · have hil : i = l.length := by omega
    subst hil
    rw [List.take_length]
    repeat' (first | refine w1g ?_ | refine w1l ?_ | refine w1q ?_ | refine w1b ?_ | refine w1p ?_ | ((first | refine w1r ?_ | refine w1k ?_ | refine w1e ?_); (refine sy1 ?_; try exact True.intro)) | refine an2 ?_ | fail)
    exact W_ret ⟨[_], ⟨rfl, rfl⟩, rfl⟩
def rcE (m : Mp) (f : Nat → Int) (s : List Int) (a : Int) : Int := if opE m f = 0 then (if setB s m.ws.length = true then (if plB m.n a = true then 0 else 3) else 3) else opE m f
def rcV (m : Mp) (f : Nat → Int) (s : List Int) (a : Int) : List Int := if rcE m f s a = 0 then rcL m f s a else []
theorem fil_succ (p : Int → Bool) (i : Nat) : (evL (i + 1)).filter p = (evL i).filter p ++ (if p i = true then [(i : Int)] else []) := by
  rw [ev_succ, List.filter_append]
  congr 1
  cases h : p (i : Int) <;> simp [List.filter, h]
theorem fn24 (m : Mp) (f : Nat → Int) (s : List Int) (a : Int) (hm : Gm m) (hl : s.length ≤ 1000000) : Sy.Fn Try.prog 24 [aM m, .agg (c6 f), aI s, iv a] (.tup [aI (rcV m f s a), iv (rcE m f s a)]) := by
  refine Fn_of_W mixed Xt24 rfl ?_
  have c52 := fn52 m f hm
  by_cases h0 : opE m f = 0
  rotate_left
  · have e1 : rcE m f s a = opE m f := by unfold rcE; rw [if_neg h0]
    have e2 : rcV m f s a = [] := by unfold rcV; rw [e1, if_neg h0]
    rw [e1, e2]
    have hv : opV m f = cAt m f ∨ opV m f = zAt := by
      unfold opV
      split
      · exact .inl rfl
      · exact .inr rfl
    generalize opE m f = e at *
    rcases hv with hv | hv
    all_goals
      rw [hv] at c52
      try unfold zAt at c52
      repeat' (first | refine w1g ?_ | refine w1l ?_ | refine w1q ?_ | refine w1b ?_ | refine w1p ?_ | ((first | refine w1r ?_ | refine w1k ?_ | refine w1e ?_ | refine CallC.now (c52) ?_); (refine sy1 ?_; try exact True.intro)) | refine an2 ?_ | fail)
      refine W_cond (by rfl) (fun h => ?_) (fun h => ?_)
      · repeat' (first | refine w1g ?_ | refine w1l ?_ | refine w1q ?_ | refine w1b ?_ | refine w1p ?_ | ((first | refine w1r ?_ | refine w1k ?_ | refine w1e ?_); (refine sy1 ?_; try exact True.intro)) | refine an2 ?_ | fail)
        refine W_le (le_nil 8 1 0 cI rfl) ?_
        exact W_ret ⟨[_, _], ⟨rfl, rfl, rfl⟩, rfl⟩
      · exact absurd (by simpa using h) h0
  have hchk : chkM m = 0 ∧ szE f = 0 := by
    unfold opE at h0
    by_cases q : chkM m = 0
    · rw [if_pos q] at h0; exact ⟨q, h0⟩
    · rw [if_neg q] at h0; exact absurd h0 q
  have hv : opV m f = cAt m f := by unfold opV; rw [if_pos hchk.1]
  have hok := chkM_ok hchk.1
  rw [hv, h0] at c52
  repeat' (first | refine w1g ?_ | refine w1l ?_ | refine w1q ?_ | refine w1b ?_ | refine w1p ?_ | ((first | refine w1r ?_ | refine w1k ?_ | refine w1e ?_ | refine CallC.now (c52) ?_); (refine sy1 ?_; try exact True.intro)) | refine an2 ?_ | fail)
  refine W_cond (by rfl) (fun h => by cases h) (fun h => ?_)
  have c73 := fn73 s m.ws.length (by omega)
  by_cases h1 : setB s m.ws.length = true
  rotate_left
  · have e1 : rcE m f s a = 3 := by unfold rcE; rw [if_pos h0, if_neg h1]
    have e2 : rcV m f s a = [] := by unfold rcV; rw [e1]; rfl
    rw [Bool.not_eq_true] at h1
    rw [h1] at c73
    rw [e1, e2]
    repeat' (first | refine w1g ?_ | refine w1l ?_ | refine w1q ?_ | refine w1b ?_ | refine w1p ?_ | ((first | refine w1r ?_ | refine w1k ?_ | refine w1e ?_ | refine CallC.now (c73) ?_); (refine sy1 ?_; try exact True.intro)) | refine an2 ?_ | fail)
    refine W_cond (by rfl) (fun h => ?_) (fun h => by cases h)
    repeat' (first | refine w1g ?_ | refine w1l ?_ | refine w1q ?_ | refine w1b ?_ | refine w1p ?_ | ((first | refine w1r ?_ | refine w1k ?_ | refine w1e ?_); (refine sy1 ?_; try exact True.intro)) | refine an2 ?_ | fail)
    refine W_le (le_nil 8 1 0 cI rfl) ?_
    exact W_ret ⟨[_, _], ⟨rfl, rfl, rfl⟩, rfl⟩
  rw [h1] at c73
  have hss := setB_srt h1
  repeat' (first | refine w1g ?_ | refine w1l ?_ | refine w1q ?_ | refine w1b ?_ | refine w1p ?_ | ((first | refine w1r ?_ | refine w1k ?_ | refine w1e ?_ | refine CallC.now (c73) ?_); (refine sy1 ?_; try exact True.intro)) | refine an2 ?_ | fail)
  refine W_cond (by rfl) (fun h => by cases h) (fun h => ?_)
  have c53 := fn53 m [a] (by simp)
  have hpl : plsB m [a] = plB m.n a := by simp [plsB]
  rw [hpl] at c53
  by_cases h2 : plB m.n a = true
  rotate_left
  · have e1 : rcE m f s a = 3 := by unfold rcE; rw [if_pos h0, if_pos h1, if_neg h2]
    have e2 : rcV m f s a = [] := by unfold rcV; rw [e1]; rfl
    rw [Bool.not_eq_true] at h2
    rw [h2] at c53
    rw [e1, e2]
    repeat' (first | refine w1g ?_ | refine w1l ?_ | refine w1q ?_ | refine w1b ?_ | refine w1p ?_ | ((first | refine w1r ?_ | refine w1k ?_ | refine w1e ?_); (refine sy1 ?_; try exact True.intro)) | refine an2 ?_ | fail)
    refine ⟨rfl, trivial, Int, 0, cI, [a], rfl, by omega, fun x _ => ⟨rfl, rfl⟩, rfl, ?_⟩
    (refine sy1 ?_; try exact True.intro)
    repeat' (first | refine w1g ?_ | refine w1l ?_ | refine w1q ?_ | refine w1b ?_ | refine w1p ?_ | ((first | refine w1r ?_ | refine w1k ?_ | refine w1e ?_ | refine CallC.go _ (fun _ => ⟨trivial, c53⟩) rfl ?_); (refine sy1 ?_; try exact True.intro)) | refine an2 ?_ | fail)
    refine W_cond (by rfl) (fun h => ?_) (fun h => by cases h)
    repeat' (first | refine w1g ?_ | refine w1l ?_ | refine w1q ?_ | refine w1b ?_ | refine w1p ?_ | ((first | refine w1r ?_ | refine w1k ?_ | refine w1e ?_); (refine sy1 ?_; try exact True.intro)) | refine an2 ?_ | fail)
    refine W_le (le_nil 8 1 0 cI rfl) ?_
    exact W_ret ⟨[_, _], ⟨rfl, rfl, rfl⟩, rfl⟩
  rw [h2] at c53
  have ha : 0 ≤ a ∧ a < m.n := by unfold plB at h2; simpa using h2
  have e1 : rcE m f s a = 0 := by unfold rcE; rw [if_pos h0, if_pos h1, if_pos h2]
  have e2 : rcV m f s a = rcL m f s a := by unfold rcV; rw [if_pos e1]
  rw [e1, e2]
  repeat' (first | refine w1g ?_ | refine w1l ?_ | refine w1q ?_ | refine w1b ?_ | refine w1p ?_ | ((first | refine w1r ?_ | refine w1k ?_ | refine w1e ?_); (refine sy1 ?_; try exact True.intro)) | refine an2 ?_ | fail)
  refine ⟨rfl, trivial, Int, 0, cI, [a], rfl, by omega, fun x _ => ⟨rfl, rfl⟩, rfl, ?_⟩
  (refine sy1 ?_; try exact True.intro)
  repeat' (first | refine w1g ?_ | refine w1l ?_ | refine w1q ?_ | refine w1b ?_ | refine w1p ?_ | ((first | refine w1r ?_ | refine w1k ?_ | refine w1e ?_ | refine CallC.go _ (fun _ => ⟨trivial, c53⟩) rfl ?_); (refine sy1 ?_; try exact True.intro)) | refine an2 ?_ | fail)
  refine W_cond (by rfl) (fun h => by cases h) (fun h => ?_)
  have c57 := dL_fn m f s a false hok hss ha
  have hdl := dL_len hok f s false ha
  have hp : rcP m f s a = fun i => decide (gi (dstC m false (cU m f s) a) i.toNat < 1125899906842624) := rfl
  unfold rcL
  rw [hp]
  clear hp
  generalize dstC m false (cU m f s) a = D at *
  have hn := hok.n
  obtain ⟨n, hnn⟩ : ∃ n : Nat, n = m.n.toNat := ⟨_, rfl⟩
  rw [← hnn] at hdl ⊢
  repeat' (first | refine w1g ?_ | refine w1l ?_ | refine w1q ?_ | refine w1b ?_ | refine w1p ?_ | ((first | refine w1r ?_ | refine w1k ?_ | refine w1e ?_ | refine CallC.now (fn76 s m.ws.length hok.nw hss) ?_ | refine CallC.now (fn58 m f (msk s)) ?_ | refine CallC.now (c57) ?_); (refine sy1 ?_; try exact True.intro)) | refine an2 ?_ | fail)
  refine W_le (le_adopt 13 3 1 (0 : Int) cI (by omega) rfl) ?_
  (refine sy1 ?_; try exact True.intro)
  obtain ⟨p, hp⟩ : ∃ p : Int → Bool, p = fun i => decide (gi D i.toNat < 1125899906842624) := ⟨_, rfl⟩
  rw [← hp]
  refine W_loopU (fun i : Nat => [(13, .row 38 ((evL i).filter p).length), (46, iv i)]) (fun i => [(38, .row ((evL i).filter p).length 3 1 0 cI ((evL i).filter p))]) (fun i => i ≤ n) (fun i => n - i) 0 (by omega) (by rfl) (by rfl) (fun i hi => ?_)
  have gI : ∀ (l : List Int) i, l.getD i 0 = gi l i := fun _ _ => rfl
  have hfl : ((evL i).filter p).length ≤ i := by have := List.length_filter_le p (evL i); rw [ev_len] at this; exact this
  have hfs := fil_succ p i
  have hpi : p (i : Int) = decide (gi D i < 1125899906842624) := by rw [hp]; rfl
  (refine sy1 ?_; try exact True.intro)
  repeat' (first | refine w1g ?_ | refine w1l ?_ | refine w1q ?_ | refine w1b ?_ | refine w1p ?_ | ((first | refine w1r ?_ | refine w1k ?_ | refine w1e ?_); (refine sy1 ?_; try exact True.intro)) | refine an2 ?_ | fail)
  refine W_condD (by rfl) (fun h5 => ?_) (fun h5 => ?_)
  · have hlt : i < n := by omega
    repeat' (first | refine w1g ?_ | refine w1l ?_ | refine w1q ?_ | refine w1b ?_ | refine w1p ?_ | ((first | refine w1r ?_ | refine w1k ?_ | refine w1e ?_); simp (maxSteps := 400000) (disch := omega) only [push_cast, ↓reduceIte, reduceCtorEq, Nat.reduceAdd, Nat.reduceSub, Nat.reduceEqDiff, Nat.reduceLeDiff, Nat.reduceLT, Nat.reduceBEq, Nat.reduceDiv, Nat.reduceMod, Nat.reducePow, Nat.reduceMul, Int.reduceToNat, Int.reduceLT, Int.reduceLE, gI]) | refine an2 ?_ | fail)
    refine W_cond (by rfl) (fun h6 => ?_) (fun h6 => ?_)
    · rw [hpi, h6, if_pos rfl] at hfs
      repeat' (first | refine w1g ?_ | refine w1l ?_ | refine w1q ?_ | refine w1b ?_ | refine w1p ?_ | ((first | refine w1r ?_ | refine w1k ?_ | refine w1e ?_); (refine sy1 ?_; try exact True.intro)) | refine an2 ?_ | fail)
      refine ⟨rfl, trivial, Int, 0, cI, [(i : Int)], rfl, by omega, fun x _ => ⟨rfl, rfl⟩, rfl, ?_⟩
      (refine sy1 ?_; try exact True.intro)
      refine ⟨rfl, ⟨Nat.le_of_ble_eq_true rfl, rfl⟩, trivial, [(i : Int)], rfl, by first | omega | (simp; omega), by first | omega | (simp; omega), ?_⟩
      (refine sy1 ?_; try exact True.intro)
      repeat' (first | refine w1g ?_ | refine w1l ?_ | refine w1q ?_ | refine w1b ?_ | refine w1p ?_ | ((first | refine w1r ?_ | refine w1k ?_ | refine w1e ?_); (refine sy1 ?_; try exact True.intro)) | refine an2 ?_ | fail)
      refine ⟨i + 1, by omega, by omega, by rfl, ?_⟩
      rw [hfs, List.length_append]
      (refine syE ?_; try exact True.intro)
    · rw [hpi, h6, if_neg (by decide), List.append_nil] at hfs
      repeat' (first | refine w1g ?_ | refine w1l ?_ | refine w1q ?_ | refine w1b ?_ | refine w1p ?_ | ((first | refine w1r ?_ | refine w1k ?_ | refine w1e ?_); (refine sy1 ?_; try exact True.intro)) | refine an2 ?_ | fail)
      refine ⟨i + 1, by omega, by omega, by rfl, ?_⟩
      rw [hfs]
      (refine syE ?_; try exact True.intro)
  · have hin : i = n := by omega
    rw [hin]
    repeat' (first | refine w1g ?_ | refine w1l ?_ | refine w1q ?_ | refine w1b ?_ | refine w1p ?_ | ((first | refine w1r ?_ | refine w1k ?_ | refine w1e ?_); (refine sy1 ?_; try exact True.intro)) | refine an2 ?_ | fail)
    refine W_ret ⟨[_, _], ⟨rfl, rfl, rfl⟩, ?_⟩
    simp (maxSteps := 400000) (disch := omega) only [push_cast, ↓reduceIte, reduceCtorEq, Nat.reduceAdd, Nat.reduceSub, Nat.reduceEqDiff, Nat.reduceLeDiff, Nat.reduceLT, Nat.reduceBEq, Nat.reduceDiv, Nat.reduceMod, Nat.reducePow, Nat.reduceMul, Int.reduceToNat, Int.reduceLT, Int.reduceLE, pack]
end Go.Proofs.Ytfbdlmenhoagmaa

namespace Go.Proofs.Ytfbdlmenhoagmaa
open Go Sy
set_option maxRecDepth 100000
set_option maxHeartbeats 4000000
set_option linter.unusedVariables false
set_option linter.unusedSimpArgs false
theorem range_any {p : Nat → Bool} {n i : Nat} (hi : i < n) (h : p i = true) : (List.range n).any p = true := List.any_eq_true.2 ⟨i, by simpa using hi, h⟩
theorem range_none {p : Nat → Bool} {n : Nat} (h : ∀ j, j < n → p j = false) : (List.range n).any p = false := by
  rw [← Bool.not_eq_true, List.any_eq_true]
  rintro ⟨x, hx, hp⟩
  rw [h x (List.mem_range.1 hx)] at hp
  cases hp
def cB (x : Bool) : List AV := [bv x]
theorem nB (x : Bool) : nth (cB x) 0 = bv x := rfl
theorem lB (x : Bool) : (cB x).length = 1 := rfl
theorem frB (x : Bool) : frzAll (cB x) = true := rfl
theorem tB (x : Bool) : List.take 1 (List.drop 0 (cB x)) = cB x := rfl
attribute [push_cast] nB lB frB tB
def tbB (n : Nat) (g : Nat → Bool) : List Bool := (List.range n).map g
theorem tbB_len (n : Nat) (g : Nat → Bool) : (tbB n g).length = n := by simp [tbB]
theorem tbB_at {n j : Nat} (g : Nat → Bool) (h : j < n) : (tbB n g).getD j false = g j := by simp [tbB, List.getD, h]
theorem tbB_set {n j : Nat} {g h : Nat → Bool} {v : Bool} (hj : h j = v) (hh : ∀ i, i < n → i ≠ j → g i = h i) : (tbB n g).set j v = tbB n h := by
  apply List.ext_getElem (by rw [List.length_set, tbB_len, tbB_len])
  intro i h1 h2
  rw [tbB_len] at h2
  rw [List.getElem_set]
  split
  · rename_i q; subst q; rw [← hj]; simp [tbB]
  · rename_i q
    simp only [tbB, List.getElem_map, List.getElem_range]
    exact hh i h2 (fun e => q e.symm)
theorem tbB_rep (n : Nat) (v : Bool) : tbB n (fun _ => v) = List.replicate n v := by
  unfold tbB
  rw [List.eq_replicate_iff]
  refine ⟨by simp, fun b hb => ?_⟩
  obtain ⟨i, _, rfl⟩ := List.mem_map.1 hb
  rfl
def inT (l : List Int) (i : Nat) : Bool := decide ((i : Int) ∈ l)
theorem inT_snoc {n : Nat} {l : List Int} {i : Nat} (h : i < l.length) (hr : 0 ≤ gi l i ∧ gi l i < n) : (tbB n (inT (l.take i))).set (gi l i).toNat true = tbB n (inT (l.take (i + 1))) := by
  rw [take_snoc h]
  refine tbB_set ?_ (fun j hj hne => ?_)
  · unfold inT
    rw [decide_eq_true_eq, List.mem_append]
    right
    rw [List.mem_singleton]; omega
  · unfold inT
    congr 1
    rw [List.mem_append, List.mem_singleton, eq_iff_iff]
    constructor
    · exact .inl
    · rintro (q | q)
      · exact q
      · omega
theorem fn23 (m : Mp) (f : Nat → Int) (fr to : Int) (l : List Int) (hm : Gm m) (hl : l.length ≤ 1000000) : Sy.Fn Try.prog 23 [aM m, .agg (c6 f), iv fr, iv to, aI l] (iv (ctE m f fr to l)) := by
  refine Fn_of_W mixed Xt23 rfl ?_
  have c52 := fn52 m f hm
  by_cases h0 : opE m f = 0
  rotate_left
  · have e1 : ctE m f fr to l = opE m f := by unfold ctE; rw [if_neg h0]
    rw [e1]
    have hv : opV m f = cAt m f ∨ opV m f = zAt := by
      unfold opV
      split
      · exact .inl rfl
      · exact .inr rfl
    generalize opE m f = e at *
    rcases hv with hv | hv
    all_goals
      rw [hv] at c52
      try unfold zAt at c52
      repeat' (first | refine w1g ?_ | refine w1l ?_ | refine w1q ?_ | refine w1b ?_ | refine w1p ?_ | ((first | refine w1r ?_ | refine w1k ?_ | refine w1e ?_ | refine CallC.now (c52) ?_); (refine sy1 ?_; try exact True.intro)) | refine an2 ?_ | fail)
      refine W_cond (by rfl) (fun h => ?_) (fun h => ?_)
      · repeat' (first | refine w1g ?_ | refine w1l ?_ | refine w1q ?_ | refine w1b ?_ | refine w1p ?_ | ((first | refine w1r ?_ | refine w1k ?_ | refine w1e ?_); (refine sy1 ?_; try exact True.intro)) | refine an2 ?_ | fail)
        exact W_ret ⟨[_], ⟨rfl, rfl⟩, rfl⟩
      · exact absurd (by simpa using h) h0
  have hchk : chkM m = 0 ∧ szE f = 0 := by
    unfold opE at h0
    by_cases q : chkM m = 0
    · rw [if_pos q] at h0; exact ⟨q, h0⟩
    · rw [if_neg q] at h0; exact absurd h0 q
  have hv : opV m f = cAt m f := by unfold opV; rw [if_pos hchk.1]
  have hok := chkM_ok hchk.1
  have hn := hok.n
  have hnr := hok.nr
  rw [hv, h0] at c52
  repeat' (first | refine w1g ?_ | refine w1l ?_ | refine w1q ?_ | refine w1b ?_ | refine w1p ?_ | ((first | refine w1r ?_ | refine w1k ?_ | refine w1e ?_ | refine CallC.now (c52) ?_); (refine sy1 ?_; try exact True.intro)) | refine an2 ?_ | fail)
  refine W_cond (by rfl) (fun h => by cases h) (fun h => ?_)
  have c53 := fn53 m [fr, to] (by simp)
  have hpl : plsB m [fr, to] = (plB m.n fr && plB m.n to) := by simp [plsB]
  rw [hpl] at c53
  repeat' (first | refine w1g ?_ | refine w1l ?_ | refine w1q ?_ | refine w1b ?_ | refine w1p ?_ | ((first | refine w1r ?_ | refine w1k ?_ | refine w1e ?_); (refine sy1 ?_; try exact True.intro)) | refine an2 ?_ | fail)
  refine ⟨rfl, trivial, Int, 0, cI, [fr, to], rfl, by omega, fun x _ => ⟨rfl, rfl⟩, rfl, ?_⟩
  (refine sy1 ?_; try exact True.intro)
  by_cases hp : plB m.n fr = true ∧ plB m.n to = true
  rotate_left
  · have e1 : ctE m f fr to l = 3 := by unfold ctE; rw [if_pos h0, if_neg hp]
    have e3 : (plB m.n fr && plB m.n to) = false := by rw [← Bool.not_eq_true, Bool.and_eq_true]; exact hp
    rw [e3] at c53
    rw [e1]
    repeat' (first | refine w1g ?_ | refine w1l ?_ | refine w1q ?_ | refine w1b ?_ | refine w1p ?_ | ((first | refine w1r ?_ | refine w1k ?_ | refine w1e ?_ | refine CallC.go _ (fun _ => ⟨trivial, c53⟩) rfl ?_); (refine sy1 ?_; try exact True.intro)) | refine an2 ?_ | fail)
    refine W_cond (by rfl) (fun h => ?_) (fun h => by cases h)
    repeat' (first | refine w1g ?_ | refine w1l ?_ | refine w1q ?_ | refine w1b ?_ | refine w1p ?_ | ((first | refine w1r ?_ | refine w1k ?_ | refine w1e ?_); (refine sy1 ?_; try exact True.intro)) | refine an2 ?_ | fail)
    exact W_ret ⟨[_], ⟨rfl, rfl⟩, rfl⟩
  have hp1 : (0 ≤ fr ∧ fr < m.n) ∧ (0 ≤ to ∧ to < m.n) := by
    have := hp.1; have := hp.2
    unfold plB at *
    simp only [Bool.and_eq_true, decide_eq_true_eq] at *
    omega
  have e3 : (plB m.n fr && plB m.n to) = true := by rw [hp.1, hp.2]; rfl
  rw [e3] at c53
  repeat' (first | refine w1g ?_ | refine w1l ?_ | refine w1q ?_ | refine w1b ?_ | refine w1p ?_ | ((first | refine w1r ?_ | refine w1k ?_ | refine w1e ?_ | refine CallC.go _ (fun _ => ⟨trivial, c53⟩) rfl ?_); (refine sy1 ?_; try exact True.intro)) | refine an2 ?_ | fail)
  refine W_cond (by rfl) (fun h => by cases h) (fun h => ?_)
  have c73 := fn73 l m.n (by omega)
  by_cases h1 : setB l m.n = true
  rotate_left
  · have e1 : ctE m f fr to l = 3 := by unfold ctE; rw [if_pos h0, if_pos hp, if_neg h1]
    rw [Bool.not_eq_true] at h1
    rw [h1] at c73
    rw [e1]
    repeat' (first | refine w1g ?_ | refine w1l ?_ | refine w1q ?_ | refine w1b ?_ | refine w1p ?_ | ((first | refine w1r ?_ | refine w1k ?_ | refine w1e ?_ | refine CallC.now (c73) ?_); (refine sy1 ?_; try exact True.intro)) | refine an2 ?_ | fail)
    refine W_cond (by rfl) (fun h => ?_) (fun h => by cases h)
    repeat' (first | refine w1g ?_ | refine w1l ?_ | refine w1q ?_ | refine w1b ?_ | refine w1p ?_ | ((first | refine w1r ?_ | refine w1k ?_ | refine w1e ?_); (refine sy1 ?_; try exact True.intro)) | refine an2 ?_ | fail)
    exact W_ret ⟨[_], ⟨rfl, rfl⟩, rfl⟩
  rw [h1] at c73
  have hss := setB_srt h1
  repeat' (first | refine w1g ?_ | refine w1l ?_ | refine w1q ?_ | refine w1b ?_ | refine w1p ?_ | ((first | refine w1r ?_ | refine w1k ?_ | refine w1e ?_ | refine CallC.now (c73) ?_); (refine sy1 ?_; try exact True.intro)) | refine an2 ?_ | fail)
  refine W_cond (by rfl) (fun h => by cases h) (fun h => ?_)
  have e4 : ctE m f fr to l = if fr ∈ l ∧ to ∉ l then (if (List.range m.rs.length).any (cutB m f l) = true then 16 else 0) else 16 := by unfold ctE; rw [if_pos h0, if_pos hp, if_pos h1]
  obtain ⟨n, hnn⟩ : ∃ n : Nat, m.n = n := ⟨m.n.toNat, by omega⟩
  rw [hnn] at hss hp1 hn
  repeat' (first | refine w1g ?_ | refine w1l ?_ | refine w1q ?_ | refine w1b ?_ | refine w1p ?_ | ((first | refine w1r ?_ | refine w1k ?_ | refine w1e ?_); simp (maxSteps := 400000) (disch := omega) only [push_cast, ↓reduceIte, reduceCtorEq, Nat.reduceAdd, Nat.reduceSub, Nat.reduceEqDiff, Nat.reduceLeDiff, Nat.reduceLT, Nat.reduceBEq, Nat.reduceDiv, Nat.reduceMod, Nat.reducePow, Nat.reduceMul, Int.reduceToNat, Int.reduceLT, Int.reduceLE, hnn]) | refine an2 ?_ | fail)
  refine ⟨rfl, ⟨by omega, by omega, by omega⟩, Bool, false, cB, false, rfl, rfl, by omega, rfl, ?_⟩
  simp (maxSteps := 400000) (disch := omega) only [push_cast, ↓reduceIte, reduceCtorEq, Nat.reduceAdd, Nat.reduceSub, Nat.reduceEqDiff, Nat.reduceLeDiff, Nat.reduceLT, Nat.reduceBEq, Nat.reduceDiv, Nat.reduceMod, Nat.reducePow, Nat.reduceMul, Int.reduceToNat, Int.reduceLT, Int.reduceLE, Int.toNat_natCast]
  repeat' (first | refine w1g ?_ | refine w1l ?_ | refine w1q ?_ | refine w1b ?_ | refine w1p ?_ | ((first | refine w1r ?_ | refine w1k ?_ | refine w1e ?_); simp (maxSteps := 400000) (disch := omega) only [push_cast, ↓reduceIte, reduceCtorEq, Nat.reduceAdd, Nat.reduceSub, Nat.reduceEqDiff, Nat.reduceLeDiff, Nat.reduceLT, Nat.reduceBEq, Nat.reduceDiv, Nat.reduceMod, Nat.reducePow, Nat.reduceMul, Int.reduceToNat, Int.reduceLT, Int.reduceLE, List.length_replicate]) | refine an2 ?_ | fail)
  refine W_loopU (fun i : Nat => [(46, iv i)]) (fun i => [(29, .row 0 4 1 false cB (tbB n (inT (l.take i))))]) (fun i => i ≤ l.length) (fun i => l.length - i) 0 (by omega) (by rfl) (by rw [← tbB_rep]; rfl) (fun i hi => ?_)
  (refine sy1 ?_; try exact True.intro)
  repeat' (first | refine w1g ?_ | refine w1l ?_ | refine w1q ?_ | refine w1b ?_ | refine w1p ?_ | ((first | refine w1r ?_ | refine w1k ?_ | refine w1e ?_); (refine sy1 ?_; try exact True.intro)) | refine an2 ?_ | fail)
  refine W_condD (by rfl) (fun h5 => ?_) (fun h5 => ?_)
  · have hlt : i < l.length := by omega
    have hme := hss.mem _ (getD_mem 0 l i hlt)
    have e5 := inT_snoc (n := n) hlt hme
    repeat' (first | refine w1g ?_ | refine w1l ?_ | refine w1q ?_ | refine w1b ?_ | refine w1p ?_ | ((first | refine w1r ?_ | refine w1k ?_ | refine w1e ?_); simp (maxSteps := 400000) (disch := omega) only [push_cast, ↓reduceIte, reduceCtorEq, Nat.reduceAdd, Nat.reduceSub, Nat.reduceEqDiff, Nat.reduceLeDiff, Nat.reduceLT, Nat.reduceBEq, Nat.reduceDiv, Nat.reduceMod, Nat.reducePow, Nat.reduceMul, Int.reduceToNat, Int.reduceLT, Int.reduceLE, tbB_len]) | refine an2 ?_ | fail)
    refine ⟨rfl, ⟨Nat.le_of_ble_eq_true rfl, rfl⟩, by omega, true, rfl, rfl, ?_⟩
    have gI : ∀ (l : List Int) i, l.getD i 0 = gi l i := fun _ _ => rfl
    rw [gI, e5]
    (refine sy1 ?_; try exact True.intro)
    repeat' (first | refine w1g ?_ | refine w1l ?_ | refine w1q ?_ | refine w1b ?_ | refine w1p ?_ | ((first | refine w1r ?_ | refine w1k ?_ | refine w1e ?_); (refine sy1 ?_; try exact True.intro)) | refine an2 ?_ | fail)
    refine ⟨i + 1, by omega, by omega, by rfl, ?_⟩
    (refine syE ?_; try exact True.intro)
  have hil : i = l.length := by omega
  subst hil
  rw [List.take_length]
  clear h5 hi
  have tl := tbB_len n (inT l)
  have at1 : (tbB n (inT l)).getD fr.toNat false = decide (fr ∈ l) := by
    rw [tbB_at _ (by omega)]; unfold inT; rw [show ((fr.toNat : Nat) : Int) = fr by omega]
  have at2 : (tbB n (inT l)).getD to.toNat false = decide (to ∈ l) := by
    rw [tbB_at _ (by omega)]; unfold inT; rw [show ((to.toNat : Nat) : Int) = to by omega]
  repeat' (first | refine w1g ?_ | refine w1l ?_ | refine w1q ?_ | refine w1b ?_ | refine w1p ?_ | ((first | refine w1r ?_ | refine w1k ?_ | refine w1e ?_); simp (maxSteps := 400000) (disch := omega) only [push_cast, ↓reduceIte, reduceCtorEq, Nat.reduceAdd, Nat.reduceSub, Nat.reduceEqDiff, Nat.reduceLeDiff, Nat.reduceLT, Nat.reduceBEq, Nat.reduceDiv, Nat.reduceMod, Nat.reducePow, Nat.reduceMul, Int.reduceToNat, Int.reduceLT, Int.reduceLE, tl, at1, at2]) | refine an2 ?_ | fail)
  refine W_cond (by rfl) (fun h6 => ?_) (fun h6 => ?_)
  · have e5 : ctE m f fr to l = 16 := by
      rw [e4, if_neg]
      rintro ⟨q1, q2⟩
      rw [decide_eq_true q1, decide_eq_false q2] at h6
      cases h6
    rw [e5]
    repeat' (first | refine w1g ?_ | refine w1l ?_ | refine w1q ?_ | refine w1b ?_ | refine w1p ?_ | ((first | refine w1r ?_ | refine w1k ?_ | refine w1e ?_); (refine sy1 ?_; try exact True.intro)) | refine an2 ?_ | fail)
    exact W_ret ⟨[_], ⟨rfl, rfl⟩, rfl⟩
  rw [Bool.or_eq_false_iff, Bool.not_eq_false', decide_eq_true_eq, decide_eq_false_iff_not] at h6
  rw [if_pos h6] at e4
  repeat' (first | refine w1g ?_ | refine w1l ?_ | refine w1q ?_ | refine w1b ?_ | refine w1p ?_ | ((first | refine w1r ?_ | refine w1k ?_ | refine w1e ?_); (refine sy1 ?_; try exact True.intro)) | refine an2 ?_ | fail)
  refine W_loopU (fun i : Nat => [(68, iv i)]) (fun i => []) (fun i => i ≤ m.rs.length ∧ ∀ j, j < i → cutB m f l j = false) (fun i => m.rs.length - i) 0 ⟨by omega, fun j hj => by omega⟩ (by rfl) (by rfl) (fun i hi => ?_)
  obtain ⟨hi, hall⟩ := hi
  (refine sy1 ?_; try exact True.intro)
  repeat' (first | refine w1g ?_ | refine w1l ?_ | refine w1q ?_ | refine w1b ?_ | refine w1p ?_ | ((first | refine w1r ?_ | refine w1k ?_ | refine w1e ?_); (refine sy1 ?_; try exact True.intro)) | refine an2 ?_ | fail)
  refine W_condD (by rfl) (fun h5 => ?_) (fun h5 => ?_)
  · have hlt : i < m.rs.length := by omega
    have ok := roadB_ok (hok.r i hlt)
    have ofr := ok.f; have otr := ok.t
    rw [hnn] at ofr otr
    have gR : m.rs.getD i dR = gr m i := rfl
    have at3 : (tbB n (inT l)).getD (gr m i).f.toNat false = decide ((gr m i).f ∈ l) := by
      rw [tbB_at _ (by omega)]; unfold inT; rw [show (((gr m i).f.toNat : Nat) : Int) = (gr m i).f by omega]
    have at4 : (tbB n (inT l)).getD (gr m i).t.toNat false = decide ((gr m i).t ∈ l) := by
      rw [tbB_at _ (by omega)]; unfold inT; rw [show (((gr m i).t.toNat : Nat) : Int) = (gr m i).t by omega]
    have c77 := fn77 m f hok.nw
    have c64 := fn64 m f (evL m.ws.length) (msk (evL m.ws.length)) i hok (setW_msk (ev_srt _)) hlt
    have ecut : cutB m f l i = (decide ((gr m i).f ∈ l) && !decide ((gr m i).t ∈ l) && usB m f (evL m.ws.length) i) := rfl
    generalize usB m f (evL m.ws.length) i = U at *
    generalize msk (evL m.ws.length) = M at *
    generalize gr m i = r at *
    repeat' (first | refine w1g ?_ | refine w1l ?_ | refine w1q ?_ | refine w1b ?_ | refine w1p ?_ | ((first | refine w1r ?_ | refine w1k ?_ | refine w1e ?_ | refine CallC.go _ (fun _ => ⟨trivial, c77⟩) rfl ?_ | refine CallC.go _ (fun _ => ⟨trivial, c64⟩) rfl ?_); simp (maxSteps := 400000) (disch := omega) only [push_cast, ↓reduceIte, reduceCtorEq, Nat.reduceAdd, Nat.reduceSub, Nat.reduceEqDiff, Nat.reduceLeDiff, Nat.reduceLT, Nat.reduceBEq, Nat.reduceDiv, Nat.reduceMod, Nat.reducePow, Nat.reduceMul, Int.reduceToNat, Int.reduceLT, Int.reduceLE, gR, tl, at3, at4]) | refine an2 ?_ | fail)
    rw [← ecut]
    refine W_cond (by rfl) (fun h7 => ?_) (fun h7 => ?_)
    · rw [if_pos (range_any hlt h7)] at e4
      rw [e4]
      repeat' (first | refine w1g ?_ | refine w1l ?_ | refine w1q ?_ | refine w1b ?_ | refine w1p ?_ | ((first | refine w1r ?_ | refine w1k ?_ | refine w1e ?_); (refine sy1 ?_; try exact True.intro)) | refine an2 ?_ | fail)
      exact W_ret ⟨[_], ⟨rfl, rfl⟩, rfl⟩
    · repeat' (first | refine w1g ?_ | refine w1l ?_ | refine w1q ?_ | refine w1b ?_ | refine w1p ?_ | ((first | refine w1r ?_ | refine w1k ?_ | refine w1e ?_); (refine sy1 ?_; try exact True.intro)) | refine an2 ?_ | fail)
      refine ⟨i + 1, ⟨by omega, up_all hall h7⟩, by omega, by rfl, ?_⟩
      (refine syE ?_; try exact True.intro)
  · have hil : i = m.rs.length := by omega
    subst hil
    rw [if_neg (by rw [range_none hall]; decide)] at e4
    rw [e4]
    repeat' (first | refine w1g ?_ | refine w1l ?_ | refine w1q ?_ | refine w1b ?_ | refine w1p ?_ | ((first | refine w1r ?_ | refine w1k ?_ | refine w1e ?_); (refine sy1 ?_; try exact True.intro)) | refine an2 ?_ | fail)
    exact W_ret ⟨[_], ⟨rfl, rfl⟩, rfl⟩
end Go.Proofs.Ytfbdlmenhoagmaa

namespace Go.Proofs.Ytfbdlmenhoagmaa
open Go Sy
set_option maxRecDepth 100000
set_option maxHeartbeats 4000000
set_option linter.unusedVariables false
set_option linter.unusedSimpArgs false
structure Cs where
  r : Int
  k : Int
  l : Int
  n : Int
def dC : Cs := ⟨0, 0, 0, 0⟩
def cC (c : Cs) : List AV := [iv c.r, iv c.k, iv c.l, iv c.n]
theorem lC (c : Cs) : (cC c).length = 4 := rfl
theorem frC (c : Cs) : frzAll (cC c) = true := rfl
theorem tC (c : Cs) : List.take 4 (List.drop 0 (cC c)) = cC c := rfl
theorem tC2 (c : Cs) : List.take 4 (cC c) = cC c := rfl
theorem iC {m : Nat → Option Blk} {n : Nat} (c : Cs) : List.flatMap (ids m n) (cC c) = [] := flat_frz n _ (frC c)
theorem vC {m : Nat → Option Blk} {n : Nat} (c : Cs) : List.map (view m n) (cC c) = cC c := viewL_frz n _ (frC c)
attribute [push_cast] lC frC tC tC2 iC vC
abbrev aC (l : List Cs) : AV := .sl 4 dC cC l
def cz1 (m : Mp) (f : Nat → Int) (s : List Int) (road k : Nat) : List Cs := if limL m s road k < f k then [⟨road, k, limL m s road k, f k⟩] else []
def czK (m : Mp) (f : Nat → Int) (s : List Int) (road n : Nat) : List Cs := (List.range n).flatMap (cz1 m f s road)
def czR (m : Mp) (f : Nat → Int) (s : List Int) (rs : List Int) : List Cs := rs.flatMap fun r => czK m f s r.toNat 6
theorem czK_succ (m : Mp) (f : Nat → Int) (s : List Int) (road n : Nat) : czK m f s road (n + 1) = czK m f s road n ++ cz1 m f s road n := by
  unfold czK
  rw [List.range_succ, List.flatMap_append]
  simp
theorem czR_snoc (m : Mp) (f : Nat → Int) (s : List Int) (rs : List Int) (r : Int) : czR m f s (rs ++ [r]) = czR m f s rs ++ czK m f s r.toNat 6 := by
  unfold czR
  rw [List.flatMap_append]
  simp
theorem czK_len (m : Mp) (f : Nat → Int) (s : List Int) (road : Nat) : ∀ n, (czK m f s road n).length ≤ n
  | 0 => by simp [czK]
  | n + 1 => by
    rw [czK_succ, List.length_append]
    have := czK_len m f s road n
    have : (cz1 m f s road n).length ≤ 1 := by unfold cz1; split <;> simp
    omega
theorem czR_len (m : Mp) (f : Nat → Int) (s : List Int) : ∀ rs : List Int, (czR m f s rs).length ≤ 6 * rs.length
  | [] => by simp [czR]
  | r :: rs => by
    have h1 := czR_len m f s rs
    have h2 := czK_len m f s r.toNat 6
    have e : czR m f s (r :: rs) = czK m f s r.toNat 6 ++ czR m f s rs := rfl
    rw [e, List.length_append, List.length_cons]
    omega
end Go.Proofs.Ytfbdlmenhoagmaa

namespace Go.Proofs.Ytfbdlmenhoagmaa
open Go Sy
set_option maxRecDepth 100000
set_option maxHeartbeats 4000000
set_option linter.unusedVariables false
set_option linter.unusedSimpArgs false
def allU (m : Mp) (f : Nat → Int) (rs : List Int) (s : List Int) : Bool := !(rs.any fun x => !usB m f s x.toNat)
def cL (l : List Int) : List AV := [aI l]
theorem nL (l : List Int) : nth (cL l) 0 = aI l := rfl
theorem lL (l : List Int) : (cL l).length = 1 := rfl
theorem frL (l : List Int) : frzAll (cL l) = true := rfl
theorem tL (l : List Int) : List.take 1 (List.drop 0 (cL l)) = cL l := rfl
attribute [push_cast] nL lL frL tL
abbrev aL (l : List (List Int)) : AV := .sl 1 [] cL l
theorem brn_len : ∀ (d : Nat) (l : List Int) (i : Nat), (brn d l i).length + 1 = 2 ^ d
  | 0, l, i => rfl
  | d + 1, l, i => by
    have h1 := brn_len d (l ++ [(i : Int)]) (i + 1)
    have h2 := brn_len d l (i + 1)
    simp only [brn, List.cons_append, List.length_cons, List.length_append]
    rw [Nat.pow_succ]
    omega
theorem fn72 (n : Nat) (hn : n ≤ 20) : ∀ (d i : Nat) (l : List Int), i + d = n → l.length ≤ i → Sy.Fn Try.prog 72 [aI l, iv i, iv n] (aL (l :: brn d l i)) := by
  intro d
  induction d using Nat.strongRecOn with
  | _ d ih =>
  intro i l hi hl
  refine Fn_of_W mixed Xt72 rfl ?_
  have hp : 2 ^ d ≤ 2 ^ 20 := Nat.pow_le_pow_right (by omega) (by omega)
  repeat' (first | refine w1g ?_ | refine w1l ?_ | refine w1q ?_ | refine w1b ?_ | refine w1p ?_ | ((first | refine w1r ?_ | refine w1k ?_ | refine w1e ?_); (refine sy1 ?_; try exact True.intro)) | refine an2 ?_ | fail)
  refine ⟨rfl, trivial, (List Int), [], cL, [l], rfl, by omega, fun x _ => ⟨rfl, rfl⟩, rfl, ?_⟩
  (refine sy1 ?_; try exact True.intro)
  repeat' (first | refine w1g ?_ | refine w1l ?_ | refine w1q ?_ | refine w1b ?_ | refine w1p ?_ | ((first | refine w1r ?_ | refine w1k ?_ | refine w1e ?_); (refine sy1 ?_; try exact True.intro)) | refine an2 ?_ | fail)
  refine W_loopU (fun u : Nat × List (List Int) => [(7, .row 2 (u.1 - i)), (8, iv u.1)]) (fun u => [(2, .row (u.1 - i) 27 1 [] cL u.2)]) (fun u => i ≤ u.1 ∧ u.1 ≤ n ∧ u.2 ++ brn (n - u.1) l u.1 = l :: brn d l i) (fun u => n - u.1) (i, [l]) ⟨Nat.le_refl _, by dsimp only; omega, by dsimp only; rw [show n - i = d by omega]; rfl⟩ (by rfl) (by simp only [Nat.sub_self]; rfl) (fun u hu => ?_)
  obtain ⟨j, L⟩ := u
  obtain ⟨h1, h2, h3⟩ := hu
  dsimp only at h1 h2 h3 ⊢
  have hbl := brn_len d l i
  have hLl : L.length + (brn (n - j) l j).length = (brn d l i).length + 1 := by
    have := congrArg List.length h3
    rw [List.length_append, List.length_cons] at this
    exact this
  (refine sy1 ?_; try exact True.intro)
  repeat' (first | refine w1g ?_ | refine w1l ?_ | refine w1q ?_ | refine w1b ?_ | refine w1p ?_ | ((first | refine w1r ?_ | refine w1k ?_ | refine w1e ?_); (refine sy1 ?_; try exact True.intro)) | refine an2 ?_ | fail)
  refine W_condD (by rfl) (fun h5 => ?_) (fun h5 => ?_)
  rotate_left
  · have hj : n - j = 0 := by omega
    rw [hj] at h3
    have h3 : L ++ [] = l :: brn d l i := h3
    rw [List.append_nil] at h3
    rw [← h3]
    repeat' (first | refine w1g ?_ | refine w1l ?_ | refine w1q ?_ | refine w1b ?_ | refine w1p ?_ | ((first | refine w1r ?_ | refine w1k ?_ | refine w1e ?_); (refine sy1 ?_; try exact True.intro)) | refine an2 ?_ | fail)
    refine W_ret ⟨[_], ⟨rfl, rfl⟩, ?_⟩
    simp (maxSteps := 400000) (disch := omega) only [push_cast, ↓reduceIte, reduceCtorEq, Nat.reduceAdd, Nat.reduceSub, Nat.reduceEqDiff, Nat.reduceLeDiff, Nat.reduceLT, Nat.reduceBEq, Nat.reduceDiv, Nat.reduceMod, Nat.reducePow, Nat.reduceMul, Int.reduceToNat, Int.reduceLT, Int.reduceLE, pack]
  obtain ⟨d', hd'⟩ : ∃ d', n - j = d' + 1 := ⟨n - j - 1, by omega⟩
  have hI := ih d' (by omega) (j + 1) (l ++ [(j : Int)]) (by omega) (by rw [List.length_append]; simp; omega)
  rw [show ((j + 1 : Nat) : Int) = (j : Int) + 1 by omega] at hI
  have hnx : (L ++ ((l ++ [(j : Int)]) :: brn d' (l ++ [(j : Int)]) (j + 1))) ++ brn (n - (j + 1)) l (j + 1) = l :: brn d l i := by
    rw [← h3, hd', show n - (j + 1) = d' by omega]
    simp only [brn, List.append_assoc]
  have hLb : (L ++ ((l ++ [(j : Int)]) :: brn d' (l ++ [(j : Int)]) (j + 1))).length ≤ 1048576 := by
    have := congrArg List.length hnx
    rw [List.length_append, List.length_cons] at this
    omega
  rw [List.length_append] at hLb
  generalize hA : (l ++ [(j : Int)]) :: brn d' (l ++ [(j : Int)]) (j + 1) = A at *
  refine W_skip ?_
  (refine sy1 ?_; try exact True.intro)
  repeat (first | refine WK_go ?_ | refine W_seqL ?_ | refine W_seq ?_ | refine W_block ?_)
  refine W_regP [7] (by decide) ?_
  simp (maxSteps := 400000) (disch := omega) only [push_cast, ↓reduceIte, reduceCtorEq, Nat.reduceAdd, Nat.reduceSub, Nat.reduceEqDiff, Nat.reduceLeDiff, Nat.reduceLT, Nat.reduceBEq, Nat.reduceDiv, Nat.reduceMod, Nat.reducePow, Nat.reduceMul, Int.reduceToNat, Int.reduceLT, Int.reduceLE, chainP, List.take_succ_cons, List.take_zero, List.drop_succ_cons, List.drop_zero]
  refine ⟨rfl, trivial, Int, 0, cI, [], rfl, by omega, fun x _ => ⟨rfl, rfl⟩, rfl, ?_⟩
  (refine sy1 ?_; try exact True.intro)
  refine ⟨rfl, ⟨Nat.le_of_ble_eq_true rfl, rfl⟩, trivial, l, rfl, by first | omega | (simp; omega), by first | omega | (simp; omega), ?_⟩
  simp (maxSteps := 400000) (disch := omega) only [push_cast, ↓reduceIte, reduceCtorEq, Nat.reduceAdd, Nat.reduceSub, Nat.reduceEqDiff, Nat.reduceLeDiff, Nat.reduceLT, Nat.reduceBEq, Nat.reduceDiv, Nat.reduceMod, Nat.reducePow, Nat.reduceMul, Int.reduceToNat, Int.reduceLT, Int.reduceLE, List.nil_append]
  refine ⟨rfl, trivial, Int, 0, cI, [(j : Int)], rfl, by omega, fun x _ => ⟨rfl, rfl⟩, rfl, ?_⟩
  (refine sy1 ?_; try exact True.intro)
  refine ⟨rfl, ⟨Nat.le_of_ble_eq_true rfl, rfl⟩, trivial, [(j : Int)], rfl, by first | omega | (simp; omega), by first | omega | (simp; omega), ?_⟩
  (refine sy1 ?_; try exact True.intro)
  refine ⟨_, le_frzR 23 [0, 2, 7, 8, 17] [2] 20 10 2 3 1 0 cI (l ++ [(j : Int)]) rfl rfl rfl rfl, ?_⟩
  simp (maxSteps := 400000) (disch := omega) only [push_cast, ↓reduceIte, reduceCtorEq, Nat.reduceAdd, Nat.reduceSub, Nat.reduceEqDiff, Nat.reduceLeDiff, Nat.reduceLT, Nat.reduceBEq, Nat.reduceDiv, Nat.reduceMod, Nat.reducePow, Nat.reduceMul, Int.reduceToNat, Int.reduceLT, Int.reduceLE, chainP, List.take_succ_cons, List.take_zero, List.drop_succ_cons, List.drop_zero]
  repeat (refine And.intro (by omega) ?_)
  refine CallC.now hI ?_
  (refine sy1 ?_; try exact True.intro)
  refine ⟨rfl, ⟨Nat.le_of_ble_eq_true rfl, rfl⟩, trivial, A, rfl, by first | omega | (simp; omega), by first | omega | (simp; omega), ?_⟩
  (refine sy1 ?_; try exact True.intro)
  repeat' (first | refine w1g ?_ | refine w1l ?_ | refine w1q ?_ | refine w1b ?_ | refine w1p ?_ | ((first | refine w1r ?_ | refine w1k ?_ | refine w1e ?_); (refine sy1 ?_; try exact True.intro)) | refine an2 ?_ | fail)
  have est : j + 1 - i = j - i + 1 := by omega
  refine ⟨(j + 1, L ++ A), ⟨by dsimp only; omega, by dsimp only; omega, hnx⟩, by dsimp only; omega, by rfl, ?_⟩
  dsimp only
  rw [est]
  (refine syE ?_; try exact True.intro)
theorem fn19 (m : Mp) (h : m.ws.length ≤ 20) : Sy.Fn Try.prog 19 [aM m] (aL (setsM m.ws.length)) := by
  refine Fn_of_W mixed Xt19 rfl ?_
  have c72 := fn72 m.ws.length h m.ws.length 0 [] (by omega) (by simp)
  have c72 := Fn_nil (pre := []) c72
  repeat' (first | refine w1g ?_ | refine w1l ?_ | refine w1q ?_ | refine w1b ?_ | refine w1p ?_ | ((first | refine w1r ?_ | refine w1k ?_ | refine w1e ?_ | refine CallC.now (c72) ?_); (refine sy1 ?_; try exact True.intro)) | refine an2 ?_ | fail)
  exact W_ret ⟨[_], ⟨rfl, rfl⟩, rfl⟩
end Go.Proofs.Ytfbdlmenhoagmaa

namespace Go.Proofs.Ytfbdlmenhoagmaa
open Go Sy
set_option maxRecDepth 100000
set_option maxHeartbeats 4000000
set_option linter.unusedVariables false
set_option linter.unusedSimpArgs false
theorem czK_nil {m : Mp} {f : Nat → Int} {s : List Int} {road : Nat} : czK m f s road 6 = [] ↔ usB m f s road = true := by
  unfold czK
  rw [List.flatMap_eq_nil_iff, usN_iff]
  constructor
  · intro h k hk
    have := h k (List.mem_range.2 hk)
    unfold cz1 at this
    by_cases q : limL m s road k < f k
    · rw [if_pos q] at this; cases this
    · omega
  · intro h k hk
    have := h k (List.mem_range.1 hk)
    unfold cz1
    rw [if_neg (by omega)]
theorem czR_nil {m : Mp} {f : Nat → Int} {s rs : List Int} : (czR m f s rs).length = 0 ↔ allU m f rs s = true := by
  rw [List.length_eq_zero_iff]
  unfold czR allU
  rw [List.flatMap_eq_nil_iff, Bool.not_eq_true', ← Bool.not_eq_true, List.any_eq_true]
  constructor
  · rintro h ⟨x, hx, hq⟩
    have := czK_nil.1 (h x hx)
    rw [this] at hq; cases hq
  · intro h x hx
    rw [czK_nil]
    apply Classical.byContradiction
    intro q
    exact h ⟨x, hx, by simpa using q⟩
def del (l : List Int) (i : Nat) : List Int := l.take i ++ l.drop (i + 1)
theorem del_srt {n : Int} : ∀ (l : List Int) (lo : Int) (i : Nat), Srt n lo l → Srt n lo (del l i)
  | [], _, i, _ => by simp [del]; trivial
  | x :: l, lo, 0, h => by
    have : del (x :: l) 0 = l := by simp [del]
    rw [this]
    exact h.2.2.weak (by have := h.1; omega)
  | x :: l, lo, i + 1, h => by
    have : del (x :: l) (i + 1) = x :: del l i := by simp [del]
    rw [this]
    exact ⟨h.1, h.2.1, del_srt l (x + 1) i h.2.2⟩
theorem costL_from (m : Mp) : ∀ (l : List Int) (a : Int), l.foldl (fun n x => n + (gw m x.toNat).c) a = a + costL m l
  | [], a => by simp [costL]
  | x :: l, a => by
    have h1 := costL_from m l (a + (gw m x.toNat).c)
    have h2 := costL_from m l (0 + (gw m x.toNat).c)
    unfold costL
    rw [List.foldl_cons, List.foldl_cons, h1, h2]
    omega
theorem costL_app (m : Mp) (a b : List Int) : costL m (a ++ b) = costL m a + costL m b := by
  have := costL_from m b (costL m a)
  unfold costL at this ⊢
  rw [List.foldl_append]
  exact this
theorem del_cost (m : Mp) {l : List Int} {i : Nat} (h : i < l.length) : costL m l = costL m (del l i) + (gw m (gi l i).toNat).c := by
  have e : l = l.take (i + 1) ++ l.drop (i + 1) := (List.take_append_drop _ _).symm
  have e2 : costL m l = costL m (l.take (i + 1) ++ l.drop (i + 1)) := by rw [← e]
  rw [e2, take_snoc h, costL_app, costL_snoc]
  unfold del
  rw [costL_app]
  omega
def sumR (m : Mp) (l : List Int) : Int := l.foldl (fun n x => n + (gr m x.toNat).c) 0
theorem sumR_snoc (m : Mp) (l : List Int) (x : Int) : sumR m (l ++ [x]) = sumR m l + (gr m x.toNat).c := by
  unfold sumR; rw [List.foldl_append]; rfl
theorem sumR_aux {m : Mp} (h : OkM m) : ∀ (l : List Int) (a : Int), (∀ x ∈ l, 0 ≤ x ∧ x < m.rs.length) → a ≤ l.foldl (fun n x => n + (gr m x.toNat).c) a ∧ l.foldl (fun n x => n + (gr m x.toNat).c) a ≤ a + l.length * 1073741824
  | [], a, _ => by simp
  | x :: l, a, hx => by
    have h1 := sumR_aux h l (a + (gr m x.toNat).c) (fun y hy => hx y (List.mem_cons_of_mem _ hy))
    have h2 := hx x List.mem_cons_self
    have h3 := (roadB_ok (h.r x.toNat (by omega))).c
    simp only [List.foldl_cons, List.length_cons]
    omega
theorem sumR_rng {m : Mp} (h : OkM m) {l : List Int} (hx : ∀ x ∈ l, 0 ≤ x ∧ x < m.rs.length) : 0 ≤ sumR m l ∧ sumR m l ≤ l.length * 1073741824 := by
  have := sumR_aux h l 0 hx
  unfold sumR
  omega
end Go.Proofs.Ytfbdlmenhoagmaa

namespace Go.Proofs.Ytfbdlmenhoagmaa
open Go Sy
set_option maxRecDepth 100000
set_option maxHeartbeats 4000000
set_option linter.unusedVariables false
set_option linter.unusedSimpArgs false
theorem setsM_len (n : Nat) : (setsM n).length = 2 ^ n := by
  unfold setsM
  rw [List.length_cons, brn_len]
theorem getD_memL {l : List (List Int)} {i : Nat} (h : i < l.length) : l.getD i [] ∈ l := getD_mem' [] l i h
end Go.Proofs.Ytfbdlmenhoagmaa

namespace Go.Proofs.Ytfbdlmenhoagmaa
open Go Sy
set_option maxRecDepth 100000
set_option maxHeartbeats 4000000
set_option linter.unusedVariables false
set_option linter.unusedSimpArgs false
def atP (m : Mp) (fr : Int) (l : List Int) (i : Nat) : Int := if i = 0 then fr else (gr m (gi l (i - 1)).toNat).t
end Go.Proofs.Ytfbdlmenhoagmaa

