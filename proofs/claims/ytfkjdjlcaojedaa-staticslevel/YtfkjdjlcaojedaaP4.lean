/- On level ground, filled alike, all cylinders are equally long, but for 3; raised ground changes no length by more than 3. -/
import Derived.Test.YtfkjdjlcaojedaaP3
import Derived.Test.YtfkjdjlcaojedaaRows
import Derived.ShutString
/- Platforms: tips, shares. -/
namespace Go.Proofs.Ytfkjdjlcaojedaa
open Go Sy
set_option maxRecDepth 100000
set_option maxHeartbeats 4000000
set_option linter.unusedVariables false
set_option linter.unusedSimpArgs false
def idxF {α : Type} (p : α → Bool) : List α → Int → Int
  | [], _ => -1
  | x :: r, i => if p x then i else idxF p r (i + 1)
theorem idxF_at {α : Type} (p : α → Bool) (d : α) : ∀ (l : List α) (i : Nat) (k : Int), i < l.length → (∀ j, j < i → p (l.getD j d) = false) → p (l.getD i d) = true → idxF p l k = k + i
  | [], i, k, h, _, _ => by simp at h
  | x :: r, 0, k, _, _, h => by simp at h; simp [idxF, h]
  | x :: r, i + 1, k, h, hj, hp => by
    have h0 : p x = false := by simpa using hj 0 (by omega)
    have := idxF_at p d r i (k + 1) (by simpa using h) (fun j hlt => by simpa using hj (j + 1) (by omega)) (by simpa using hp)
    simp only [idxF, h0, Bool.false_eq_true, if_false, this]
    omega
theorem idxF_none {α : Type} (p : α → Bool) (d : α) : ∀ (l : List α) (k : Int), (∀ j, j < l.length → p (l.getD j d) = false) → idxF p l k = -1
  | [], k, _ => rfl
  | x :: r, k, h => by
    have h0 : p x = false := by simpa using h 0 (by simp)
    have := idxF_none p d r (k + 1) (fun j hlt => by simpa using h (j + 1) (by simpa using hlt))
    simp only [idxF, h0, Bool.false_eq_true, if_false, this]
theorem idxF_any {α : Type} (p : α → Bool) : ∀ (l : List α) (k : Int), 0 ≤ k → decide (0 ≤ idxF p l k) = l.any p
  | [], k, _ => by simp [idxF]
  | x :: r, k, h => by
    simp only [idxF, List.any_cons]
    by_cases hp : p x = true
    · simp [hp, h]
    · simp only [hp]
      simpa using idxF_any p r (k + 1) (by omega)
theorem up_all {p : Nat → Prop} {i : Nat} (h : ∀ j, j < i → p j) (hi : p i) : ∀ j, j < i + 1 → p j := fun j hj => by
  rcases Nat.lt_succ_iff_lt_or_eq.1 hj with hj | rfl
  · exact h j hj
  · exact hi
def cI (n : Int) : List AV := [iv n]
theorem nI (n : Int) : nth (cI n) 0 = iv n := rfl
theorem lI (n : Int) : (cI n).length = 1 := rfl
attribute [push_cast] nI lI
theorem getD_mem {α : Type} (d : α) (l : List α) (i : Nat) (h : i < l.length) : l.getD i d ∈ l := by
  simp only [List.getD, List.getElem?_eq_getElem h, Option.getD_some]; exact List.getElem_mem h
theorem fn96 (l : List Int) (hl : l.length ≤ 1000000) (g : Nat) (fi ca : List AV) (p : Int → Bool) (hg : ∀ x ∈ l, Sy.Fn Try.prog g (fi ++ [iv x] ++ ca) (bv (p x))) : Sy.Fn Try.prog 96 [.sl 1 0 cI l, .clo g fi ca] (iv (idxF p l 0)) := by
  refine Fn_of_W mixed Xt96 rfl ?_
  repeat' (first | refine WK_go ?_ | refine W_seqL ?_ | refine W_seq ?_ | (refine W_regL ?_; simp (maxSteps := 400000) (disch := omega) only [push_cast, ↓reduceIte, reduceCtorEq, Nat.reduceAdd, Nat.reduceSub, Nat.reduceEqDiff, Nat.reduceLeDiff, Nat.reduceLT, Nat.reduceBEq, Nat.reduceDiv, Nat.reduceMod, Nat.reducePow, Nat.reduceMul, Int.reduceToNat, Int.reduceLT, Int.reduceLE]) | refine W_block ?_ | (refine W_skip ?_; simp (maxSteps := 400000) (disch := omega) only [push_cast, ↓reduceIte, reduceCtorEq, Nat.reduceAdd, Nat.reduceSub, Nat.reduceEqDiff, Nat.reduceLeDiff, Nat.reduceLT, Nat.reduceBEq, Nat.reduceDiv, Nat.reduceMod, Nat.reducePow, Nat.reduceMul, Int.reduceToNat, Int.reduceLT, Int.reduceLE]) | (refine W_exit ?_; simp (maxSteps := 400000) (disch := omega) only [push_cast, ↓reduceIte, reduceCtorEq, Nat.reduceAdd, Nat.reduceSub, Nat.reduceEqDiff, Nat.reduceLeDiff, Nat.reduceLT, Nat.reduceBEq, Nat.reduceDiv, Nat.reduceMod, Nat.reducePow, Nat.reduceMul, Int.reduceToNat, Int.reduceLT, Int.reduceLE]) | refine And.intro (by omega) ?_ | refine And.intro (by intro hq; (try simp only [Bool.and_eq_true, Bool.or_eq_true, Bool.and_eq_false_iff, Bool.or_eq_false_iff, decide_eq_true_eq, decide_eq_false_iff_not, Bool.not_eq_true', Bool.not_eq_false', beq_iff_eq, beq_eq_false_iff_ne, ne_eq] at hq); omega) ?_ | fail)
  refine W_loopU (fun i : Nat => [(8, iv i)]) (fun i => []) (fun i => i ≤ l.length ∧ ∀ j, j < i → p (l.getD j 0) = false) (fun i => l.length - i) 0 ⟨by omega, fun j hj => by omega⟩ (by rfl) (by rfl) (fun i hi => ?_)
  obtain ⟨hi, hp⟩ := hi
  simp (maxSteps := 400000) (disch := omega) only [push_cast, ↓reduceIte, reduceCtorEq, Nat.reduceAdd, Nat.reduceSub, Nat.reduceEqDiff, Nat.reduceLeDiff, Nat.reduceLT, Nat.reduceBEq, Nat.reduceDiv, Nat.reduceMod, Nat.reducePow, Nat.reduceMul, Int.reduceToNat, Int.reduceLT, Int.reduceLE]
  repeat' (first | refine WK_go ?_ | refine W_seqL ?_ | refine W_seq ?_ | (refine W_regL ?_; simp (maxSteps := 400000) (disch := omega) only [push_cast, ↓reduceIte, reduceCtorEq, Nat.reduceAdd, Nat.reduceSub, Nat.reduceEqDiff, Nat.reduceLeDiff, Nat.reduceLT, Nat.reduceBEq, Nat.reduceDiv, Nat.reduceMod, Nat.reducePow, Nat.reduceMul, Int.reduceToNat, Int.reduceLT, Int.reduceLE]) | refine W_block ?_ | (refine W_skip ?_; simp (maxSteps := 400000) (disch := omega) only [push_cast, ↓reduceIte, reduceCtorEq, Nat.reduceAdd, Nat.reduceSub, Nat.reduceEqDiff, Nat.reduceLeDiff, Nat.reduceLT, Nat.reduceBEq, Nat.reduceDiv, Nat.reduceMod, Nat.reducePow, Nat.reduceMul, Int.reduceToNat, Int.reduceLT, Int.reduceLE]) | (refine W_exit ?_; simp (maxSteps := 400000) (disch := omega) only [push_cast, ↓reduceIte, reduceCtorEq, Nat.reduceAdd, Nat.reduceSub, Nat.reduceEqDiff, Nat.reduceLeDiff, Nat.reduceLT, Nat.reduceBEq, Nat.reduceDiv, Nat.reduceMod, Nat.reducePow, Nat.reduceMul, Int.reduceToNat, Int.reduceLT, Int.reduceLE]) | refine And.intro (by omega) ?_ | refine And.intro (by intro hq; (try simp only [Bool.and_eq_true, Bool.or_eq_true, Bool.and_eq_false_iff, Bool.or_eq_false_iff, decide_eq_true_eq, decide_eq_false_iff_not, Bool.not_eq_true', Bool.not_eq_false', beq_iff_eq, beq_eq_false_iff_ne, ne_eq] at hq); omega) ?_ | fail)
  refine W_condD (by rfl) (fun h => ?_) (fun h => ?_)
  · have hlt : i < l.length := by omega
    have cg := hg _ (getD_mem 0 l i hlt)
    repeat' (first | refine WK_go ?_ | refine W_seqL ?_ | refine W_seq ?_ | (refine W_regL ?_; simp (maxSteps := 400000) (disch := omega) only [push_cast, ↓reduceIte, reduceCtorEq, Nat.reduceAdd, Nat.reduceSub, Nat.reduceEqDiff, Nat.reduceLeDiff, Nat.reduceLT, Nat.reduceBEq, Nat.reduceDiv, Nat.reduceMod, Nat.reducePow, Nat.reduceMul, Int.reduceToNat, Int.reduceLT, Int.reduceLE]) | refine W_block ?_ | (refine W_skip ?_; simp (maxSteps := 400000) (disch := omega) only [push_cast, ↓reduceIte, reduceCtorEq, Nat.reduceAdd, Nat.reduceSub, Nat.reduceEqDiff, Nat.reduceLeDiff, Nat.reduceLT, Nat.reduceBEq, Nat.reduceDiv, Nat.reduceMod, Nat.reducePow, Nat.reduceMul, Int.reduceToNat, Int.reduceLT, Int.reduceLE]) | (refine W_exit ?_; simp (maxSteps := 400000) (disch := omega) only [push_cast, ↓reduceIte, reduceCtorEq, Nat.reduceAdd, Nat.reduceSub, Nat.reduceEqDiff, Nat.reduceLeDiff, Nat.reduceLT, Nat.reduceBEq, Nat.reduceDiv, Nat.reduceMod, Nat.reducePow, Nat.reduceMul, Int.reduceToNat, Int.reduceLT, Int.reduceLE]) | refine And.intro (by omega) ?_ | refine And.intro (by intro hq; (try simp only [Bool.and_eq_true, Bool.or_eq_true, Bool.and_eq_false_iff, Bool.or_eq_false_iff, decide_eq_true_eq, decide_eq_false_iff_not, Bool.not_eq_true', Bool.not_eq_false', beq_iff_eq, beq_eq_false_iff_ne, ne_eq] at hq); omega) ?_ | (refine CallC.now (cg) ?_; simp (maxSteps := 400000) (disch := omega) only [push_cast, ↓reduceIte, reduceCtorEq, Nat.reduceAdd, Nat.reduceSub, Nat.reduceEqDiff, Nat.reduceLeDiff, Nat.reduceLT, Nat.reduceBEq, Nat.reduceDiv, Nat.reduceMod, Nat.reducePow, Nat.reduceMul, Int.reduceToNat, Int.reduceLT, Int.reduceLE]) | fail)
    refine W_cond (by rfl) (fun hb => ?_) (fun hb => ?_)
    · repeat' (first | refine WK_go ?_ | refine W_seqL ?_ | refine W_seq ?_ | (refine W_regL ?_; simp (maxSteps := 400000) (disch := omega) only [push_cast, ↓reduceIte, reduceCtorEq, Nat.reduceAdd, Nat.reduceSub, Nat.reduceEqDiff, Nat.reduceLeDiff, Nat.reduceLT, Nat.reduceBEq, Nat.reduceDiv, Nat.reduceMod, Nat.reducePow, Nat.reduceMul, Int.reduceToNat, Int.reduceLT, Int.reduceLE]) | refine W_block ?_ | (refine W_skip ?_; simp (maxSteps := 400000) (disch := omega) only [push_cast, ↓reduceIte, reduceCtorEq, Nat.reduceAdd, Nat.reduceSub, Nat.reduceEqDiff, Nat.reduceLeDiff, Nat.reduceLT, Nat.reduceBEq, Nat.reduceDiv, Nat.reduceMod, Nat.reducePow, Nat.reduceMul, Int.reduceToNat, Int.reduceLT, Int.reduceLE]) | (refine W_exit ?_; simp (maxSteps := 400000) (disch := omega) only [push_cast, ↓reduceIte, reduceCtorEq, Nat.reduceAdd, Nat.reduceSub, Nat.reduceEqDiff, Nat.reduceLeDiff, Nat.reduceLT, Nat.reduceBEq, Nat.reduceDiv, Nat.reduceMod, Nat.reducePow, Nat.reduceMul, Int.reduceToNat, Int.reduceLT, Int.reduceLE]) | refine And.intro (by omega) ?_ | refine And.intro (by intro hq; (try simp only [Bool.and_eq_true, Bool.or_eq_true, Bool.and_eq_false_iff, Bool.or_eq_false_iff, decide_eq_true_eq, decide_eq_false_iff_not, Bool.not_eq_true', Bool.not_eq_false', beq_iff_eq, beq_eq_false_iff_ne, ne_eq] at hq); omega) ?_ | fail)
      exact W_ret ⟨[_], ⟨rfl, rfl⟩, by rw [idxF_at p 0 l i 0 hlt hp hb, Int.zero_add]; rfl⟩
    · repeat' (first | refine WK_go ?_ | refine W_seqL ?_ | refine W_seq ?_ | (refine W_regL ?_; simp (maxSteps := 400000) (disch := omega) only [push_cast, ↓reduceIte, reduceCtorEq, Nat.reduceAdd, Nat.reduceSub, Nat.reduceEqDiff, Nat.reduceLeDiff, Nat.reduceLT, Nat.reduceBEq, Nat.reduceDiv, Nat.reduceMod, Nat.reducePow, Nat.reduceMul, Int.reduceToNat, Int.reduceLT, Int.reduceLE]) | refine W_block ?_ | (refine W_skip ?_; simp (maxSteps := 400000) (disch := omega) only [push_cast, ↓reduceIte, reduceCtorEq, Nat.reduceAdd, Nat.reduceSub, Nat.reduceEqDiff, Nat.reduceLeDiff, Nat.reduceLT, Nat.reduceBEq, Nat.reduceDiv, Nat.reduceMod, Nat.reducePow, Nat.reduceMul, Int.reduceToNat, Int.reduceLT, Int.reduceLE]) | (refine W_exit ?_; simp (maxSteps := 400000) (disch := omega) only [push_cast, ↓reduceIte, reduceCtorEq, Nat.reduceAdd, Nat.reduceSub, Nat.reduceEqDiff, Nat.reduceLeDiff, Nat.reduceLT, Nat.reduceBEq, Nat.reduceDiv, Nat.reduceMod, Nat.reducePow, Nat.reduceMul, Int.reduceToNat, Int.reduceLT, Int.reduceLE]) | refine And.intro (by omega) ?_ | refine And.intro (by intro hq; (try simp only [Bool.and_eq_true, Bool.or_eq_true, Bool.and_eq_false_iff, Bool.or_eq_false_iff, decide_eq_true_eq, decide_eq_false_iff_not, Bool.not_eq_true', Bool.not_eq_false', beq_iff_eq, beq_eq_false_iff_ne, ne_eq] at hq); omega) ?_ | fail)
      refine ⟨i + 1, ⟨by omega, up_all hp hb⟩, by omega, by rfl, ?_⟩
      simp (maxSteps := 400000) (disch := omega) only [push_cast, ↓reduceIte, reduceCtorEq, Nat.reduceAdd, Nat.reduceSub, Nat.reduceEqDiff, Nat.reduceLeDiff, Nat.reduceLT, Nat.reduceBEq, Nat.reduceDiv, Nat.reduceMod, Nat.reducePow, Nat.reduceMul, Int.reduceToNat, Int.reduceLT, Int.reduceLE, S.mk.injEq, List.cons.injEq, Prod.mk.injEq, AV.v.injEq, Value.int.injEq, Value.bool.injEq, Blk.cells.injEq]
  · repeat' (first | refine WK_go ?_ | refine W_seqL ?_ | refine W_seq ?_ | (refine W_regL ?_; simp (maxSteps := 400000) (disch := omega) only [push_cast, ↓reduceIte, reduceCtorEq, Nat.reduceAdd, Nat.reduceSub, Nat.reduceEqDiff, Nat.reduceLeDiff, Nat.reduceLT, Nat.reduceBEq, Nat.reduceDiv, Nat.reduceMod, Nat.reducePow, Nat.reduceMul, Int.reduceToNat, Int.reduceLT, Int.reduceLE]) | refine W_block ?_ | (refine W_skip ?_; simp (maxSteps := 400000) (disch := omega) only [push_cast, ↓reduceIte, reduceCtorEq, Nat.reduceAdd, Nat.reduceSub, Nat.reduceEqDiff, Nat.reduceLeDiff, Nat.reduceLT, Nat.reduceBEq, Nat.reduceDiv, Nat.reduceMod, Nat.reducePow, Nat.reduceMul, Int.reduceToNat, Int.reduceLT, Int.reduceLE]) | (refine W_exit ?_; simp (maxSteps := 400000) (disch := omega) only [push_cast, ↓reduceIte, reduceCtorEq, Nat.reduceAdd, Nat.reduceSub, Nat.reduceEqDiff, Nat.reduceLeDiff, Nat.reduceLT, Nat.reduceBEq, Nat.reduceDiv, Nat.reduceMod, Nat.reducePow, Nat.reduceMul, Int.reduceToNat, Int.reduceLT, Int.reduceLE]) | refine And.intro (by omega) ?_ | refine And.intro (by intro hq; (try simp only [Bool.and_eq_true, Bool.or_eq_true, Bool.and_eq_false_iff, Bool.or_eq_false_iff, decide_eq_true_eq, decide_eq_false_iff_not, Bool.not_eq_true', Bool.not_eq_false', beq_iff_eq, beq_eq_false_iff_ne, ne_eq] at hq); omega) ?_ | fail)
    exact W_ret ⟨[_], ⟨rfl, rfl⟩, by rw [idxF_none p 0 l 0 (fun j hj => hp j (by omega))]; rfl⟩
theorem fn97 (x : Int) : Sy.Fn Try.prog 97 [iv x] (bv (decide (x < 0))) := by
  refine Fn_of_W mixed Xt97 rfl ?_
  repeat' (first | refine WK_go ?_ | refine W_seqL ?_ | refine W_seq ?_ | (refine W_regL ?_; simp (maxSteps := 400000) (disch := omega) only [push_cast, ↓reduceIte, reduceCtorEq, Nat.reduceAdd, Nat.reduceSub, Nat.reduceEqDiff, Nat.reduceLeDiff, Nat.reduceLT, Nat.reduceBEq, Nat.reduceDiv, Nat.reduceMod, Nat.reducePow, Nat.reduceMul, Int.reduceToNat, Int.reduceLT, Int.reduceLE]) | refine W_block ?_ | (refine W_skip ?_; simp (maxSteps := 400000) (disch := omega) only [push_cast, ↓reduceIte, reduceCtorEq, Nat.reduceAdd, Nat.reduceSub, Nat.reduceEqDiff, Nat.reduceLeDiff, Nat.reduceLT, Nat.reduceBEq, Nat.reduceDiv, Nat.reduceMod, Nat.reducePow, Nat.reduceMul, Int.reduceToNat, Int.reduceLT, Int.reduceLE]) | (refine W_exit ?_; simp (maxSteps := 400000) (disch := omega) only [push_cast, ↓reduceIte, reduceCtorEq, Nat.reduceAdd, Nat.reduceSub, Nat.reduceEqDiff, Nat.reduceLeDiff, Nat.reduceLT, Nat.reduceBEq, Nat.reduceDiv, Nat.reduceMod, Nat.reducePow, Nat.reduceMul, Int.reduceToNat, Int.reduceLT, Int.reduceLE]) | refine And.intro (by omega) ?_ | refine And.intro (by intro hq; (try simp only [Bool.and_eq_true, Bool.or_eq_true, Bool.and_eq_false_iff, Bool.or_eq_false_iff, decide_eq_true_eq, decide_eq_false_iff_not, Bool.not_eq_true', Bool.not_eq_false', beq_iff_eq, beq_eq_false_iff_ne, ne_eq] at hq); omega) ?_ | fail)
  exact W_ret ⟨[_], ⟨rfl, rfl⟩, rfl⟩
/-- the first group with a part below 0 -/
def tipsF (ps : List Sup) (p : Pt) : Int := idxF (fun x => decide (x < 0)) [part ps p 0, part ps p 1, part ps p 2] 0
theorem fn58 (ps : List Sup) (p : Pt) (h : chkP ps = 0) (hp : okPt p = true) : Sy.Fn Try.prog 58 [aDk ps, .agg (cPt p)] (iv (tipsF ps p)) := by
  refine Fn_of_W mixed Xt58 rfl ?_
  have c60 := fn60 ps p h hp
  have c96 := fn96 [part ps p 0, part ps p 1, part ps p 2] (Nat.le_of_ble_eq_true rfl) 97 [] [] (fun x => decide (x < 0)) (fun x _ => fn97 x)
  refine W_seq (W_regL ?_)
  simp (maxSteps := 400000) (disch := omega) only [push_cast, ↓reduceIte, reduceCtorEq, Nat.reduceAdd, Nat.reduceSub, Nat.reduceEqDiff, Nat.reduceLeDiff, Nat.reduceLT, Nat.reduceBEq, Nat.reduceDiv, Nat.reduceMod, Nat.reducePow, Nat.reduceMul, Int.reduceToNat, Int.reduceLT, Int.reduceLE]
  refine W_seq (W_regL ?_)
  simp (maxSteps := 400000) (disch := omega) only [push_cast, ↓reduceIte, reduceCtorEq, Nat.reduceAdd, Nat.reduceSub, Nat.reduceEqDiff, Nat.reduceLeDiff, Nat.reduceLT, Nat.reduceBEq, Nat.reduceDiv, Nat.reduceMod, Nat.reducePow, Nat.reduceMul, Int.reduceToNat, Int.reduceLT, Int.reduceLE]
  refine CallC.now c60 ?_
  simp (maxSteps := 400000) (disch := omega) only [push_cast, ↓reduceIte, reduceCtorEq, Nat.reduceAdd, Nat.reduceSub, Nat.reduceEqDiff, Nat.reduceLeDiff, Nat.reduceLT, Nat.reduceBEq, Nat.reduceDiv, Nat.reduceMod, Nat.reducePow, Nat.reduceMul, Int.reduceToNat, Int.reduceLT, Int.reduceLE]
  refine W_le (le_frz 5 [] [] 11 8 0 (c3 (part ps p)) rfl rfl (frz3 _) rfl rfl) ?_
  simp (maxSteps := 400000) (disch := omega) only [push_cast, ↓reduceIte, reduceCtorEq, Nat.reduceAdd, Nat.reduceSub, Nat.reduceEqDiff, Nat.reduceLeDiff, Nat.reduceLT, Nat.reduceBEq, Nat.reduceDiv, Nat.reduceMod, Nat.reducePow, Nat.reduceMul, Int.reduceToNat, Int.reduceLT, Int.reduceLE]
  refine W_seq (W_regL ?_)
  simp (maxSteps := 400000) (disch := omega) only [push_cast, ↓reduceIte, reduceCtorEq, Nat.reduceAdd, Nat.reduceSub, Nat.reduceEqDiff, Nat.reduceLeDiff, Nat.reduceLT, Nat.reduceBEq, Nat.reduceDiv, Nat.reduceMod, Nat.reducePow, Nat.reduceMul, Int.reduceToNat, Int.reduceLT, Int.reduceLE]
  refine ⟨Int, 0, cI, [part ps p 0, part ps p 1, part ps p 2], fun _ => ⟨by simp [len3], rfl, by omega, fun x _ => rfl, rfl⟩, ?_⟩
  simp (maxSteps := 400000) (disch := omega) only [push_cast, ↓reduceIte, reduceCtorEq, Nat.reduceAdd, Nat.reduceSub, Nat.reduceEqDiff, Nat.reduceLeDiff, Nat.reduceLT, Nat.reduceBEq, Nat.reduceDiv, Nat.reduceMod, Nat.reducePow, Nat.reduceMul, Int.reduceToNat, Int.reduceLT, Int.reduceLE]
  refine CallC.now c96 ?_
  simp (maxSteps := 400000) (disch := omega) only [push_cast, ↓reduceIte, reduceCtorEq, Nat.reduceAdd, Nat.reduceSub, Nat.reduceEqDiff, Nat.reduceLeDiff, Nat.reduceLT, Nat.reduceBEq, Nat.reduceDiv, Nat.reduceMod, Nat.reducePow, Nat.reduceMul, Int.reduceToNat, Int.reduceLT, Int.reduceLE]
  exact W_ret ⟨[_], ⟨rfl, rfl⟩, rfl⟩
def sharesE (ps : List Sup) (m : Int) (p : Pt) : Int :=
  if (!okMass m || !okPt p) = true then 3 else if 0 ≤ tipsF ps p then 19
  else if (ps.any fun s => decide (s.limit < cdiv (m * part ps p s.g.toNat) (whole ps))) = true then 14 else 0
def shareV (ps : List Sup) (m : Int) (p : Pt) (g : Nat) : Int := cdiv (m * part ps p g) (whole ps)
def sharesV (ps : List Sup) (m : Int) (p : Pt) : Nat → Int := if sharesE ps m p = 0 then shareV ps m p else fun _ => 0
theorem tips_none {ps : List Sup} {p : Pt} (h : ¬ 0 ≤ tipsF ps p) : ∀ g, g < 3 → 0 ≤ part ps p g := by
  have h1 := idxF_any (fun x => decide (x < 0)) [part ps p 0, part ps p 1, part ps p 2] 0 (by omega)
  change decide (0 ≤ tipsF ps p) = _ at h1
  rw [decide_eq_false h] at h1
  simp only [List.any_cons, List.any_nil, Bool.or_false] at h1
  have h2 := h1.symm
  simp only [Bool.or_eq_false_iff, decide_eq_false_iff_not] at h2
  intro g hg
  rcases (show g = 0 ∨ g = 1 ∨ g = 2 by omega) with rfl | rfl | rfl <;> omega
/-- an empty row has no determinant -/
theorem det_row0 {f : Nat → Int} {g : Nat} (hg : g < 3) (h : f (3 * g) = 0 ∧ f (3 * g + 1) = 0 ∧ f (3 * g + 2) = 0) : det f = 0 := by
  unfold det
  rcases g with _ | _ | _ | g
  · obtain ⟨h1, h2, h3⟩ := h
    simp only [Nat.reduceMul, Nat.reduceAdd] at h1 h2 h3
    rw [h1, h2, h3]; grind
  · obtain ⟨h1, h2, h3⟩ := h
    simp only [Nat.reduceMul, Nat.reduceAdd] at h1 h2 h3
    rw [h1, h2, h3]; grind
  · obtain ⟨h1, h2, h3⟩ := h
    simp only [Nat.reduceMul, Nat.reduceAdd] at h1 h2 h3
    rw [h1, h2, h3]; grind
  · omega
theorem cramer (f : Nat → Int) (p : Pt) : f 0 * det (putRow f 0 p) + f 3 * det (putRow f 1 p) + f 6 * det (putRow f 2 p) = det f ∧
    f 1 * det (putRow f 0 p) + f 4 * det (putRow f 1 p) + f 7 * det (putRow f 2 p) = det f * p.x ∧
    f 2 * det (putRow f 0 p) + f 5 * det (putRow f 1 p) + f 8 * det (putRow f 2 p) = det f * p.y := by
  simp only [det, putRow, Nat.reduceDiv, Nat.reduceMod, Nat.reduceEqDiff, if_true, if_false, rowP, reduceCtorEq, ite_true, ite_false]
  refine ⟨?_, ?_, ?_⟩ <;> grind
theorem sums_small' {ps : List Sup} (h : chkP ps = 0) : Small (sumsL ps) ps.length := by
  have := sums_small ps (chkP_ok h).2.1 ps.length (Nat.le_refl _)
  rw [List.take_length] at this
  exact this
/-- no group of a platform that can stand is empty -/
theorem count_pos {ps : List Sup} (h : chkP ps = 0) : ∀ g, g < 3 → 1 ≤ sumsL ps (3 * g) := fun g hg => by
  have hs := sums_small' h
  have h1 := hs.n g hg
  by_cases h0 : sumsL ps (3 * g) = 0
  · exfalso
    have h2 := hs.r g 1 hg (by omega)
    have h3 := hs.r g 2 hg (by omega)
    exact (chkP_ok h).2.2 (det_row0 hg ⟨h0, by omega, by omega⟩)
  · omega
theorem balance {ps : List Sup} (p : Pt) : sumsL ps 0 * part ps p 0 + sumsL ps 3 * part ps p 1 + sumsL ps 6 * part ps p 2 = whole ps ∧
    sumsL ps 1 * part ps p 0 + sumsL ps 4 * part ps p 1 + sumsL ps 7 * part ps p 2 = whole ps * p.x ∧
    sumsL ps 2 * part ps p 0 + sumsL ps 5 * part ps p 1 + sumsL ps 8 * part ps p 2 = whole ps * p.y := by
  obtain ⟨h1, h2, h3⟩ := cramer (sumsL ps) p
  unfold part whole
  generalize sgn (det (sumsL ps)) = s
  refine ⟨?_, ?_, ?_⟩ <;> grind
theorem part_le {ps : List Sup} {p : Pt} (h : chkP ps = 0) (hn : ∀ g, g < 3 → 0 ≤ part ps p g) : ∀ g, g < 3 → part ps p g ≤ whole ps := by
  have h1 := (balance (ps := ps) p).1
  have n0 := count_pos h 0 (by omega)
  have n1 := count_pos h 1 (by omega)
  have n2 := count_pos h 2 (by omega)
  simp only [Nat.reduceMul] at n0 n1 n2
  have p0 := hn 0 (by omega)
  have p1 := hn 1 (by omega)
  have p2 := hn 2 (by omega)
  have m0 := Int.mul_le_mul_of_nonneg_right n0 p0
  have m1 := Int.mul_le_mul_of_nonneg_right n1 p1
  have m2 := Int.mul_le_mul_of_nonneg_right n2 p2
  rw [Int.one_mul] at m0 m1 m2
  intro g hg
  rcases (show g = 0 ∨ g = 1 ∨ g = 2 by omega) with rfl | rfl | rfl <;> omega
end Go.Proofs.Ytfkjdjlcaojedaa

/- Platforms: shares; Check, Sums, Parts, Shares, Tips. -/
namespace Go.Proofs.Ytfkjdjlcaojedaa
open Go Sy
set_option maxRecDepth 100000
set_option maxHeartbeats 4000000
set_option linter.unusedVariables false
set_option linter.unusedSimpArgs false
theorem share_B {ps : List Sup} {m : Int} {p : Pt} (h : chkP ps = 0) (hm : okMass m = true) (ht : ¬ 0 ≤ tipsF ps p) (g : Nat) (hg : g < 3) : FrOK m (part ps p g) (whole ps) ∧ 0 ≤ shareV ps m p g ∧ shareV ps m p g ≤ 16777216 := by
  have hw := whole_B h
  have hn := tips_none ht
  have h1 := hn g hg
  have h2 := part_le h hn g hg
  have hm := inR_iff.1 hm
  refine ⟨frac_ok hm ⟨h1, h2⟩ (by omega), ?_⟩
  unfold shareV cdiv
  have h3 : 0 ≤ m * part ps p g := Int.mul_nonneg (by omega) h1
  have h4 : m * part ps p g ≤ 16777216 * whole ps := mulP h1 hm.2 h2 (by omega)
  have h5 : -(m * part ps p g) / whole ps < 1 := by rw [Int.ediv_lt_iff_lt_mul hw.1]; omega
  have h6 : -16777216 ≤ -(m * part ps p g) / whole ps := by rw [Int.le_ediv_iff_mul_le hw.1]; omega
  omega
theorem any_get {ps : List Sup} {q : Sup → Bool} {i : Nat} (hi : i < ps.length) (h : q (sp ps i) = true) : ps.any q = true :=
  List.any_eq_true.2 ⟨_, getD_mem dS ps i hi, h⟩
theorem any_none {ps : List Sup} {q : Sup → Bool} (h : ∀ i, i < ps.length → q (sp ps i) = false) : ps.any q = false := by
  rw [← Bool.not_eq_true, List.any_eq_true]
  rintro ⟨x, hx, hq⟩
  obtain ⟨i, hi⟩ := List.mem_iff_getElem?.1 hx
  have h1 := (List.getElem?_eq_some_iff.1 hi).1
  have := h i h1
  simp only [sp, List.getD, hi, Option.getD_some] at this
  rw [this] at hq; cases hq
theorem fn59 (ps : List Sup) (m : Int) (p : Pt) (h : chkP ps = 0) : Sy.Fn Try.prog 59 [aDk ps, iv m, .agg (cPt p)] (.tup [.agg (c3 (sharesV ps m p)), iv (sharesE ps m p)]) := by
  refine Fn_of_W mixed Xt59 rfl ?_
  obtain ⟨hl, hok, hdet⟩ := chkP_ok h
  unfold sharesV
  repeat' (first | refine WK_go ?_ | refine W_seqL ?_ | refine W_seq ?_ | (refine W_regL ?_; simp (maxSteps := 400000) (disch := omega) only [push_cast, ↓reduceIte, reduceCtorEq, Nat.reduceAdd, Nat.reduceSub, Nat.reduceEqDiff, Nat.reduceLeDiff, Nat.reduceLT, Nat.reduceBEq, Nat.reduceDiv, Nat.reduceMod, Nat.reducePow, Nat.reduceMul, Int.reduceToNat, Int.reduceLT, Int.reduceLE]) | refine W_block ?_ | (refine W_skip ?_; simp (maxSteps := 400000) (disch := omega) only [push_cast, ↓reduceIte, reduceCtorEq, Nat.reduceAdd, Nat.reduceSub, Nat.reduceEqDiff, Nat.reduceLeDiff, Nat.reduceLT, Nat.reduceBEq, Nat.reduceDiv, Nat.reduceMod, Nat.reducePow, Nat.reduceMul, Int.reduceToNat, Int.reduceLT, Int.reduceLE]) | (refine W_exit ?_; simp (maxSteps := 400000) (disch := omega) only [push_cast, ↓reduceIte, reduceCtorEq, Nat.reduceAdd, Nat.reduceSub, Nat.reduceEqDiff, Nat.reduceLeDiff, Nat.reduceLT, Nat.reduceBEq, Nat.reduceDiv, Nat.reduceMod, Nat.reducePow, Nat.reduceMul, Int.reduceToNat, Int.reduceLT, Int.reduceLE]) | refine And.intro (by omega) ?_ | refine And.intro (by intro hq; (try simp only [Bool.and_eq_true, Bool.or_eq_true, Bool.and_eq_false_iff, Bool.or_eq_false_iff, decide_eq_true_eq, decide_eq_false_iff_not, Bool.not_eq_true', Bool.not_eq_false', beq_iff_eq, beq_eq_false_iff_ne, ne_eq] at hq); omega) ?_ | (refine CallC.now (fn54 m) ?_; simp (maxSteps := 400000) (disch := omega) only [push_cast, ↓reduceIte, reduceCtorEq, Nat.reduceAdd, Nat.reduceSub, Nat.reduceEqDiff, Nat.reduceLeDiff, Nat.reduceLT, Nat.reduceBEq, Nat.reduceDiv, Nat.reduceMod, Nat.reducePow, Nat.reduceMul, Int.reduceToNat, Int.reduceLT, Int.reduceLE]) | (refine CallC.go _ (fun _ => ⟨trivial, fn57 p⟩) rfl ?_; simp (maxSteps := 400000) (disch := omega) only [push_cast, ↓reduceIte, reduceCtorEq, Nat.reduceAdd, Nat.reduceSub, Nat.reduceEqDiff, Nat.reduceLeDiff, Nat.reduceLT, Nat.reduceBEq, Nat.reduceDiv, Nat.reduceMod, Nat.reducePow, Nat.reduceMul, Int.reduceToNat, Int.reduceLT, Int.reduceLE]) | fail)
  refine W_cond (by rfl) (fun h1 => ?_) (fun h1 => ?_)
  · have e : sharesE ps m p = 3 := by unfold sharesE; rw [if_pos h1]
    rw [e, if_neg (by decide)]
    repeat' (first | refine WK_go ?_ | refine W_seqL ?_ | refine W_seq ?_ | (refine W_regL ?_; simp (maxSteps := 400000) (disch := omega) only [push_cast, ↓reduceIte, reduceCtorEq, Nat.reduceAdd, Nat.reduceSub, Nat.reduceEqDiff, Nat.reduceLeDiff, Nat.reduceLT, Nat.reduceBEq, Nat.reduceDiv, Nat.reduceMod, Nat.reducePow, Nat.reduceMul, Int.reduceToNat, Int.reduceLT, Int.reduceLE]) | refine W_block ?_ | (refine W_skip ?_; simp (maxSteps := 400000) (disch := omega) only [push_cast, ↓reduceIte, reduceCtorEq, Nat.reduceAdd, Nat.reduceSub, Nat.reduceEqDiff, Nat.reduceLeDiff, Nat.reduceLT, Nat.reduceBEq, Nat.reduceDiv, Nat.reduceMod, Nat.reducePow, Nat.reduceMul, Int.reduceToNat, Int.reduceLT, Int.reduceLE]) | (refine W_exit ?_; simp (maxSteps := 400000) (disch := omega) only [push_cast, ↓reduceIte, reduceCtorEq, Nat.reduceAdd, Nat.reduceSub, Nat.reduceEqDiff, Nat.reduceLeDiff, Nat.reduceLT, Nat.reduceBEq, Nat.reduceDiv, Nat.reduceMod, Nat.reducePow, Nat.reduceMul, Int.reduceToNat, Int.reduceLT, Int.reduceLE]) | refine And.intro (by omega) ?_ | refine And.intro (by intro hq; (try simp only [Bool.and_eq_true, Bool.or_eq_true, Bool.and_eq_false_iff, Bool.or_eq_false_iff, decide_eq_true_eq, decide_eq_false_iff_not, Bool.not_eq_true', Bool.not_eq_false', beq_iff_eq, beq_eq_false_iff_ne, ne_eq] at hq); omega) ?_ | fail)
    exact W_ret ⟨[_, _], ⟨⟨by simp, rfl⟩, rfl, rfl⟩, rfl⟩
  have h1' : okMass m = true ∧ okPt p = true := by simpa using h1
  obtain ⟨hm, hp⟩ := h1'
  repeat' (first | refine WK_go ?_ | refine W_seqL ?_ | refine W_seq ?_ | (refine W_regL ?_; simp (maxSteps := 400000) (disch := omega) only [push_cast, ↓reduceIte, reduceCtorEq, Nat.reduceAdd, Nat.reduceSub, Nat.reduceEqDiff, Nat.reduceLeDiff, Nat.reduceLT, Nat.reduceBEq, Nat.reduceDiv, Nat.reduceMod, Nat.reducePow, Nat.reduceMul, Int.reduceToNat, Int.reduceLT, Int.reduceLE]) | refine W_block ?_ | (refine W_skip ?_; simp (maxSteps := 400000) (disch := omega) only [push_cast, ↓reduceIte, reduceCtorEq, Nat.reduceAdd, Nat.reduceSub, Nat.reduceEqDiff, Nat.reduceLeDiff, Nat.reduceLT, Nat.reduceBEq, Nat.reduceDiv, Nat.reduceMod, Nat.reducePow, Nat.reduceMul, Int.reduceToNat, Int.reduceLT, Int.reduceLE]) | (refine W_exit ?_; simp (maxSteps := 400000) (disch := omega) only [push_cast, ↓reduceIte, reduceCtorEq, Nat.reduceAdd, Nat.reduceSub, Nat.reduceEqDiff, Nat.reduceLeDiff, Nat.reduceLT, Nat.reduceBEq, Nat.reduceDiv, Nat.reduceMod, Nat.reducePow, Nat.reduceMul, Int.reduceToNat, Int.reduceLT, Int.reduceLE]) | refine And.intro (by omega) ?_ | refine And.intro (by intro hq; (try simp only [Bool.and_eq_true, Bool.or_eq_true, Bool.and_eq_false_iff, Bool.or_eq_false_iff, decide_eq_true_eq, decide_eq_false_iff_not, Bool.not_eq_true', Bool.not_eq_false', beq_iff_eq, beq_eq_false_iff_ne, ne_eq] at hq); omega) ?_ | (refine CallC.now (fn58 ps p h hp) ?_; simp (maxSteps := 400000) (disch := omega) only [push_cast, ↓reduceIte, reduceCtorEq, Nat.reduceAdd, Nat.reduceSub, Nat.reduceEqDiff, Nat.reduceLeDiff, Nat.reduceLT, Nat.reduceBEq, Nat.reduceDiv, Nat.reduceMod, Nat.reducePow, Nat.reduceMul, Int.reduceToNat, Int.reduceLT, Int.reduceLE]) | fail)
  refine W_condD (by rfl) (fun h2 => ?_) (fun h2 => ?_)
  · have e : sharesE ps m p = 19 := by unfold sharesE; rw [if_neg (by rw [h1]; decide), if_pos h2]
    rw [e, if_neg (by decide)]
    repeat' (first | refine WK_go ?_ | refine W_seqL ?_ | refine W_seq ?_ | (refine W_regL ?_; simp (maxSteps := 400000) (disch := omega) only [push_cast, ↓reduceIte, reduceCtorEq, Nat.reduceAdd, Nat.reduceSub, Nat.reduceEqDiff, Nat.reduceLeDiff, Nat.reduceLT, Nat.reduceBEq, Nat.reduceDiv, Nat.reduceMod, Nat.reducePow, Nat.reduceMul, Int.reduceToNat, Int.reduceLT, Int.reduceLE]) | refine W_block ?_ | (refine W_skip ?_; simp (maxSteps := 400000) (disch := omega) only [push_cast, ↓reduceIte, reduceCtorEq, Nat.reduceAdd, Nat.reduceSub, Nat.reduceEqDiff, Nat.reduceLeDiff, Nat.reduceLT, Nat.reduceBEq, Nat.reduceDiv, Nat.reduceMod, Nat.reducePow, Nat.reduceMul, Int.reduceToNat, Int.reduceLT, Int.reduceLE]) | (refine W_exit ?_; simp (maxSteps := 400000) (disch := omega) only [push_cast, ↓reduceIte, reduceCtorEq, Nat.reduceAdd, Nat.reduceSub, Nat.reduceEqDiff, Nat.reduceLeDiff, Nat.reduceLT, Nat.reduceBEq, Nat.reduceDiv, Nat.reduceMod, Nat.reducePow, Nat.reduceMul, Int.reduceToNat, Int.reduceLT, Int.reduceLE]) | refine And.intro (by omega) ?_ | refine And.intro (by intro hq; (try simp only [Bool.and_eq_true, Bool.or_eq_true, Bool.and_eq_false_iff, Bool.or_eq_false_iff, decide_eq_true_eq, decide_eq_false_iff_not, Bool.not_eq_true', Bool.not_eq_false', beq_iff_eq, beq_eq_false_iff_ne, ne_eq] at hq); omega) ?_ | fail)
    exact W_ret ⟨[_, _], ⟨⟨by simp, rfl⟩, rfl, rfl⟩, rfl⟩
  have hE : sharesE ps m p = if (ps.any fun s => decide (s.limit < cdiv (m * part ps p s.g.toNat) (whole ps))) = true then 14 else 0 := by
    unfold sharesE; rw [if_neg (by rw [h1]; decide), if_neg h2]
  repeat' (first | refine WK_go ?_ | refine W_seqL ?_ | refine W_seq ?_ | (refine W_regL ?_; simp (maxSteps := 400000) (disch := omega) only [push_cast, ↓reduceIte, reduceCtorEq, Nat.reduceAdd, Nat.reduceSub, Nat.reduceEqDiff, Nat.reduceLeDiff, Nat.reduceLT, Nat.reduceBEq, Nat.reduceDiv, Nat.reduceMod, Nat.reducePow, Nat.reduceMul, Int.reduceToNat, Int.reduceLT, Int.reduceLE]) | refine W_block ?_ | (refine W_skip ?_; simp (maxSteps := 400000) (disch := omega) only [push_cast, ↓reduceIte, reduceCtorEq, Nat.reduceAdd, Nat.reduceSub, Nat.reduceEqDiff, Nat.reduceLeDiff, Nat.reduceLT, Nat.reduceBEq, Nat.reduceDiv, Nat.reduceMod, Nat.reducePow, Nat.reduceMul, Int.reduceToNat, Int.reduceLT, Int.reduceLE]) | (refine W_exit ?_; simp (maxSteps := 400000) (disch := omega) only [push_cast, ↓reduceIte, reduceCtorEq, Nat.reduceAdd, Nat.reduceSub, Nat.reduceEqDiff, Nat.reduceLeDiff, Nat.reduceLT, Nat.reduceBEq, Nat.reduceDiv, Nat.reduceMod, Nat.reducePow, Nat.reduceMul, Int.reduceToNat, Int.reduceLT, Int.reduceLE]) | refine And.intro (by omega) ?_ | refine And.intro (by intro hq; (try simp only [Bool.and_eq_true, Bool.or_eq_true, Bool.and_eq_false_iff, Bool.or_eq_false_iff, decide_eq_true_eq, decide_eq_false_iff_not, Bool.not_eq_true', Bool.not_eq_false', beq_iff_eq, beq_eq_false_iff_ne, ne_eq] at hq); omega) ?_ | (refine CallC.now (fn60 ps p h hp) ?_; simp (maxSteps := 400000) (disch := omega) only [push_cast, ↓reduceIte, reduceCtorEq, Nat.reduceAdd, Nat.reduceSub, Nat.reduceEqDiff, Nat.reduceLeDiff, Nat.reduceLT, Nat.reduceBEq, Nat.reduceDiv, Nat.reduceMod, Nat.reducePow, Nat.reduceMul, Int.reduceToNat, Int.reduceLT, Int.reduceLE]) | fail)
  refine W_loopU (fun k : Nat => [(34, iv k)]) (fun k => [(1, .cells (c3 (upto (shareV ps m p) k)))]) (fun k => k ≤ 3) (fun k => 3 - k) 0 (by omega) (by rfl) (by rfl) (fun k hk => ?_)
  simp (maxSteps := 400000) (disch := omega) only [push_cast, ↓reduceIte, reduceCtorEq, Nat.reduceAdd, Nat.reduceSub, Nat.reduceEqDiff, Nat.reduceLeDiff, Nat.reduceLT, Nat.reduceBEq, Nat.reduceDiv, Nat.reduceMod, Nat.reducePow, Nat.reduceMul, Int.reduceToNat, Int.reduceLT, Int.reduceLE]
  repeat' (first | refine WK_go ?_ | refine W_seqL ?_ | refine W_seq ?_ | (refine W_regL ?_; simp (maxSteps := 400000) (disch := omega) only [push_cast, ↓reduceIte, reduceCtorEq, Nat.reduceAdd, Nat.reduceSub, Nat.reduceEqDiff, Nat.reduceLeDiff, Nat.reduceLT, Nat.reduceBEq, Nat.reduceDiv, Nat.reduceMod, Nat.reducePow, Nat.reduceMul, Int.reduceToNat, Int.reduceLT, Int.reduceLE]) | refine W_block ?_ | (refine W_skip ?_; simp (maxSteps := 400000) (disch := omega) only [push_cast, ↓reduceIte, reduceCtorEq, Nat.reduceAdd, Nat.reduceSub, Nat.reduceEqDiff, Nat.reduceLeDiff, Nat.reduceLT, Nat.reduceBEq, Nat.reduceDiv, Nat.reduceMod, Nat.reducePow, Nat.reduceMul, Int.reduceToNat, Int.reduceLT, Int.reduceLE]) | (refine W_exit ?_; simp (maxSteps := 400000) (disch := omega) only [push_cast, ↓reduceIte, reduceCtorEq, Nat.reduceAdd, Nat.reduceSub, Nat.reduceEqDiff, Nat.reduceLeDiff, Nat.reduceLT, Nat.reduceBEq, Nat.reduceDiv, Nat.reduceMod, Nat.reducePow, Nat.reduceMul, Int.reduceToNat, Int.reduceLT, Int.reduceLE]) | refine And.intro (by omega) ?_ | refine And.intro (by intro hq; (try simp only [Bool.and_eq_true, Bool.or_eq_true, Bool.and_eq_false_iff, Bool.or_eq_false_iff, decide_eq_true_eq, decide_eq_false_iff_not, Bool.not_eq_true', Bool.not_eq_false', beq_iff_eq, beq_eq_false_iff_ne, ne_eq] at hq); omega) ?_ | fail)
  refine W_condD (by rfl) (fun h6 => ?_) (fun h6 => ?_)
  · have hk3 : k < 3 := by omega
    have hset : List.take k (c3 (upto (shareV ps m p) k)) ++ [iv (cdiv (m * part ps p k) (whole ps))] ++ List.drop (k + 1) (c3 (upto (shareV ps m p) k)) = c3 (upto (shareV ps m p) (k + 1)) := set3 (shareV ps m p) k hk3
    have c55 := fn55 m (part ps p k) (whole ps) (share_B h hm h2 k hk3).1
    repeat' (first | refine WK_go ?_ | refine W_seqL ?_ | refine W_seq ?_ | (refine W_regL ?_; simp (maxSteps := 400000) (disch := omega) only [push_cast, ↓reduceIte, reduceCtorEq, Nat.reduceAdd, Nat.reduceSub, Nat.reduceEqDiff, Nat.reduceLeDiff, Nat.reduceLT, Nat.reduceBEq, Nat.reduceDiv, Nat.reduceMod, Nat.reducePow, Nat.reduceMul, Int.reduceToNat, Int.reduceLT, Int.reduceLE, hset, Nat.mul_one]) | refine W_block ?_ | (refine W_skip ?_; simp (maxSteps := 400000) (disch := omega) only [push_cast, ↓reduceIte, reduceCtorEq, Nat.reduceAdd, Nat.reduceSub, Nat.reduceEqDiff, Nat.reduceLeDiff, Nat.reduceLT, Nat.reduceBEq, Nat.reduceDiv, Nat.reduceMod, Nat.reducePow, Nat.reduceMul, Int.reduceToNat, Int.reduceLT, Int.reduceLE, hset, Nat.mul_one]) | (refine W_exit ?_; simp (maxSteps := 400000) (disch := omega) only [push_cast, ↓reduceIte, reduceCtorEq, Nat.reduceAdd, Nat.reduceSub, Nat.reduceEqDiff, Nat.reduceLeDiff, Nat.reduceLT, Nat.reduceBEq, Nat.reduceDiv, Nat.reduceMod, Nat.reducePow, Nat.reduceMul, Int.reduceToNat, Int.reduceLT, Int.reduceLE, hset, Nat.mul_one]) | refine And.intro (by omega) ?_ | refine And.intro (by intro hq; (try simp only [Bool.and_eq_true, Bool.or_eq_true, Bool.and_eq_false_iff, Bool.or_eq_false_iff, decide_eq_true_eq, decide_eq_false_iff_not, Bool.not_eq_true', Bool.not_eq_false', beq_iff_eq, beq_eq_false_iff_ne, ne_eq] at hq); omega) ?_ | (refine CallC.now (c55) ?_; simp (maxSteps := 400000) (disch := omega) only [push_cast, ↓reduceIte, reduceCtorEq, Nat.reduceAdd, Nat.reduceSub, Nat.reduceEqDiff, Nat.reduceLeDiff, Nat.reduceLT, Nat.reduceBEq, Nat.reduceDiv, Nat.reduceMod, Nat.reducePow, Nat.reduceMul, Int.reduceToNat, Int.reduceLT, Int.reduceLE, hset, Nat.mul_one]) | fail)
    refine ⟨k + 1, by omega, by omega, by rfl, ?_⟩
    simp (maxSteps := 400000) (disch := omega) only [push_cast, ↓reduceIte, reduceCtorEq, Nat.reduceAdd, Nat.reduceSub, Nat.reduceEqDiff, Nat.reduceLeDiff, Nat.reduceLT, Nat.reduceBEq, Nat.reduceDiv, Nat.reduceMod, Nat.reducePow, Nat.reduceMul, Int.reduceToNat, Int.reduceLT, Int.reduceLE, S.mk.injEq, List.cons.injEq, Prod.mk.injEq, AV.v.injEq, Value.int.injEq, Value.bool.injEq, Blk.cells.injEq]
  · obtain rfl : k = 3 := by omega
    repeat' (first | refine WK_go ?_ | refine W_seqL ?_ | refine W_seq ?_ | (refine W_regL ?_; simp (maxSteps := 400000) (disch := omega) only [push_cast, ↓reduceIte, reduceCtorEq, Nat.reduceAdd, Nat.reduceSub, Nat.reduceEqDiff, Nat.reduceLeDiff, Nat.reduceLT, Nat.reduceBEq, Nat.reduceDiv, Nat.reduceMod, Nat.reducePow, Nat.reduceMul, Int.reduceToNat, Int.reduceLT, Int.reduceLE, upto3]) | refine W_block ?_ | (refine W_skip ?_; simp (maxSteps := 400000) (disch := omega) only [push_cast, ↓reduceIte, reduceCtorEq, Nat.reduceAdd, Nat.reduceSub, Nat.reduceEqDiff, Nat.reduceLeDiff, Nat.reduceLT, Nat.reduceBEq, Nat.reduceDiv, Nat.reduceMod, Nat.reducePow, Nat.reduceMul, Int.reduceToNat, Int.reduceLT, Int.reduceLE, upto3]) | (refine W_exit ?_; simp (maxSteps := 400000) (disch := omega) only [push_cast, ↓reduceIte, reduceCtorEq, Nat.reduceAdd, Nat.reduceSub, Nat.reduceEqDiff, Nat.reduceLeDiff, Nat.reduceLT, Nat.reduceBEq, Nat.reduceDiv, Nat.reduceMod, Nat.reducePow, Nat.reduceMul, Int.reduceToNat, Int.reduceLT, Int.reduceLE, upto3]) | refine And.intro (by omega) ?_ | refine And.intro (by intro hq; (try simp only [Bool.and_eq_true, Bool.or_eq_true, Bool.and_eq_false_iff, Bool.or_eq_false_iff, decide_eq_true_eq, decide_eq_false_iff_not, Bool.not_eq_true', Bool.not_eq_false', beq_iff_eq, beq_eq_false_iff_ne, ne_eq] at hq); omega) ?_ | fail)
    refine W_loopU (fun i : Nat => [(54, iv i)]) (fun i => []) (fun i => i ≤ ps.length ∧ ∀ j, j < i → decide ((sp ps j).limit < cdiv (m * part ps p (sp ps j).g.toNat) (whole ps)) = false) (fun i => ps.length - i) 0 ⟨by omega, fun j hj => by omega⟩ (by rfl) (by rfl) (fun i hi => ?_)
    obtain ⟨hi, hno⟩ := hi
    simp (maxSteps := 400000) (disch := omega) only [push_cast, ↓reduceIte, reduceCtorEq, Nat.reduceAdd, Nat.reduceSub, Nat.reduceEqDiff, Nat.reduceLeDiff, Nat.reduceLT, Nat.reduceBEq, Nat.reduceDiv, Nat.reduceMod, Nat.reducePow, Nat.reduceMul, Int.reduceToNat, Int.reduceLT, Int.reduceLE]
    repeat' (first | refine WK_go ?_ | refine W_seqL ?_ | refine W_seq ?_ | (refine W_regL ?_; simp (maxSteps := 400000) (disch := omega) only [push_cast, ↓reduceIte, reduceCtorEq, Nat.reduceAdd, Nat.reduceSub, Nat.reduceEqDiff, Nat.reduceLeDiff, Nat.reduceLT, Nat.reduceBEq, Nat.reduceDiv, Nat.reduceMod, Nat.reducePow, Nat.reduceMul, Int.reduceToNat, Int.reduceLT, Int.reduceLE]) | refine W_block ?_ | (refine W_skip ?_; simp (maxSteps := 400000) (disch := omega) only [push_cast, ↓reduceIte, reduceCtorEq, Nat.reduceAdd, Nat.reduceSub, Nat.reduceEqDiff, Nat.reduceLeDiff, Nat.reduceLT, Nat.reduceBEq, Nat.reduceDiv, Nat.reduceMod, Nat.reducePow, Nat.reduceMul, Int.reduceToNat, Int.reduceLT, Int.reduceLE]) | (refine W_exit ?_; simp (maxSteps := 400000) (disch := omega) only [push_cast, ↓reduceIte, reduceCtorEq, Nat.reduceAdd, Nat.reduceSub, Nat.reduceEqDiff, Nat.reduceLeDiff, Nat.reduceLT, Nat.reduceBEq, Nat.reduceDiv, Nat.reduceMod, Nat.reducePow, Nat.reduceMul, Int.reduceToNat, Int.reduceLT, Int.reduceLE]) | refine And.intro (by omega) ?_ | refine And.intro (by intro hq; (try simp only [Bool.and_eq_true, Bool.or_eq_true, Bool.and_eq_false_iff, Bool.or_eq_false_iff, decide_eq_true_eq, decide_eq_false_iff_not, Bool.not_eq_true', Bool.not_eq_false', beq_iff_eq, beq_eq_false_iff_ne, ne_eq] at hq); omega) ?_ | fail)
    refine W_condD (by rfl) (fun h7 => ?_) (fun h7 => ?_)
    · have hlt : i < ps.length := by omega
      have hsp : ps.getD i dS = sp ps i := rfl
      have hsg := supB_iff.1 (hok i hlt)
      obtain ⟨g, hg⟩ : ∃ g : Nat, (sp ps i).g = g := ⟨(sp ps i).g.toNat, by omega⟩
      have hgn : (sp ps i).g.toNat = g := by omega
      have hg3 : g < 3 := by omega
      repeat' (first | refine WK_go ?_ | refine W_seqL ?_ | refine W_seq ?_ | (refine W_regL ?_; simp (maxSteps := 400000) (disch := omega) only [push_cast, ↓reduceIte, reduceCtorEq, Nat.reduceAdd, Nat.reduceSub, Nat.reduceEqDiff, Nat.reduceLeDiff, Nat.reduceLT, Nat.reduceBEq, Nat.reduceDiv, Nat.reduceMod, Nat.reducePow, Nat.reduceMul, Int.reduceToNat, Int.reduceLT, Int.reduceLE, hsp, hg, Nat.mul_one]) | refine W_block ?_ | (refine W_skip ?_; simp (maxSteps := 400000) (disch := omega) only [push_cast, ↓reduceIte, reduceCtorEq, Nat.reduceAdd, Nat.reduceSub, Nat.reduceEqDiff, Nat.reduceLeDiff, Nat.reduceLT, Nat.reduceBEq, Nat.reduceDiv, Nat.reduceMod, Nat.reducePow, Nat.reduceMul, Int.reduceToNat, Int.reduceLT, Int.reduceLE, hsp, hg, Nat.mul_one]) | (refine W_exit ?_; simp (maxSteps := 400000) (disch := omega) only [push_cast, ↓reduceIte, reduceCtorEq, Nat.reduceAdd, Nat.reduceSub, Nat.reduceEqDiff, Nat.reduceLeDiff, Nat.reduceLT, Nat.reduceBEq, Nat.reduceDiv, Nat.reduceMod, Nat.reducePow, Nat.reduceMul, Int.reduceToNat, Int.reduceLT, Int.reduceLE, hsp, hg, Nat.mul_one]) | refine And.intro (by omega) ?_ | refine And.intro (by intro hq; (try simp only [Bool.and_eq_true, Bool.or_eq_true, Bool.and_eq_false_iff, Bool.or_eq_false_iff, decide_eq_true_eq, decide_eq_false_iff_not, Bool.not_eq_true', Bool.not_eq_false', beq_iff_eq, beq_eq_false_iff_ne, ne_eq] at hq); omega) ?_ | fail)
      refine W_condD (by rfl) (fun h8 => ?_) (fun h8 => ?_)
      · have e : sharesE ps m p = 14 := by
          rw [hE, any_get hlt (by rw [hgn]; exact decide_eq_true h8)]; rfl
        rw [e, if_neg (by decide)]
        repeat' (first | refine WK_go ?_ | refine W_seqL ?_ | refine W_seq ?_ | (refine W_regL ?_; simp (maxSteps := 400000) (disch := omega) only [push_cast, ↓reduceIte, reduceCtorEq, Nat.reduceAdd, Nat.reduceSub, Nat.reduceEqDiff, Nat.reduceLeDiff, Nat.reduceLT, Nat.reduceBEq, Nat.reduceDiv, Nat.reduceMod, Nat.reducePow, Nat.reduceMul, Int.reduceToNat, Int.reduceLT, Int.reduceLE]) | refine W_block ?_ | (refine W_skip ?_; simp (maxSteps := 400000) (disch := omega) only [push_cast, ↓reduceIte, reduceCtorEq, Nat.reduceAdd, Nat.reduceSub, Nat.reduceEqDiff, Nat.reduceLeDiff, Nat.reduceLT, Nat.reduceBEq, Nat.reduceDiv, Nat.reduceMod, Nat.reducePow, Nat.reduceMul, Int.reduceToNat, Int.reduceLT, Int.reduceLE]) | (refine W_exit ?_; simp (maxSteps := 400000) (disch := omega) only [push_cast, ↓reduceIte, reduceCtorEq, Nat.reduceAdd, Nat.reduceSub, Nat.reduceEqDiff, Nat.reduceLeDiff, Nat.reduceLT, Nat.reduceBEq, Nat.reduceDiv, Nat.reduceMod, Nat.reducePow, Nat.reduceMul, Int.reduceToNat, Int.reduceLT, Int.reduceLE]) | refine And.intro (by omega) ?_ | refine And.intro (by intro hq; (try simp only [Bool.and_eq_true, Bool.or_eq_true, Bool.and_eq_false_iff, Bool.or_eq_false_iff, decide_eq_true_eq, decide_eq_false_iff_not, Bool.not_eq_true', Bool.not_eq_false', beq_iff_eq, beq_eq_false_iff_ne, ne_eq] at hq); omega) ?_ | fail)
        exact W_ret ⟨[_, _], ⟨⟨by simp, rfl⟩, rfl, rfl⟩, rfl⟩
      · repeat' (first | refine WK_go ?_ | refine W_seqL ?_ | refine W_seq ?_ | (refine W_regL ?_; simp (maxSteps := 400000) (disch := omega) only [push_cast, ↓reduceIte, reduceCtorEq, Nat.reduceAdd, Nat.reduceSub, Nat.reduceEqDiff, Nat.reduceLeDiff, Nat.reduceLT, Nat.reduceBEq, Nat.reduceDiv, Nat.reduceMod, Nat.reducePow, Nat.reduceMul, Int.reduceToNat, Int.reduceLT, Int.reduceLE]) | refine W_block ?_ | (refine W_skip ?_; simp (maxSteps := 400000) (disch := omega) only [push_cast, ↓reduceIte, reduceCtorEq, Nat.reduceAdd, Nat.reduceSub, Nat.reduceEqDiff, Nat.reduceLeDiff, Nat.reduceLT, Nat.reduceBEq, Nat.reduceDiv, Nat.reduceMod, Nat.reducePow, Nat.reduceMul, Int.reduceToNat, Int.reduceLT, Int.reduceLE]) | (refine W_exit ?_; simp (maxSteps := 400000) (disch := omega) only [push_cast, ↓reduceIte, reduceCtorEq, Nat.reduceAdd, Nat.reduceSub, Nat.reduceEqDiff, Nat.reduceLeDiff, Nat.reduceLT, Nat.reduceBEq, Nat.reduceDiv, Nat.reduceMod, Nat.reducePow, Nat.reduceMul, Int.reduceToNat, Int.reduceLT, Int.reduceLE]) | refine And.intro (by omega) ?_ | refine And.intro (by intro hq; (try simp only [Bool.and_eq_true, Bool.or_eq_true, Bool.and_eq_false_iff, Bool.or_eq_false_iff, decide_eq_true_eq, decide_eq_false_iff_not, Bool.not_eq_true', Bool.not_eq_false', beq_iff_eq, beq_eq_false_iff_ne, ne_eq] at hq); omega) ?_ | fail)
        refine ⟨i + 1, ⟨by omega, up_all hno (by rw [hgn]; exact decide_eq_false h8)⟩, by omega, by rfl, ?_⟩
        simp (maxSteps := 400000) (disch := omega) only [push_cast, ↓reduceIte, reduceCtorEq, Nat.reduceAdd, Nat.reduceSub, Nat.reduceEqDiff, Nat.reduceLeDiff, Nat.reduceLT, Nat.reduceBEq, Nat.reduceDiv, Nat.reduceMod, Nat.reducePow, Nat.reduceMul, Int.reduceToNat, Int.reduceLT, Int.reduceLE, S.mk.injEq, List.cons.injEq, Prod.mk.injEq, AV.v.injEq, Value.int.injEq, Value.bool.injEq, Blk.cells.injEq]
    · repeat' (first | refine WK_go ?_ | refine W_seqL ?_ | refine W_seq ?_ | (refine W_regL ?_; simp (maxSteps := 400000) (disch := omega) only [push_cast, ↓reduceIte, reduceCtorEq, Nat.reduceAdd, Nat.reduceSub, Nat.reduceEqDiff, Nat.reduceLeDiff, Nat.reduceLT, Nat.reduceBEq, Nat.reduceDiv, Nat.reduceMod, Nat.reducePow, Nat.reduceMul, Int.reduceToNat, Int.reduceLT, Int.reduceLE]) | refine W_block ?_ | (refine W_skip ?_; simp (maxSteps := 400000) (disch := omega) only [push_cast, ↓reduceIte, reduceCtorEq, Nat.reduceAdd, Nat.reduceSub, Nat.reduceEqDiff, Nat.reduceLeDiff, Nat.reduceLT, Nat.reduceBEq, Nat.reduceDiv, Nat.reduceMod, Nat.reducePow, Nat.reduceMul, Int.reduceToNat, Int.reduceLT, Int.reduceLE]) | (refine W_exit ?_; simp (maxSteps := 400000) (disch := omega) only [push_cast, ↓reduceIte, reduceCtorEq, Nat.reduceAdd, Nat.reduceSub, Nat.reduceEqDiff, Nat.reduceLeDiff, Nat.reduceLT, Nat.reduceBEq, Nat.reduceDiv, Nat.reduceMod, Nat.reducePow, Nat.reduceMul, Int.reduceToNat, Int.reduceLT, Int.reduceLE]) | refine And.intro (by omega) ?_ | refine And.intro (by intro hq; (try simp only [Bool.and_eq_true, Bool.or_eq_true, Bool.and_eq_false_iff, Bool.or_eq_false_iff, decide_eq_true_eq, decide_eq_false_iff_not, Bool.not_eq_true', Bool.not_eq_false', beq_iff_eq, beq_eq_false_iff_ne, ne_eq] at hq); omega) ?_ | fail)
      have e : sharesE ps m p = 0 := by rw [hE, any_none (fun j hj => hno j (by omega))]; rfl
      rw [e, if_pos rfl]
      exact W_ret ⟨[_, _], ⟨⟨by simp [len3], rfl⟩, rfl, rfl⟩, rfl⟩
abbrev z3 : Nat → Int := fun _ => 0
noncomputable def shE (ps : List Sup) (m : Int) (p : Pt) : Int := if chkP ps = 0 then sharesE ps m p else chkP ps
noncomputable def shV (ps : List Sup) (m : Int) (p : Pt) : Nat → Int := if chkP ps = 0 then sharesV ps m p else z3
/-- Shares -/
theorem fn21 (ps : List Sup) (m : Int) (p : Pt) (hl : ps.length ≤ 140737488355328) : Sy.Fn Try.prog 21 [aP ps, iv m, .agg (cPt p)] (.tup [.agg (c3 (shV ps m p)), iv (shE ps m p)]) := by
  refine Fn_of_W mixed Xt21 rfl ?_
  unfold shE shV
  by_cases h : chkP ps = 0
  · rw [if_pos h, if_pos h]
    repeat' (first | refine WK_go ?_ | refine W_seqL ?_ | refine W_seq ?_ | (refine W_regL ?_; simp (maxSteps := 400000) (disch := omega) only [push_cast, ↓reduceIte, reduceCtorEq, Nat.reduceAdd, Nat.reduceSub, Nat.reduceEqDiff, Nat.reduceLeDiff, Nat.reduceLT, Nat.reduceBEq, Nat.reduceDiv, Nat.reduceMod, Nat.reducePow, Nat.reduceMul, Int.reduceToNat, Int.reduceLT, Int.reduceLE]) | refine W_block ?_ | (refine W_skip ?_; simp (maxSteps := 400000) (disch := omega) only [push_cast, ↓reduceIte, reduceCtorEq, Nat.reduceAdd, Nat.reduceSub, Nat.reduceEqDiff, Nat.reduceLeDiff, Nat.reduceLT, Nat.reduceBEq, Nat.reduceDiv, Nat.reduceMod, Nat.reducePow, Nat.reduceMul, Int.reduceToNat, Int.reduceLT, Int.reduceLE]) | (refine W_exit ?_; simp (maxSteps := 400000) (disch := omega) only [push_cast, ↓reduceIte, reduceCtorEq, Nat.reduceAdd, Nat.reduceSub, Nat.reduceEqDiff, Nat.reduceLeDiff, Nat.reduceLT, Nat.reduceBEq, Nat.reduceDiv, Nat.reduceMod, Nat.reducePow, Nat.reduceMul, Int.reduceToNat, Int.reduceLT, Int.reduceLE]) | refine And.intro (by omega) ?_ | refine And.intro (by intro hq; (try simp only [Bool.and_eq_true, Bool.or_eq_true, Bool.and_eq_false_iff, Bool.or_eq_false_iff, decide_eq_true_eq, decide_eq_false_iff_not, Bool.not_eq_true', Bool.not_eq_false', beq_iff_eq, beq_eq_false_iff_ne, ne_eq] at hq); omega) ?_ | (refine CallC.now (c56 ps hl h) ?_; simp (maxSteps := 400000) (disch := omega) only [push_cast, ↓reduceIte, reduceCtorEq, Nat.reduceAdd, Nat.reduceSub, Nat.reduceEqDiff, Nat.reduceLeDiff, Nat.reduceLT, Nat.reduceBEq, Nat.reduceDiv, Nat.reduceMod, Nat.reducePow, Nat.reduceMul, Int.reduceToNat, Int.reduceLT, Int.reduceLE]) | fail)
    refine W_cond (by rfl) (fun h => by cases h) (fun _ => ?_)
    repeat' (first | refine WK_go ?_ | refine W_seqL ?_ | refine W_seq ?_ | (refine W_regL ?_; simp (maxSteps := 400000) (disch := omega) only [push_cast, ↓reduceIte, reduceCtorEq, Nat.reduceAdd, Nat.reduceSub, Nat.reduceEqDiff, Nat.reduceLeDiff, Nat.reduceLT, Nat.reduceBEq, Nat.reduceDiv, Nat.reduceMod, Nat.reducePow, Nat.reduceMul, Int.reduceToNat, Int.reduceLT, Int.reduceLE]) | refine W_block ?_ | (refine W_skip ?_; simp (maxSteps := 400000) (disch := omega) only [push_cast, ↓reduceIte, reduceCtorEq, Nat.reduceAdd, Nat.reduceSub, Nat.reduceEqDiff, Nat.reduceLeDiff, Nat.reduceLT, Nat.reduceBEq, Nat.reduceDiv, Nat.reduceMod, Nat.reducePow, Nat.reduceMul, Int.reduceToNat, Int.reduceLT, Int.reduceLE]) | (refine W_exit ?_; simp (maxSteps := 400000) (disch := omega) only [push_cast, ↓reduceIte, reduceCtorEq, Nat.reduceAdd, Nat.reduceSub, Nat.reduceEqDiff, Nat.reduceLeDiff, Nat.reduceLT, Nat.reduceBEq, Nat.reduceDiv, Nat.reduceMod, Nat.reducePow, Nat.reduceMul, Int.reduceToNat, Int.reduceLT, Int.reduceLE]) | refine And.intro (by omega) ?_ | refine And.intro (by intro hq; (try simp only [Bool.and_eq_true, Bool.or_eq_true, Bool.and_eq_false_iff, Bool.or_eq_false_iff, decide_eq_true_eq, decide_eq_false_iff_not, Bool.not_eq_true', Bool.not_eq_false', beq_iff_eq, beq_eq_false_iff_ne, ne_eq] at hq); omega) ?_ | (refine CallC.now (fn59 ps m p h) ?_; simp (maxSteps := 400000) (disch := omega) only [push_cast, ↓reduceIte, reduceCtorEq, Nat.reduceAdd, Nat.reduceSub, Nat.reduceEqDiff, Nat.reduceLeDiff, Nat.reduceLT, Nat.reduceBEq, Nat.reduceDiv, Nat.reduceMod, Nat.reducePow, Nat.reduceMul, Int.reduceToNat, Int.reduceLT, Int.reduceLE]) | fail)
    exact W_ret ⟨[_, _], ⟨⟨by simp [len3], rfl⟩, rfl, rfl⟩, rfl⟩
  · rw [if_neg h, if_neg h]
    repeat' (first | refine WK_go ?_ | refine W_seqL ?_ | refine W_seq ?_ | (refine W_regL ?_; simp (maxSteps := 400000) (disch := omega) only [push_cast, ↓reduceIte, reduceCtorEq, Nat.reduceAdd, Nat.reduceSub, Nat.reduceEqDiff, Nat.reduceLeDiff, Nat.reduceLT, Nat.reduceBEq, Nat.reduceDiv, Nat.reduceMod, Nat.reducePow, Nat.reduceMul, Int.reduceToNat, Int.reduceLT, Int.reduceLE]) | refine W_block ?_ | (refine W_skip ?_; simp (maxSteps := 400000) (disch := omega) only [push_cast, ↓reduceIte, reduceCtorEq, Nat.reduceAdd, Nat.reduceSub, Nat.reduceEqDiff, Nat.reduceLeDiff, Nat.reduceLT, Nat.reduceBEq, Nat.reduceDiv, Nat.reduceMod, Nat.reducePow, Nat.reduceMul, Int.reduceToNat, Int.reduceLT, Int.reduceLE]) | (refine W_exit ?_; simp (maxSteps := 400000) (disch := omega) only [push_cast, ↓reduceIte, reduceCtorEq, Nat.reduceAdd, Nat.reduceSub, Nat.reduceEqDiff, Nat.reduceLeDiff, Nat.reduceLT, Nat.reduceBEq, Nat.reduceDiv, Nat.reduceMod, Nat.reducePow, Nat.reduceMul, Int.reduceToNat, Int.reduceLT, Int.reduceLE]) | refine And.intro (by omega) ?_ | refine And.intro (by intro hq; (try simp only [Bool.and_eq_true, Bool.or_eq_true, Bool.and_eq_false_iff, Bool.or_eq_false_iff, decide_eq_true_eq, decide_eq_false_iff_not, Bool.not_eq_true', Bool.not_eq_false', beq_iff_eq, beq_eq_false_iff_ne, ne_eq] at hq); omega) ?_ | (refine CallC.now (c56n ps hl h) ?_; simp (maxSteps := 400000) (disch := omega) only [push_cast, ↓reduceIte, reduceCtorEq, Nat.reduceAdd, Nat.reduceSub, Nat.reduceEqDiff, Nat.reduceLeDiff, Nat.reduceLT, Nat.reduceBEq, Nat.reduceDiv, Nat.reduceMod, Nat.reducePow, Nat.reduceMul, Int.reduceToNat, Int.reduceLT, Int.reduceLE]) | fail)
    refine W_cond (by rfl) (fun _ => ?_) (fun h1 => by simp [h] at h1)
    repeat' (first | refine WK_go ?_ | refine W_seqL ?_ | refine W_seq ?_ | (refine W_regL ?_; simp (maxSteps := 400000) (disch := omega) only [push_cast, ↓reduceIte, reduceCtorEq, Nat.reduceAdd, Nat.reduceSub, Nat.reduceEqDiff, Nat.reduceLeDiff, Nat.reduceLT, Nat.reduceBEq, Nat.reduceDiv, Nat.reduceMod, Nat.reducePow, Nat.reduceMul, Int.reduceToNat, Int.reduceLT, Int.reduceLE]) | refine W_block ?_ | (refine W_skip ?_; simp (maxSteps := 400000) (disch := omega) only [push_cast, ↓reduceIte, reduceCtorEq, Nat.reduceAdd, Nat.reduceSub, Nat.reduceEqDiff, Nat.reduceLeDiff, Nat.reduceLT, Nat.reduceBEq, Nat.reduceDiv, Nat.reduceMod, Nat.reducePow, Nat.reduceMul, Int.reduceToNat, Int.reduceLT, Int.reduceLE]) | (refine W_exit ?_; simp (maxSteps := 400000) (disch := omega) only [push_cast, ↓reduceIte, reduceCtorEq, Nat.reduceAdd, Nat.reduceSub, Nat.reduceEqDiff, Nat.reduceLeDiff, Nat.reduceLT, Nat.reduceBEq, Nat.reduceDiv, Nat.reduceMod, Nat.reducePow, Nat.reduceMul, Int.reduceToNat, Int.reduceLT, Int.reduceLE]) | refine And.intro (by omega) ?_ | refine And.intro (by intro hq; (try simp only [Bool.and_eq_true, Bool.or_eq_true, Bool.and_eq_false_iff, Bool.or_eq_false_iff, decide_eq_true_eq, decide_eq_false_iff_not, Bool.not_eq_true', Bool.not_eq_false', beq_iff_eq, beq_eq_false_iff_ne, ne_eq] at hq); omega) ?_ | fail)
    exact W_ret ⟨[_, _], ⟨⟨by simp, rfl⟩, rfl, rfl⟩, rfl⟩
noncomputable def tpE (ps : List Sup) (p : Pt) : Int := if chkP ps = 0 then (if okPt p = true then (if 0 ≤ tipsF ps p then 0 else 5) else 3) else chkP ps
noncomputable def tpG (ps : List Sup) (p : Pt) : Int := if chkP ps = 0 ∧ okPt p = true ∧ 0 ≤ tipsF ps p then tipsF ps p else 0
/-- Tips -/
theorem fn19 (ps : List Sup) (p : Pt) (hl : ps.length ≤ 140737488355328) : Sy.Fn Try.prog 19 [aP ps, .agg (cPt p)] (.tup [iv (tpG ps p), iv (tpE ps p)]) := by
  refine Fn_of_W mixed Xt19 rfl ?_
  unfold tpE tpG
  by_cases h : chkP ps = 0
  · rw [if_pos h]
    repeat' (first | refine WK_go ?_ | refine W_seqL ?_ | refine W_seq ?_ | (refine W_regL ?_; simp (maxSteps := 400000) (disch := omega) only [push_cast, ↓reduceIte, reduceCtorEq, Nat.reduceAdd, Nat.reduceSub, Nat.reduceEqDiff, Nat.reduceLeDiff, Nat.reduceLT, Nat.reduceBEq, Nat.reduceDiv, Nat.reduceMod, Nat.reducePow, Nat.reduceMul, Int.reduceToNat, Int.reduceLT, Int.reduceLE]) | refine W_block ?_ | (refine W_skip ?_; simp (maxSteps := 400000) (disch := omega) only [push_cast, ↓reduceIte, reduceCtorEq, Nat.reduceAdd, Nat.reduceSub, Nat.reduceEqDiff, Nat.reduceLeDiff, Nat.reduceLT, Nat.reduceBEq, Nat.reduceDiv, Nat.reduceMod, Nat.reducePow, Nat.reduceMul, Int.reduceToNat, Int.reduceLT, Int.reduceLE]) | (refine W_exit ?_; simp (maxSteps := 400000) (disch := omega) only [push_cast, ↓reduceIte, reduceCtorEq, Nat.reduceAdd, Nat.reduceSub, Nat.reduceEqDiff, Nat.reduceLeDiff, Nat.reduceLT, Nat.reduceBEq, Nat.reduceDiv, Nat.reduceMod, Nat.reducePow, Nat.reduceMul, Int.reduceToNat, Int.reduceLT, Int.reduceLE]) | refine And.intro (by omega) ?_ | refine And.intro (by intro hq; (try simp only [Bool.and_eq_true, Bool.or_eq_true, Bool.and_eq_false_iff, Bool.or_eq_false_iff, decide_eq_true_eq, decide_eq_false_iff_not, Bool.not_eq_true', Bool.not_eq_false', beq_iff_eq, beq_eq_false_iff_ne, ne_eq] at hq); omega) ?_ | (refine CallC.now (c56 ps hl h) ?_; simp (maxSteps := 400000) (disch := omega) only [push_cast, ↓reduceIte, reduceCtorEq, Nat.reduceAdd, Nat.reduceSub, Nat.reduceEqDiff, Nat.reduceLeDiff, Nat.reduceLT, Nat.reduceBEq, Nat.reduceDiv, Nat.reduceMod, Nat.reducePow, Nat.reduceMul, Int.reduceToNat, Int.reduceLT, Int.reduceLE]) | fail)
    refine W_cond (by rfl) (fun h => by cases h) (fun _ => ?_)
    repeat' (first | refine WK_go ?_ | refine W_seqL ?_ | refine W_seq ?_ | (refine W_regL ?_; simp (maxSteps := 400000) (disch := omega) only [push_cast, ↓reduceIte, reduceCtorEq, Nat.reduceAdd, Nat.reduceSub, Nat.reduceEqDiff, Nat.reduceLeDiff, Nat.reduceLT, Nat.reduceBEq, Nat.reduceDiv, Nat.reduceMod, Nat.reducePow, Nat.reduceMul, Int.reduceToNat, Int.reduceLT, Int.reduceLE]) | refine W_block ?_ | (refine W_skip ?_; simp (maxSteps := 400000) (disch := omega) only [push_cast, ↓reduceIte, reduceCtorEq, Nat.reduceAdd, Nat.reduceSub, Nat.reduceEqDiff, Nat.reduceLeDiff, Nat.reduceLT, Nat.reduceBEq, Nat.reduceDiv, Nat.reduceMod, Nat.reducePow, Nat.reduceMul, Int.reduceToNat, Int.reduceLT, Int.reduceLE]) | (refine W_exit ?_; simp (maxSteps := 400000) (disch := omega) only [push_cast, ↓reduceIte, reduceCtorEq, Nat.reduceAdd, Nat.reduceSub, Nat.reduceEqDiff, Nat.reduceLeDiff, Nat.reduceLT, Nat.reduceBEq, Nat.reduceDiv, Nat.reduceMod, Nat.reducePow, Nat.reduceMul, Int.reduceToNat, Int.reduceLT, Int.reduceLE]) | refine And.intro (by omega) ?_ | refine And.intro (by intro hq; (try simp only [Bool.and_eq_true, Bool.or_eq_true, Bool.and_eq_false_iff, Bool.or_eq_false_iff, decide_eq_true_eq, decide_eq_false_iff_not, Bool.not_eq_true', Bool.not_eq_false', beq_iff_eq, beq_eq_false_iff_ne, ne_eq] at hq); omega) ?_ | (refine CallC.now (fn57 p) ?_; simp (maxSteps := 400000) (disch := omega) only [push_cast, ↓reduceIte, reduceCtorEq, Nat.reduceAdd, Nat.reduceSub, Nat.reduceEqDiff, Nat.reduceLeDiff, Nat.reduceLT, Nat.reduceBEq, Nat.reduceDiv, Nat.reduceMod, Nat.reducePow, Nat.reduceMul, Int.reduceToNat, Int.reduceLT, Int.reduceLE]) | fail)
    refine W_cond (by rfl) (fun h1 => ?_) (fun h1 => ?_)
    · have h2 : ¬ okPt p = true := by simpa using h1
      rw [if_neg h2, if_neg (fun q => h2 q.2.1)]
      repeat' (first | refine WK_go ?_ | refine W_seqL ?_ | refine W_seq ?_ | (refine W_regL ?_; simp (maxSteps := 400000) (disch := omega) only [push_cast, ↓reduceIte, reduceCtorEq, Nat.reduceAdd, Nat.reduceSub, Nat.reduceEqDiff, Nat.reduceLeDiff, Nat.reduceLT, Nat.reduceBEq, Nat.reduceDiv, Nat.reduceMod, Nat.reducePow, Nat.reduceMul, Int.reduceToNat, Int.reduceLT, Int.reduceLE]) | refine W_block ?_ | (refine W_skip ?_; simp (maxSteps := 400000) (disch := omega) only [push_cast, ↓reduceIte, reduceCtorEq, Nat.reduceAdd, Nat.reduceSub, Nat.reduceEqDiff, Nat.reduceLeDiff, Nat.reduceLT, Nat.reduceBEq, Nat.reduceDiv, Nat.reduceMod, Nat.reducePow, Nat.reduceMul, Int.reduceToNat, Int.reduceLT, Int.reduceLE]) | (refine W_exit ?_; simp (maxSteps := 400000) (disch := omega) only [push_cast, ↓reduceIte, reduceCtorEq, Nat.reduceAdd, Nat.reduceSub, Nat.reduceEqDiff, Nat.reduceLeDiff, Nat.reduceLT, Nat.reduceBEq, Nat.reduceDiv, Nat.reduceMod, Nat.reducePow, Nat.reduceMul, Int.reduceToNat, Int.reduceLT, Int.reduceLE]) | refine And.intro (by omega) ?_ | refine And.intro (by intro hq; (try simp only [Bool.and_eq_true, Bool.or_eq_true, Bool.and_eq_false_iff, Bool.or_eq_false_iff, decide_eq_true_eq, decide_eq_false_iff_not, Bool.not_eq_true', Bool.not_eq_false', beq_iff_eq, beq_eq_false_iff_ne, ne_eq] at hq); omega) ?_ | fail)
      exact W_ret ⟨[_, _], ⟨rfl, rfl, rfl⟩, rfl⟩
    have h2 : okPt p = true := by simpa using h1
    rw [if_pos h2]
    repeat' (first | refine WK_go ?_ | refine W_seqL ?_ | refine W_seq ?_ | (refine W_regL ?_; simp (maxSteps := 400000) (disch := omega) only [push_cast, ↓reduceIte, reduceCtorEq, Nat.reduceAdd, Nat.reduceSub, Nat.reduceEqDiff, Nat.reduceLeDiff, Nat.reduceLT, Nat.reduceBEq, Nat.reduceDiv, Nat.reduceMod, Nat.reducePow, Nat.reduceMul, Int.reduceToNat, Int.reduceLT, Int.reduceLE]) | refine W_block ?_ | (refine W_skip ?_; simp (maxSteps := 400000) (disch := omega) only [push_cast, ↓reduceIte, reduceCtorEq, Nat.reduceAdd, Nat.reduceSub, Nat.reduceEqDiff, Nat.reduceLeDiff, Nat.reduceLT, Nat.reduceBEq, Nat.reduceDiv, Nat.reduceMod, Nat.reducePow, Nat.reduceMul, Int.reduceToNat, Int.reduceLT, Int.reduceLE]) | (refine W_exit ?_; simp (maxSteps := 400000) (disch := omega) only [push_cast, ↓reduceIte, reduceCtorEq, Nat.reduceAdd, Nat.reduceSub, Nat.reduceEqDiff, Nat.reduceLeDiff, Nat.reduceLT, Nat.reduceBEq, Nat.reduceDiv, Nat.reduceMod, Nat.reducePow, Nat.reduceMul, Int.reduceToNat, Int.reduceLT, Int.reduceLE]) | refine And.intro (by omega) ?_ | refine And.intro (by intro hq; (try simp only [Bool.and_eq_true, Bool.or_eq_true, Bool.and_eq_false_iff, Bool.or_eq_false_iff, decide_eq_true_eq, decide_eq_false_iff_not, Bool.not_eq_true', Bool.not_eq_false', beq_iff_eq, beq_eq_false_iff_ne, ne_eq] at hq); omega) ?_ | (refine CallC.now (fn58 ps p h h2) ?_; simp (maxSteps := 400000) (disch := omega) only [push_cast, ↓reduceIte, reduceCtorEq, Nat.reduceAdd, Nat.reduceSub, Nat.reduceEqDiff, Nat.reduceLeDiff, Nat.reduceLT, Nat.reduceBEq, Nat.reduceDiv, Nat.reduceMod, Nat.reducePow, Nat.reduceMul, Int.reduceToNat, Int.reduceLT, Int.reduceLE]) | fail)
    refine W_condD (by rfl) (fun h3 => ?_) (fun h3 => ?_)
    · rw [if_pos h3, if_pos ⟨h, h2, h3⟩]
      repeat' (first | refine WK_go ?_ | refine W_seqL ?_ | refine W_seq ?_ | (refine W_regL ?_; simp (maxSteps := 400000) (disch := omega) only [push_cast, ↓reduceIte, reduceCtorEq, Nat.reduceAdd, Nat.reduceSub, Nat.reduceEqDiff, Nat.reduceLeDiff, Nat.reduceLT, Nat.reduceBEq, Nat.reduceDiv, Nat.reduceMod, Nat.reducePow, Nat.reduceMul, Int.reduceToNat, Int.reduceLT, Int.reduceLE]) | refine W_block ?_ | (refine W_skip ?_; simp (maxSteps := 400000) (disch := omega) only [push_cast, ↓reduceIte, reduceCtorEq, Nat.reduceAdd, Nat.reduceSub, Nat.reduceEqDiff, Nat.reduceLeDiff, Nat.reduceLT, Nat.reduceBEq, Nat.reduceDiv, Nat.reduceMod, Nat.reducePow, Nat.reduceMul, Int.reduceToNat, Int.reduceLT, Int.reduceLE]) | (refine W_exit ?_; simp (maxSteps := 400000) (disch := omega) only [push_cast, ↓reduceIte, reduceCtorEq, Nat.reduceAdd, Nat.reduceSub, Nat.reduceEqDiff, Nat.reduceLeDiff, Nat.reduceLT, Nat.reduceBEq, Nat.reduceDiv, Nat.reduceMod, Nat.reducePow, Nat.reduceMul, Int.reduceToNat, Int.reduceLT, Int.reduceLE]) | refine And.intro (by omega) ?_ | refine And.intro (by intro hq; (try simp only [Bool.and_eq_true, Bool.or_eq_true, Bool.and_eq_false_iff, Bool.or_eq_false_iff, decide_eq_true_eq, decide_eq_false_iff_not, Bool.not_eq_true', Bool.not_eq_false', beq_iff_eq, beq_eq_false_iff_ne, ne_eq] at hq); omega) ?_ | fail)
      exact W_ret ⟨[_, _], ⟨rfl, rfl, rfl⟩, rfl⟩
    · rw [if_neg h3, if_neg (fun q => h3 q.2.2)]
      repeat' (first | refine WK_go ?_ | refine W_seqL ?_ | refine W_seq ?_ | (refine W_regL ?_; simp (maxSteps := 400000) (disch := omega) only [push_cast, ↓reduceIte, reduceCtorEq, Nat.reduceAdd, Nat.reduceSub, Nat.reduceEqDiff, Nat.reduceLeDiff, Nat.reduceLT, Nat.reduceBEq, Nat.reduceDiv, Nat.reduceMod, Nat.reducePow, Nat.reduceMul, Int.reduceToNat, Int.reduceLT, Int.reduceLE]) | refine W_block ?_ | (refine W_skip ?_; simp (maxSteps := 400000) (disch := omega) only [push_cast, ↓reduceIte, reduceCtorEq, Nat.reduceAdd, Nat.reduceSub, Nat.reduceEqDiff, Nat.reduceLeDiff, Nat.reduceLT, Nat.reduceBEq, Nat.reduceDiv, Nat.reduceMod, Nat.reducePow, Nat.reduceMul, Int.reduceToNat, Int.reduceLT, Int.reduceLE]) | (refine W_exit ?_; simp (maxSteps := 400000) (disch := omega) only [push_cast, ↓reduceIte, reduceCtorEq, Nat.reduceAdd, Nat.reduceSub, Nat.reduceEqDiff, Nat.reduceLeDiff, Nat.reduceLT, Nat.reduceBEq, Nat.reduceDiv, Nat.reduceMod, Nat.reducePow, Nat.reduceMul, Int.reduceToNat, Int.reduceLT, Int.reduceLE]) | refine And.intro (by omega) ?_ | refine And.intro (by intro hq; (try simp only [Bool.and_eq_true, Bool.or_eq_true, Bool.and_eq_false_iff, Bool.or_eq_false_iff, decide_eq_true_eq, decide_eq_false_iff_not, Bool.not_eq_true', Bool.not_eq_false', beq_iff_eq, beq_eq_false_iff_ne, ne_eq] at hq); omega) ?_ | fail)
      exact W_ret ⟨[_, _], ⟨rfl, rfl, rfl⟩, rfl⟩
  · rw [if_neg h, if_neg (fun q => h q.1)]
    repeat' (first | refine WK_go ?_ | refine W_seqL ?_ | refine W_seq ?_ | (refine W_regL ?_; simp (maxSteps := 400000) (disch := omega) only [push_cast, ↓reduceIte, reduceCtorEq, Nat.reduceAdd, Nat.reduceSub, Nat.reduceEqDiff, Nat.reduceLeDiff, Nat.reduceLT, Nat.reduceBEq, Nat.reduceDiv, Nat.reduceMod, Nat.reducePow, Nat.reduceMul, Int.reduceToNat, Int.reduceLT, Int.reduceLE]) | refine W_block ?_ | (refine W_skip ?_; simp (maxSteps := 400000) (disch := omega) only [push_cast, ↓reduceIte, reduceCtorEq, Nat.reduceAdd, Nat.reduceSub, Nat.reduceEqDiff, Nat.reduceLeDiff, Nat.reduceLT, Nat.reduceBEq, Nat.reduceDiv, Nat.reduceMod, Nat.reducePow, Nat.reduceMul, Int.reduceToNat, Int.reduceLT, Int.reduceLE]) | (refine W_exit ?_; simp (maxSteps := 400000) (disch := omega) only [push_cast, ↓reduceIte, reduceCtorEq, Nat.reduceAdd, Nat.reduceSub, Nat.reduceEqDiff, Nat.reduceLeDiff, Nat.reduceLT, Nat.reduceBEq, Nat.reduceDiv, Nat.reduceMod, Nat.reducePow, Nat.reduceMul, Int.reduceToNat, Int.reduceLT, Int.reduceLE]) | refine And.intro (by omega) ?_ | refine And.intro (by intro hq; (try simp only [Bool.and_eq_true, Bool.or_eq_true, Bool.and_eq_false_iff, Bool.or_eq_false_iff, decide_eq_true_eq, decide_eq_false_iff_not, Bool.not_eq_true', Bool.not_eq_false', beq_iff_eq, beq_eq_false_iff_ne, ne_eq] at hq); omega) ?_ | (refine CallC.now (c56n ps hl h) ?_; simp (maxSteps := 400000) (disch := omega) only [push_cast, ↓reduceIte, reduceCtorEq, Nat.reduceAdd, Nat.reduceSub, Nat.reduceEqDiff, Nat.reduceLeDiff, Nat.reduceLT, Nat.reduceBEq, Nat.reduceDiv, Nat.reduceMod, Nat.reducePow, Nat.reduceMul, Int.reduceToNat, Int.reduceLT, Int.reduceLE]) | fail)
    refine W_cond (by rfl) (fun _ => ?_) (fun h1 => by simp [h] at h1)
    repeat' (first | refine WK_go ?_ | refine W_seqL ?_ | refine W_seq ?_ | (refine W_regL ?_; simp (maxSteps := 400000) (disch := omega) only [push_cast, ↓reduceIte, reduceCtorEq, Nat.reduceAdd, Nat.reduceSub, Nat.reduceEqDiff, Nat.reduceLeDiff, Nat.reduceLT, Nat.reduceBEq, Nat.reduceDiv, Nat.reduceMod, Nat.reducePow, Nat.reduceMul, Int.reduceToNat, Int.reduceLT, Int.reduceLE]) | refine W_block ?_ | (refine W_skip ?_; simp (maxSteps := 400000) (disch := omega) only [push_cast, ↓reduceIte, reduceCtorEq, Nat.reduceAdd, Nat.reduceSub, Nat.reduceEqDiff, Nat.reduceLeDiff, Nat.reduceLT, Nat.reduceBEq, Nat.reduceDiv, Nat.reduceMod, Nat.reducePow, Nat.reduceMul, Int.reduceToNat, Int.reduceLT, Int.reduceLE]) | (refine W_exit ?_; simp (maxSteps := 400000) (disch := omega) only [push_cast, ↓reduceIte, reduceCtorEq, Nat.reduceAdd, Nat.reduceSub, Nat.reduceEqDiff, Nat.reduceLeDiff, Nat.reduceLT, Nat.reduceBEq, Nat.reduceDiv, Nat.reduceMod, Nat.reducePow, Nat.reduceMul, Int.reduceToNat, Int.reduceLT, Int.reduceLE]) | refine And.intro (by omega) ?_ | refine And.intro (by intro hq; (try simp only [Bool.and_eq_true, Bool.or_eq_true, Bool.and_eq_false_iff, Bool.or_eq_false_iff, decide_eq_true_eq, decide_eq_false_iff_not, Bool.not_eq_true', Bool.not_eq_false', beq_iff_eq, beq_eq_false_iff_ne, ne_eq] at hq); omega) ?_ | fail)
    exact W_ret ⟨[_, _], ⟨rfl, rfl, rfl⟩, rfl⟩
noncomputable def smV (ps : List Sup) : Nat → Int := if chkP ps = 0 then sumsL ps else z3
/-- Sums -/
theorem fn18 (ps : List Sup) (hl : ps.length ≤ 140737488355328) : Sy.Fn Try.prog 18 [aP ps] (.tup [.agg (c9 (smV ps)), iv (chkP ps)]) := by
  refine Fn_of_W mixed Xt18 rfl ?_
  unfold smV
  by_cases h : chkP ps = 0
  · rw [if_pos h, h]
    repeat' (first | refine WK_go ?_ | refine W_seqL ?_ | refine W_seq ?_ | (refine W_regL ?_; simp (maxSteps := 400000) (disch := omega) only [push_cast, ↓reduceIte, reduceCtorEq, Nat.reduceAdd, Nat.reduceSub, Nat.reduceEqDiff, Nat.reduceLeDiff, Nat.reduceLT, Nat.reduceBEq, Nat.reduceDiv, Nat.reduceMod, Nat.reducePow, Nat.reduceMul, Int.reduceToNat, Int.reduceLT, Int.reduceLE]) | refine W_block ?_ | (refine W_skip ?_; simp (maxSteps := 400000) (disch := omega) only [push_cast, ↓reduceIte, reduceCtorEq, Nat.reduceAdd, Nat.reduceSub, Nat.reduceEqDiff, Nat.reduceLeDiff, Nat.reduceLT, Nat.reduceBEq, Nat.reduceDiv, Nat.reduceMod, Nat.reducePow, Nat.reduceMul, Int.reduceToNat, Int.reduceLT, Int.reduceLE]) | (refine W_exit ?_; simp (maxSteps := 400000) (disch := omega) only [push_cast, ↓reduceIte, reduceCtorEq, Nat.reduceAdd, Nat.reduceSub, Nat.reduceEqDiff, Nat.reduceLeDiff, Nat.reduceLT, Nat.reduceBEq, Nat.reduceDiv, Nat.reduceMod, Nat.reducePow, Nat.reduceMul, Int.reduceToNat, Int.reduceLT, Int.reduceLE]) | refine And.intro (by omega) ?_ | refine And.intro (by intro hq; (try simp only [Bool.and_eq_true, Bool.or_eq_true, Bool.and_eq_false_iff, Bool.or_eq_false_iff, decide_eq_true_eq, decide_eq_false_iff_not, Bool.not_eq_true', Bool.not_eq_false', beq_iff_eq, beq_eq_false_iff_ne, ne_eq] at hq); omega) ?_ | (refine CallC.now (c56 ps hl h) ?_; simp (maxSteps := 400000) (disch := omega) only [push_cast, ↓reduceIte, reduceCtorEq, Nat.reduceAdd, Nat.reduceSub, Nat.reduceEqDiff, Nat.reduceLeDiff, Nat.reduceLT, Nat.reduceBEq, Nat.reduceDiv, Nat.reduceMod, Nat.reducePow, Nat.reduceMul, Int.reduceToNat, Int.reduceLT, Int.reduceLE]) | fail)
    refine W_cond (by rfl) (fun h => by cases h) (fun _ => ?_)
    repeat' (first | refine WK_go ?_ | refine W_seqL ?_ | refine W_seq ?_ | (refine W_regL ?_; simp (maxSteps := 400000) (disch := omega) only [push_cast, ↓reduceIte, reduceCtorEq, Nat.reduceAdd, Nat.reduceSub, Nat.reduceEqDiff, Nat.reduceLeDiff, Nat.reduceLT, Nat.reduceBEq, Nat.reduceDiv, Nat.reduceMod, Nat.reducePow, Nat.reduceMul, Int.reduceToNat, Int.reduceLT, Int.reduceLE]) | refine W_block ?_ | (refine W_skip ?_; simp (maxSteps := 400000) (disch := omega) only [push_cast, ↓reduceIte, reduceCtorEq, Nat.reduceAdd, Nat.reduceSub, Nat.reduceEqDiff, Nat.reduceLeDiff, Nat.reduceLT, Nat.reduceBEq, Nat.reduceDiv, Nat.reduceMod, Nat.reducePow, Nat.reduceMul, Int.reduceToNat, Int.reduceLT, Int.reduceLE]) | (refine W_exit ?_; simp (maxSteps := 400000) (disch := omega) only [push_cast, ↓reduceIte, reduceCtorEq, Nat.reduceAdd, Nat.reduceSub, Nat.reduceEqDiff, Nat.reduceLeDiff, Nat.reduceLT, Nat.reduceBEq, Nat.reduceDiv, Nat.reduceMod, Nat.reducePow, Nat.reduceMul, Int.reduceToNat, Int.reduceLT, Int.reduceLE]) | refine And.intro (by omega) ?_ | refine And.intro (by intro hq; (try simp only [Bool.and_eq_true, Bool.or_eq_true, Bool.and_eq_false_iff, Bool.or_eq_false_iff, decide_eq_true_eq, decide_eq_false_iff_not, Bool.not_eq_true', Bool.not_eq_false', beq_iff_eq, beq_eq_false_iff_ne, ne_eq] at hq); omega) ?_ | fail)
    exact W_ret ⟨[_, _], ⟨⟨by simp [len9], rfl⟩, rfl, rfl⟩, rfl⟩
  · rw [if_neg h]
    repeat' (first | refine WK_go ?_ | refine W_seqL ?_ | refine W_seq ?_ | (refine W_regL ?_; simp (maxSteps := 400000) (disch := omega) only [push_cast, ↓reduceIte, reduceCtorEq, Nat.reduceAdd, Nat.reduceSub, Nat.reduceEqDiff, Nat.reduceLeDiff, Nat.reduceLT, Nat.reduceBEq, Nat.reduceDiv, Nat.reduceMod, Nat.reducePow, Nat.reduceMul, Int.reduceToNat, Int.reduceLT, Int.reduceLE]) | refine W_block ?_ | (refine W_skip ?_; simp (maxSteps := 400000) (disch := omega) only [push_cast, ↓reduceIte, reduceCtorEq, Nat.reduceAdd, Nat.reduceSub, Nat.reduceEqDiff, Nat.reduceLeDiff, Nat.reduceLT, Nat.reduceBEq, Nat.reduceDiv, Nat.reduceMod, Nat.reducePow, Nat.reduceMul, Int.reduceToNat, Int.reduceLT, Int.reduceLE]) | (refine W_exit ?_; simp (maxSteps := 400000) (disch := omega) only [push_cast, ↓reduceIte, reduceCtorEq, Nat.reduceAdd, Nat.reduceSub, Nat.reduceEqDiff, Nat.reduceLeDiff, Nat.reduceLT, Nat.reduceBEq, Nat.reduceDiv, Nat.reduceMod, Nat.reducePow, Nat.reduceMul, Int.reduceToNat, Int.reduceLT, Int.reduceLE]) | refine And.intro (by omega) ?_ | refine And.intro (by intro hq; (try simp only [Bool.and_eq_true, Bool.or_eq_true, Bool.and_eq_false_iff, Bool.or_eq_false_iff, decide_eq_true_eq, decide_eq_false_iff_not, Bool.not_eq_true', Bool.not_eq_false', beq_iff_eq, beq_eq_false_iff_ne, ne_eq] at hq); omega) ?_ | (refine CallC.now (c56n ps hl h) ?_; simp (maxSteps := 400000) (disch := omega) only [push_cast, ↓reduceIte, reduceCtorEq, Nat.reduceAdd, Nat.reduceSub, Nat.reduceEqDiff, Nat.reduceLeDiff, Nat.reduceLT, Nat.reduceBEq, Nat.reduceDiv, Nat.reduceMod, Nat.reducePow, Nat.reduceMul, Int.reduceToNat, Int.reduceLT, Int.reduceLE]) | fail)
    refine W_cond (by rfl) (fun _ => ?_) (fun h1 => by simp [h] at h1)
    repeat' (first | refine WK_go ?_ | refine W_seqL ?_ | refine W_seq ?_ | (refine W_regL ?_; simp (maxSteps := 400000) (disch := omega) only [push_cast, ↓reduceIte, reduceCtorEq, Nat.reduceAdd, Nat.reduceSub, Nat.reduceEqDiff, Nat.reduceLeDiff, Nat.reduceLT, Nat.reduceBEq, Nat.reduceDiv, Nat.reduceMod, Nat.reducePow, Nat.reduceMul, Int.reduceToNat, Int.reduceLT, Int.reduceLE]) | refine W_block ?_ | (refine W_skip ?_; simp (maxSteps := 400000) (disch := omega) only [push_cast, ↓reduceIte, reduceCtorEq, Nat.reduceAdd, Nat.reduceSub, Nat.reduceEqDiff, Nat.reduceLeDiff, Nat.reduceLT, Nat.reduceBEq, Nat.reduceDiv, Nat.reduceMod, Nat.reducePow, Nat.reduceMul, Int.reduceToNat, Int.reduceLT, Int.reduceLE]) | (refine W_exit ?_; simp (maxSteps := 400000) (disch := omega) only [push_cast, ↓reduceIte, reduceCtorEq, Nat.reduceAdd, Nat.reduceSub, Nat.reduceEqDiff, Nat.reduceLeDiff, Nat.reduceLT, Nat.reduceBEq, Nat.reduceDiv, Nat.reduceMod, Nat.reducePow, Nat.reduceMul, Int.reduceToNat, Int.reduceLT, Int.reduceLE]) | refine And.intro (by omega) ?_ | refine And.intro (by intro hq; (try simp only [Bool.and_eq_true, Bool.or_eq_true, Bool.and_eq_false_iff, Bool.or_eq_false_iff, decide_eq_true_eq, decide_eq_false_iff_not, Bool.not_eq_true', Bool.not_eq_false', beq_iff_eq, beq_eq_false_iff_ne, ne_eq] at hq); omega) ?_ | fail)
    exact W_ret ⟨[_, _], ⟨⟨by simp, rfl⟩, rfl, rfl⟩, rfl⟩
/-- Check -/
theorem fn27 (ps : List Sup) (hl : ps.length ≤ 140737488355328) : Sy.Fn Try.prog 27 [aP ps] (iv (chkP ps)) := by
  refine Fn_of_W mixed Xt27 rfl ?_
  by_cases h : chkP ps = 0
  · rw [h]
    repeat' (first | refine WK_go ?_ | refine W_seqL ?_ | refine W_seq ?_ | (refine W_regL ?_; simp (maxSteps := 400000) (disch := omega) only [push_cast, ↓reduceIte, reduceCtorEq, Nat.reduceAdd, Nat.reduceSub, Nat.reduceEqDiff, Nat.reduceLeDiff, Nat.reduceLT, Nat.reduceBEq, Nat.reduceDiv, Nat.reduceMod, Nat.reducePow, Nat.reduceMul, Int.reduceToNat, Int.reduceLT, Int.reduceLE]) | refine W_block ?_ | (refine W_skip ?_; simp (maxSteps := 400000) (disch := omega) only [push_cast, ↓reduceIte, reduceCtorEq, Nat.reduceAdd, Nat.reduceSub, Nat.reduceEqDiff, Nat.reduceLeDiff, Nat.reduceLT, Nat.reduceBEq, Nat.reduceDiv, Nat.reduceMod, Nat.reducePow, Nat.reduceMul, Int.reduceToNat, Int.reduceLT, Int.reduceLE]) | (refine W_exit ?_; simp (maxSteps := 400000) (disch := omega) only [push_cast, ↓reduceIte, reduceCtorEq, Nat.reduceAdd, Nat.reduceSub, Nat.reduceEqDiff, Nat.reduceLeDiff, Nat.reduceLT, Nat.reduceBEq, Nat.reduceDiv, Nat.reduceMod, Nat.reducePow, Nat.reduceMul, Int.reduceToNat, Int.reduceLT, Int.reduceLE]) | refine And.intro (by omega) ?_ | refine And.intro (by intro hq; (try simp only [Bool.and_eq_true, Bool.or_eq_true, Bool.and_eq_false_iff, Bool.or_eq_false_iff, decide_eq_true_eq, decide_eq_false_iff_not, Bool.not_eq_true', Bool.not_eq_false', beq_iff_eq, beq_eq_false_iff_ne, ne_eq] at hq); omega) ?_ | (refine CallC.now (c56 ps hl h) ?_; simp (maxSteps := 400000) (disch := omega) only [push_cast, ↓reduceIte, reduceCtorEq, Nat.reduceAdd, Nat.reduceSub, Nat.reduceEqDiff, Nat.reduceLeDiff, Nat.reduceLT, Nat.reduceBEq, Nat.reduceDiv, Nat.reduceMod, Nat.reducePow, Nat.reduceMul, Int.reduceToNat, Int.reduceLT, Int.reduceLE]) | fail)
    exact W_ret ⟨[_], ⟨rfl, rfl⟩, rfl⟩
  · repeat' (first | refine WK_go ?_ | refine W_seqL ?_ | refine W_seq ?_ | (refine W_regL ?_; simp (maxSteps := 400000) (disch := omega) only [push_cast, ↓reduceIte, reduceCtorEq, Nat.reduceAdd, Nat.reduceSub, Nat.reduceEqDiff, Nat.reduceLeDiff, Nat.reduceLT, Nat.reduceBEq, Nat.reduceDiv, Nat.reduceMod, Nat.reducePow, Nat.reduceMul, Int.reduceToNat, Int.reduceLT, Int.reduceLE]) | refine W_block ?_ | (refine W_skip ?_; simp (maxSteps := 400000) (disch := omega) only [push_cast, ↓reduceIte, reduceCtorEq, Nat.reduceAdd, Nat.reduceSub, Nat.reduceEqDiff, Nat.reduceLeDiff, Nat.reduceLT, Nat.reduceBEq, Nat.reduceDiv, Nat.reduceMod, Nat.reducePow, Nat.reduceMul, Int.reduceToNat, Int.reduceLT, Int.reduceLE]) | (refine W_exit ?_; simp (maxSteps := 400000) (disch := omega) only [push_cast, ↓reduceIte, reduceCtorEq, Nat.reduceAdd, Nat.reduceSub, Nat.reduceEqDiff, Nat.reduceLeDiff, Nat.reduceLT, Nat.reduceBEq, Nat.reduceDiv, Nat.reduceMod, Nat.reducePow, Nat.reduceMul, Int.reduceToNat, Int.reduceLT, Int.reduceLE]) | refine And.intro (by omega) ?_ | refine And.intro (by intro hq; (try simp only [Bool.and_eq_true, Bool.or_eq_true, Bool.and_eq_false_iff, Bool.or_eq_false_iff, decide_eq_true_eq, decide_eq_false_iff_not, Bool.not_eq_true', Bool.not_eq_false', beq_iff_eq, beq_eq_false_iff_ne, ne_eq] at hq); omega) ?_ | (refine CallC.now (c56n ps hl h) ?_; simp (maxSteps := 400000) (disch := omega) only [push_cast, ↓reduceIte, reduceCtorEq, Nat.reduceAdd, Nat.reduceSub, Nat.reduceEqDiff, Nat.reduceLeDiff, Nat.reduceLT, Nat.reduceBEq, Nat.reduceDiv, Nat.reduceMod, Nat.reducePow, Nat.reduceMul, Int.reduceToNat, Int.reduceLT, Int.reduceLE]) | fail)
    exact W_ret ⟨[_], ⟨rfl, rfl⟩, rfl⟩
end Go.Proofs.Ytfkjdjlcaojedaa

/- The examples; Levers. -/
namespace Go.Proofs.Ytfkjdjlcaojedaa
open Go Sy
set_option maxRecDepth 100000
set_option maxHeartbeats 4000000
set_option linter.unusedVariables false
set_option linter.unusedSimpArgs false
def exP : List Sup := [⟨0, 0, 0, 10000, 100, 900⟩, ⟨4000, 2000, 1, 10000, 100, 900⟩, ⟨4000, -2000, 2, 10000, 100, 900⟩, ⟨0, 1000, 0, 10000, 100, 900⟩]
theorem c35 : Sy.Fn Try.prog 35 [] (aP exP) := by
  refine Fn_of_W mixed Xt35 rfl ?_
  repeat' (first | refine WK_go ?_ | refine W_seqL ?_ | refine W_seq ?_ | (refine W_regL ?_; simp (maxSteps := 400000) (disch := omega) only [push_cast, ↓reduceIte, reduceCtorEq, Nat.reduceAdd, Nat.reduceSub, Nat.reduceEqDiff, Nat.reduceLeDiff, Nat.reduceLT, Nat.reduceBEq, Nat.reduceDiv, Nat.reduceMod, Nat.reducePow, Nat.reduceMul, Int.reduceToNat, Int.reduceLT, Int.reduceLE]) | refine W_block ?_ | (refine W_skip ?_; simp (maxSteps := 400000) (disch := omega) only [push_cast, ↓reduceIte, reduceCtorEq, Nat.reduceAdd, Nat.reduceSub, Nat.reduceEqDiff, Nat.reduceLeDiff, Nat.reduceLT, Nat.reduceBEq, Nat.reduceDiv, Nat.reduceMod, Nat.reducePow, Nat.reduceMul, Int.reduceToNat, Int.reduceLT, Int.reduceLE]) | (refine W_exit ?_; simp (maxSteps := 400000) (disch := omega) only [push_cast, ↓reduceIte, reduceCtorEq, Nat.reduceAdd, Nat.reduceSub, Nat.reduceEqDiff, Nat.reduceLeDiff, Nat.reduceLT, Nat.reduceBEq, Nat.reduceDiv, Nat.reduceMod, Nat.reducePow, Nat.reduceMul, Int.reduceToNat, Int.reduceLT, Int.reduceLE]) | refine And.intro (by omega) ?_ | refine And.intro (by intro hq; (try simp only [Bool.and_eq_true, Bool.or_eq_true, Bool.and_eq_false_iff, Bool.or_eq_false_iff, decide_eq_true_eq, decide_eq_false_iff_not, Bool.not_eq_true', Bool.not_eq_false', beq_iff_eq, beq_eq_false_iff_ne, ne_eq] at hq); omega) ?_ | fail)
  refine ⟨rfl, trivial, Sup, dS, cS, exP, rfl, by omega, fun x _ => ⟨rfl, rfl⟩, rfl, ?_⟩
  simp (maxSteps := 400000) (disch := omega) only [push_cast, ↓reduceIte, reduceCtorEq, Nat.reduceAdd, Nat.reduceSub, Nat.reduceEqDiff, Nat.reduceLeDiff, Nat.reduceLT, Nat.reduceBEq, Nat.reduceDiv, Nat.reduceMod, Nat.reducePow, Nat.reduceMul, Int.reduceToNat, Int.reduceLT, Int.reduceLE]
  refine W_ret ⟨[_], ⟨rfl, rfl⟩, ?_⟩
  simp (maxSteps := 400000) (disch := omega) only [push_cast, ↓reduceIte, reduceCtorEq, Nat.reduceAdd, Nat.reduceSub, Nat.reduceEqDiff, Nat.reduceLeDiff, Nat.reduceLT, Nat.reduceBEq, Nat.reduceDiv, Nat.reduceMod, Nat.reducePow, Nat.reduceMul, Int.reduceToNat, Int.reduceLT, Int.reduceLE, pack]
theorem ex_sh : shE exP 16000 ⟨2000, 0⟩ = 0 := by decide +kernel
theorem ex_sv : c3 (shV exP 16000 ⟨2000, 0⟩) = [iv 4000, iv 3000, iv 5000] := by
  have h0 : shV exP 16000 ⟨2000, 0⟩ 0 = 4000 := by decide +kernel
  have h1 : shV exP 16000 ⟨2000, 0⟩ 1 = 3000 := by decide +kernel
  have h2 : shV exP 16000 ⟨2000, 0⟩ 2 = 5000 := by decide +kernel
  unfold c3
  rw [h0, h1, h2]
theorem ex_tp : tpE exP ⟨5000, 0⟩ = 0 ∧ tpG exP ⟨5000, 0⟩ = 0 := by decide +kernel
theorem ex_lv : levE 1000 0 3 1 = 0 ∧ levL 1000 0 3 1 = 667 ∧ levR 1000 0 3 1 = 334 := by decide +kernel
theorem fn17 : Sy.Fn Try.prog 17 [] (bv true) := by
  refine Fn_of_W mixed Xt17 rfl ?_
  have c21 := fn21 exP 16000 ⟨2000, 0⟩ (by decide)
  have c19 := fn19 exP ⟨5000, 0⟩ (by decide)
  have c16 := fn16 1000 0 3 1
  rw [ex_sh, ex_sv] at c21
  rw [ex_tp.1, ex_tp.2] at c19
  rw [ex_lv.1, ex_lv.2.1, ex_lv.2.2] at c16
  repeat' (first | refine WK_go ?_ | refine W_seqL ?_ | refine W_seq ?_ | (refine W_regL ?_; simp (maxSteps := 400000) (disch := omega) only [push_cast, ↓reduceIte, reduceCtorEq, Nat.reduceAdd, Nat.reduceSub, Nat.reduceEqDiff, Nat.reduceLeDiff, Nat.reduceLT, Nat.reduceBEq, Nat.reduceDiv, Nat.reduceMod, Nat.reducePow, Nat.reduceMul, Int.reduceToNat, Int.reduceLT, Int.reduceLE]) | refine W_block ?_ | (refine W_skip ?_; simp (maxSteps := 400000) (disch := omega) only [push_cast, ↓reduceIte, reduceCtorEq, Nat.reduceAdd, Nat.reduceSub, Nat.reduceEqDiff, Nat.reduceLeDiff, Nat.reduceLT, Nat.reduceBEq, Nat.reduceDiv, Nat.reduceMod, Nat.reducePow, Nat.reduceMul, Int.reduceToNat, Int.reduceLT, Int.reduceLE]) | (refine W_exit ?_; simp (maxSteps := 400000) (disch := omega) only [push_cast, ↓reduceIte, reduceCtorEq, Nat.reduceAdd, Nat.reduceSub, Nat.reduceEqDiff, Nat.reduceLeDiff, Nat.reduceLT, Nat.reduceBEq, Nat.reduceDiv, Nat.reduceMod, Nat.reducePow, Nat.reduceMul, Int.reduceToNat, Int.reduceLT, Int.reduceLE]) | refine And.intro (by omega) ?_ | refine And.intro (by intro hq; (try simp only [Bool.and_eq_true, Bool.or_eq_true, Bool.and_eq_false_iff, Bool.or_eq_false_iff, decide_eq_true_eq, decide_eq_false_iff_not, Bool.not_eq_true', Bool.not_eq_false', beq_iff_eq, beq_eq_false_iff_ne, ne_eq] at hq); omega) ?_ | (refine CallC.now (c35) ?_; simp (maxSteps := 400000) (disch := omega) only [push_cast, ↓reduceIte, reduceCtorEq, Nat.reduceAdd, Nat.reduceSub, Nat.reduceEqDiff, Nat.reduceLeDiff, Nat.reduceLT, Nat.reduceBEq, Nat.reduceDiv, Nat.reduceMod, Nat.reducePow, Nat.reduceMul, Int.reduceToNat, Int.reduceLT, Int.reduceLE]) | (refine CallC.now (c21) ?_; simp (maxSteps := 400000) (disch := omega) only [push_cast, ↓reduceIte, reduceCtorEq, Nat.reduceAdd, Nat.reduceSub, Nat.reduceEqDiff, Nat.reduceLeDiff, Nat.reduceLT, Nat.reduceBEq, Nat.reduceDiv, Nat.reduceMod, Nat.reducePow, Nat.reduceMul, Int.reduceToNat, Int.reduceLT, Int.reduceLE]) | (refine CallC.now (c19) ?_; simp (maxSteps := 400000) (disch := omega) only [push_cast, ↓reduceIte, reduceCtorEq, Nat.reduceAdd, Nat.reduceSub, Nat.reduceEqDiff, Nat.reduceLeDiff, Nat.reduceLT, Nat.reduceBEq, Nat.reduceDiv, Nat.reduceMod, Nat.reducePow, Nat.reduceMul, Int.reduceToNat, Int.reduceLT, Int.reduceLE]) | (refine CallC.now (c16) ?_; simp (maxSteps := 400000) (disch := omega) only [push_cast, ↓reduceIte, reduceCtorEq, Nat.reduceAdd, Nat.reduceSub, Nat.reduceEqDiff, Nat.reduceLeDiff, Nat.reduceLT, Nat.reduceBEq, Nat.reduceDiv, Nat.reduceMod, Nat.reducePow, Nat.reduceMul, Int.reduceToNat, Int.reduceLT, Int.reduceLE]) | fail)
  exact W_ret ⟨[_], ⟨rfl, rfl⟩, rfl⟩
end Go.Proofs.Ytfkjdjlcaojedaa

/- What the arguments of the laws hold. -/
namespace Go.Proofs.Ytfkjdjlcaojedaa
open Go Sy
set_option maxRecDepth 100000
set_option linter.unusedVariables false
theorem i64_wf {n : Int} (h : (Lit.int .i64 n).wf = true) : -9223372036854775808 ≤ n ∧ n ≤ 9223372036854775807 := by
  simp [Lit.wf, IntKind.min, IntKind.max, IntKind.bits, IntKind.signed] at h
  omega
theorem u8_wf {n : Int} (h : (Lit.int .u8 n).wf = true) : 0 ≤ n ∧ n ≤ 255 := by
  simp [Lit.wf, IntKind.min, IntKind.max, IntKind.bits, IntKind.signed] at h
  omega
abbrev I64 (n : Int) : Prop := -9223372036854775808 ≤ n ∧ n ≤ 9223372036854775807
theorem y2 : Try.prog.cellsOf 2 = 1 := by kernel_rfl
theorem y3 : Try.prog.cellsOf 3 = 1 := by kernel_rfl
theorem y62 : Try.prog.cellsOf 62 = 6 := by kernel_rfl
theorem b62 : Try.prog.bytesOf 62 = 48 := by kernel_rfl
theorem k2 : Codec Try.prog 2 (fun n : Int => [iv n]) I64 := (Codec.int Try.underlying2).map id (fun _ => rfl) (fun _ h => i64_wf h)
theorem k3 : Codec Try.prog 3 (fun n : Int => [iv n]) I64 := (Codec.int Try.underlying3).map id (fun _ => rfl) (fun _ h => i64_wf h)
theorem k5 : Codec Try.prog 5 (fun n : Int => [.v (.int .u8 n)]) (fun n => 0 ≤ n ∧ n ≤ 255) := (Codec.int Try.underlying5).map id (fun _ => rfl) (fun _ h => u8_wf h)
abbrev OSup (s : Sup) : Prop := I64 s.x ∧ I64 s.y ∧ I64 s.g ∧ I64 s.limit ∧ I64 s.least ∧ I64 s.most
theorem k62 : Codec Try.prog 62 cS OSup :=
  (Codec.struct Try.underlying62 (by kernel_rfl) (by kernel_rfl) (Parts.cons k2 y2 (Parts.cons k2 y2 (Parts.cons k3 y3 (Parts.cons k2 y2 (Parts.cons k2 y2 (Parts.cons k2 y2 Parts.nil))))))).map
    (fun x => ⟨x.1, x.2.1, x.2.2.1, x.2.2.2.1, x.2.2.2.2.1, x.2.2.2.2.2.1⟩) (fun _ => rfl) (fun _ h => ⟨h.1, h.2.1, h.2.2.1, h.2.2.2.1, h.2.2.2.2.1, h.2.2.2.2.2.1⟩)
theorem k27 : Codec Try.prog 27 (fun l : List Sup => [.sl 6 dS cS l]) (fun l => l.length * 48 ≤ 140737488351232 ∧ ∀ s ∈ l, OSup s) :=
  (Codec.slice Try.underlying27 (by rw [y62]; decide) y62 b62 dS k62).map id (fun _ => rfl) (fun _ h => ⟨h.1, h.2.2⟩)
end Go.Proofs.Ytfkjdjlcaojedaa

/- Balance, All, Tips. -/
namespace Go.Proofs.Ytfkjdjlcaojedaa
open Go Sy
set_option maxRecDepth 100000
set_option maxHeartbeats 4000000
set_option linter.unusedVariables false
set_option linter.unusedSimpArgs false
theorem eq3 (f g : Nat → Int) : eqL 21 (c3 f) (c3 g) = some (f 0 == g 0 && (f 1 == g 1 && (f 2 == g 2 && true))) := rfl
theorem eq3l (f : Nat → Int) (a b c : Int) : eqL 21 (c3 f) [iv a, iv b, iv c] = some (f 0 == a && (f 1 == b && (f 2 == c && true))) := rfl
attribute [push_cast] eq3 eq3l
abbrev wr (n : Int) : Int := IntKind.i64.wrap n
end Go.Proofs.Ytfkjdjlcaojedaa

/- All, Tips. -/
namespace Go.Proofs.Ytfkjdjlcaojedaa
open Go Sy
set_option maxRecDepth 100000
set_option maxHeartbeats 4000000
set_option linter.unusedVariables false
set_option linter.unusedSimpArgs false
abbrev hv (n : Int) : AV := .v (.int .u16 n)
/-- a row of small numbers -/
structure Row (u : Nat → Int) : Prop where
  n : -48 ≤ u 0 ∧ u 0 ≤ 48
  a : -6291456 ≤ u 1 ∧ u 1 ≤ 6291456
  b : -6291456 ≤ u 2 ∧ u 2 ≤ 6291456
def row (f : Nat → Int) (g : Nat) : Nat → Int := fun j => f (g * 3 + j)
theorem Tab.row {f : Nat → Int} (h : Tab f) {g : Nat} (hg : g < 3) : Row (Go.Proofs.Ytfkjdjlcaojedaa.row f g) := by
  have h1 := h.n g hg
  have h2 := h.a (g * 3 + 1) (by omega)
  have h3 := h.a (g * 3 + 2) (by omega)
  have e : 3 * g = g * 3 + 0 := by omega
  rw [e] at h1
  exact ⟨by unfold Go.Proofs.Ytfkjdjlcaojedaa.row; omega, h2, h3⟩
end Go.Proofs.Ytfkjdjlcaojedaa

/- The reference: small functions, Floor, Down, Up. -/
namespace Go.Proofs.Ytfkjdjlcaojedaa
open Go Sy
set_option maxRecDepth 100000
set_option maxHeartbeats 4000000
set_option linter.unusedVariables false
set_option linter.unusedSimpArgs false
end Go.Proofs.Ytfkjdjlcaojedaa

/- The reference: sums, determinants, Check, parts, tips, shares. -/
namespace Go.Proofs.Ytfkjdjlcaojedaa
open Go Sy
set_option maxRecDepth 100000
set_option maxHeartbeats 4000000
set_option linter.unusedVariables false
set_option linter.unusedSimpArgs false
end Go.Proofs.Ytfkjdjlcaojedaa

/- The reference: parts, tips, shares; Sums, Parts, Shares, Tips. -/
namespace Go.Proofs.Ytfkjdjlcaojedaa
open Go Sy
set_option maxRecDepth 100000
set_option maxHeartbeats 4000000
set_option linter.unusedVariables false
set_option linter.unusedSimpArgs false
theorem eq9 (f : Nat → Int) : eqL 87381 (c9 f) (c9 f) = some true := by
  simp [c9, eqL]
theorem eq33 (f : Nat → Int) : eqL 21 (c3 f) (c3 f) = some true := by
  simp [c3, eqL]
attribute [push_cast] eq9 eq33
end Go.Proofs.Ytfkjdjlcaojedaa

/- Heights and strokes: the program. -/
namespace Go.Proofs.Ytfkjdjlcaojedaa
open Go Sy
set_option maxRecDepth 100000
set_option maxHeartbeats 4000000
set_option linter.unusedVariables false
set_option linter.unusedSimpArgs false
def okH (h : Int) : Bool := inR h (-16384) 16384
def okF (f : Int) : Bool := inR f 0 196608
noncomputable def gE (ps : List Sup) (fl : Nat → Int) (gr : List Int) : Int :=
  if chkP ps = 0 then (if gr.length = ps.length then (if gr.any (fun h => !okH h) = true then 3 else if (okF (fl 0) && okF (fl 1) && okF (fl 2)) = true then 0 else 3) else 17) else chkP ps
/-- the heights of the groups, added up -/
def gS (ps : List Sup) (fl : Nat → Int) (gr : List Int) : Nat → Nat → Int
  | 0, j => fl j
  | n + 1, j => gS ps fl gr n j + if j = (sp ps n).g.toNat then gr.getD n 0 else 0
structure GOK (ps : List Sup) (fl : Nat → Int) (gr : List Int) : Prop where
  ch : chkP ps = 0
  len : gr.length = ps.length
  hh : ∀ i, i < gr.length → okH (gr.getD i 0) = true
  ff : ∀ j, j < 3 → okF (fl j) = true
theorem gE_ok {ps : List Sup} {fl : Nat → Int} {gr : List Int} (h : gE ps fl gr = 0) : GOK ps fl gr := by
  unfold gE at h
  split at h
  · rename_i h1
    split at h
    · rename_i h2
      split at h
      · omega
      · rename_i h3
        split at h
        · rename_i h4
          simp only [Bool.and_eq_true] at h4
          refine ⟨h1, h2, fun i hi => ?_, fun j hj => ?_⟩
          · rw [← Bool.not_eq_false]
            intro q
            exact h3 (List.any_eq_true.2 ⟨_, getD_mem 0 gr i hi, by rw [q]; rfl⟩)
          · rcases (show j = 0 ∨ j = 1 ∨ j = 2 by omega) with rfl | rfl | rfl
            · exact h4.1.1
            · exact h4.1.2
            · exact h4.2
        · omega
    · omega
  · rename_i h1; exact absurd h h1
theorem gE_of {ps : List Sup} {fl : Nat → Int} {gr : List Int} (h : GOK ps fl gr) : gE ps fl gr = 0 := by
  unfold gE
  rw [if_pos h.ch, if_pos h.len, if_neg, if_pos]
  · rw [h.ff 0 (by omega), h.ff 1 (by omega), h.ff 2 (by omega)]; rfl
  · rw [List.any_eq_true]
    rintro ⟨x, hx, hq⟩
    obtain ⟨i, hi⟩ := List.mem_iff_getElem?.1 hx
    have h1 := (List.getElem?_eq_some_iff.1 hi).1
    have := h.hh i h1
    simp only [List.getD, hi, Option.getD_some] at this
    rw [this] at hq; cases hq
theorem gS_B {ps : List Sup} {fl : Nat → Int} {gr : List Int} (h : GOK ps fl gr) : ∀ n, n ≤ ps.length → ∀ j, j < 3 → -(16384 * (n : Int)) ≤ gS ps fl gr n j ∧ gS ps fl gr n j ≤ 196608 + 16384 * n
  | 0, _, j, hj => by have := inR_iff.1 (h.ff j hj); simp only [gS]; omega
  | n + 1, hn, j, hj => by
    have ih := gS_B h n (by omega) j hj
    have h1 := inR_iff.1 (h.hh n (by rw [h.len]; omega))
    simp only [gS]
    split <;> omega
noncomputable def gR (ps : List Sup) (fl : Nat → Int) (gr : List Int) : AV := if gE ps fl gr = 0 then .tup [aDk ps, .agg (c3 (gS ps fl gr ps.length)), iv 0] else .tup [.v (.pointer none), .agg (c3 fl), iv (gE ps fl gr)]
theorem gR_bad {ps : List Sup} {fl : Nat → Int} {gr : List Int} {e : Int} (h : gE ps fl gr = e) (he : e ≠ 0) : gR ps fl gr = .tup [.v (.pointer none), .agg (c3 fl), iv e] := by
  unfold gR; rw [if_neg (by omega), h]
abbrev aG (gr : List Int) : AV := .sl 1 0 cI gr
theorem fn76 (ps : List Sup) (fl : Nat → Int) (gr : List Int) (hl : ps.length ≤ 140737488355328) (hl2 : gr.length ≤ 140737488355328) : Sy.Fn Try.prog 76 [aP ps, .agg (c3 fl), aG gr] (gR ps fl gr) := by
  refine Fn_of_W mixed Xt76 rfl ?_
  by_cases hch : chkP ps = 0
  case neg =>
    rw [gR_bad (e := chkP ps) (by unfold gE; rw [if_neg hch]) hch]
    repeat' (first | refine WK_go ?_ | refine W_seqL ?_ | refine W_seq ?_ | (refine W_regL ?_; simp (maxSteps := 400000) (disch := omega) only [push_cast, ↓reduceIte, reduceCtorEq, Nat.reduceAdd, Nat.reduceSub, Nat.reduceEqDiff, Nat.reduceLeDiff, Nat.reduceLT, Nat.reduceBEq, Nat.reduceDiv, Nat.reduceMod, Nat.reducePow, Nat.reduceMul, Int.reduceToNat, Int.reduceLT, Int.reduceLE]) | refine W_block ?_ | (refine W_skip ?_; simp (maxSteps := 400000) (disch := omega) only [push_cast, ↓reduceIte, reduceCtorEq, Nat.reduceAdd, Nat.reduceSub, Nat.reduceEqDiff, Nat.reduceLeDiff, Nat.reduceLT, Nat.reduceBEq, Nat.reduceDiv, Nat.reduceMod, Nat.reducePow, Nat.reduceMul, Int.reduceToNat, Int.reduceLT, Int.reduceLE]) | (refine W_exit ?_; simp (maxSteps := 400000) (disch := omega) only [push_cast, ↓reduceIte, reduceCtorEq, Nat.reduceAdd, Nat.reduceSub, Nat.reduceEqDiff, Nat.reduceLeDiff, Nat.reduceLT, Nat.reduceBEq, Nat.reduceDiv, Nat.reduceMod, Nat.reducePow, Nat.reduceMul, Int.reduceToNat, Int.reduceLT, Int.reduceLE]) | refine And.intro (by omega) ?_ | refine And.intro (by intro hq; (try simp only [Bool.and_eq_true, Bool.or_eq_true, Bool.and_eq_false_iff, Bool.or_eq_false_iff, decide_eq_true_eq, decide_eq_false_iff_not, Bool.not_eq_true', Bool.not_eq_false', beq_iff_eq, beq_eq_false_iff_ne, ne_eq] at hq); omega) ?_ | (refine CallC.now (c56n ps hl hch) ?_; simp (maxSteps := 400000) (disch := omega) only [push_cast, ↓reduceIte, reduceCtorEq, Nat.reduceAdd, Nat.reduceSub, Nat.reduceEqDiff, Nat.reduceLeDiff, Nat.reduceLT, Nat.reduceBEq, Nat.reduceDiv, Nat.reduceMod, Nat.reducePow, Nat.reduceMul, Int.reduceToNat, Int.reduceLT, Int.reduceLE]) | fail)
    refine W_cond (by rfl) (fun _ => ?_) (fun h1 => by simp [hch] at h1)
    repeat' (first | refine WK_go ?_ | refine W_seqL ?_ | refine W_seq ?_ | (refine W_regL ?_; simp (maxSteps := 400000) (disch := omega) only [push_cast, ↓reduceIte, reduceCtorEq, Nat.reduceAdd, Nat.reduceSub, Nat.reduceEqDiff, Nat.reduceLeDiff, Nat.reduceLT, Nat.reduceBEq, Nat.reduceDiv, Nat.reduceMod, Nat.reducePow, Nat.reduceMul, Int.reduceToNat, Int.reduceLT, Int.reduceLE]) | refine W_block ?_ | (refine W_skip ?_; simp (maxSteps := 400000) (disch := omega) only [push_cast, ↓reduceIte, reduceCtorEq, Nat.reduceAdd, Nat.reduceSub, Nat.reduceEqDiff, Nat.reduceLeDiff, Nat.reduceLT, Nat.reduceBEq, Nat.reduceDiv, Nat.reduceMod, Nat.reducePow, Nat.reduceMul, Int.reduceToNat, Int.reduceLT, Int.reduceLE]) | (refine W_exit ?_; simp (maxSteps := 400000) (disch := omega) only [push_cast, ↓reduceIte, reduceCtorEq, Nat.reduceAdd, Nat.reduceSub, Nat.reduceEqDiff, Nat.reduceLeDiff, Nat.reduceLT, Nat.reduceBEq, Nat.reduceDiv, Nat.reduceMod, Nat.reducePow, Nat.reduceMul, Int.reduceToNat, Int.reduceLT, Int.reduceLE]) | refine And.intro (by omega) ?_ | refine And.intro (by intro hq; (try simp only [Bool.and_eq_true, Bool.or_eq_true, Bool.and_eq_false_iff, Bool.or_eq_false_iff, decide_eq_true_eq, decide_eq_false_iff_not, Bool.not_eq_true', Bool.not_eq_false', beq_iff_eq, beq_eq_false_iff_ne, ne_eq] at hq); omega) ?_ | fail)
    exact W_ret ⟨[_, _, _], ⟨rfl, ⟨by simp [len3], rfl⟩, rfl, rfl⟩, rfl⟩
  obtain ⟨hlen, hok, _⟩ := chkP_ok hch
  repeat' (first | refine WK_go ?_ | refine W_seqL ?_ | refine W_seq ?_ | (refine W_regL ?_; simp (maxSteps := 400000) (disch := omega) only [push_cast, ↓reduceIte, reduceCtorEq, Nat.reduceAdd, Nat.reduceSub, Nat.reduceEqDiff, Nat.reduceLeDiff, Nat.reduceLT, Nat.reduceBEq, Nat.reduceDiv, Nat.reduceMod, Nat.reducePow, Nat.reduceMul, Int.reduceToNat, Int.reduceLT, Int.reduceLE]) | refine W_block ?_ | (refine W_skip ?_; simp (maxSteps := 400000) (disch := omega) only [push_cast, ↓reduceIte, reduceCtorEq, Nat.reduceAdd, Nat.reduceSub, Nat.reduceEqDiff, Nat.reduceLeDiff, Nat.reduceLT, Nat.reduceBEq, Nat.reduceDiv, Nat.reduceMod, Nat.reducePow, Nat.reduceMul, Int.reduceToNat, Int.reduceLT, Int.reduceLE]) | (refine W_exit ?_; simp (maxSteps := 400000) (disch := omega) only [push_cast, ↓reduceIte, reduceCtorEq, Nat.reduceAdd, Nat.reduceSub, Nat.reduceEqDiff, Nat.reduceLeDiff, Nat.reduceLT, Nat.reduceBEq, Nat.reduceDiv, Nat.reduceMod, Nat.reducePow, Nat.reduceMul, Int.reduceToNat, Int.reduceLT, Int.reduceLE]) | refine And.intro (by omega) ?_ | refine And.intro (by intro hq; (try simp only [Bool.and_eq_true, Bool.or_eq_true, Bool.and_eq_false_iff, Bool.or_eq_false_iff, decide_eq_true_eq, decide_eq_false_iff_not, Bool.not_eq_true', Bool.not_eq_false', beq_iff_eq, beq_eq_false_iff_ne, ne_eq] at hq); omega) ?_ | (refine CallC.now (c56 ps hl hch) ?_; simp (maxSteps := 400000) (disch := omega) only [push_cast, ↓reduceIte, reduceCtorEq, Nat.reduceAdd, Nat.reduceSub, Nat.reduceEqDiff, Nat.reduceLeDiff, Nat.reduceLT, Nat.reduceBEq, Nat.reduceDiv, Nat.reduceMod, Nat.reducePow, Nat.reduceMul, Int.reduceToNat, Int.reduceLT, Int.reduceLE]) | fail)
  refine W_cond (by rfl) (fun h => by cases h) (fun _ => ?_)
  repeat' (first | refine WK_go ?_ | refine W_seqL ?_ | refine W_seq ?_ | (refine W_regL ?_; simp (maxSteps := 400000) (disch := omega) only [push_cast, ↓reduceIte, reduceCtorEq, Nat.reduceAdd, Nat.reduceSub, Nat.reduceEqDiff, Nat.reduceLeDiff, Nat.reduceLT, Nat.reduceBEq, Nat.reduceDiv, Nat.reduceMod, Nat.reducePow, Nat.reduceMul, Int.reduceToNat, Int.reduceLT, Int.reduceLE]) | refine W_block ?_ | (refine W_skip ?_; simp (maxSteps := 400000) (disch := omega) only [push_cast, ↓reduceIte, reduceCtorEq, Nat.reduceAdd, Nat.reduceSub, Nat.reduceEqDiff, Nat.reduceLeDiff, Nat.reduceLT, Nat.reduceBEq, Nat.reduceDiv, Nat.reduceMod, Nat.reducePow, Nat.reduceMul, Int.reduceToNat, Int.reduceLT, Int.reduceLE]) | (refine W_exit ?_; simp (maxSteps := 400000) (disch := omega) only [push_cast, ↓reduceIte, reduceCtorEq, Nat.reduceAdd, Nat.reduceSub, Nat.reduceEqDiff, Nat.reduceLeDiff, Nat.reduceLT, Nat.reduceBEq, Nat.reduceDiv, Nat.reduceMod, Nat.reducePow, Nat.reduceMul, Int.reduceToNat, Int.reduceLT, Int.reduceLE]) | refine And.intro (by omega) ?_ | refine And.intro (by intro hq; (try simp only [Bool.and_eq_true, Bool.or_eq_true, Bool.and_eq_false_iff, Bool.or_eq_false_iff, decide_eq_true_eq, decide_eq_false_iff_not, Bool.not_eq_true', Bool.not_eq_false', beq_iff_eq, beq_eq_false_iff_ne, ne_eq] at hq); omega) ?_ | fail)
  refine W_cond (by rfl) (fun h => ?_) (fun h => ?_)
  · have h1 : ¬ gr.length = ps.length := by rw [bne_iff_ne] at h; omega
    rw [gR_bad (e := 17) (by unfold gE; rw [if_pos hch, if_neg h1]) (by decide)]
    repeat' (first | refine WK_go ?_ | refine W_seqL ?_ | refine W_seq ?_ | (refine W_regL ?_; simp (maxSteps := 400000) (disch := omega) only [push_cast, ↓reduceIte, reduceCtorEq, Nat.reduceAdd, Nat.reduceSub, Nat.reduceEqDiff, Nat.reduceLeDiff, Nat.reduceLT, Nat.reduceBEq, Nat.reduceDiv, Nat.reduceMod, Nat.reducePow, Nat.reduceMul, Int.reduceToNat, Int.reduceLT, Int.reduceLE]) | refine W_block ?_ | (refine W_skip ?_; simp (maxSteps := 400000) (disch := omega) only [push_cast, ↓reduceIte, reduceCtorEq, Nat.reduceAdd, Nat.reduceSub, Nat.reduceEqDiff, Nat.reduceLeDiff, Nat.reduceLT, Nat.reduceBEq, Nat.reduceDiv, Nat.reduceMod, Nat.reducePow, Nat.reduceMul, Int.reduceToNat, Int.reduceLT, Int.reduceLE]) | (refine W_exit ?_; simp (maxSteps := 400000) (disch := omega) only [push_cast, ↓reduceIte, reduceCtorEq, Nat.reduceAdd, Nat.reduceSub, Nat.reduceEqDiff, Nat.reduceLeDiff, Nat.reduceLT, Nat.reduceBEq, Nat.reduceDiv, Nat.reduceMod, Nat.reducePow, Nat.reduceMul, Int.reduceToNat, Int.reduceLT, Int.reduceLE]) | refine And.intro (by omega) ?_ | refine And.intro (by intro hq; (try simp only [Bool.and_eq_true, Bool.or_eq_true, Bool.and_eq_false_iff, Bool.or_eq_false_iff, decide_eq_true_eq, decide_eq_false_iff_not, Bool.not_eq_true', Bool.not_eq_false', beq_iff_eq, beq_eq_false_iff_ne, ne_eq] at hq); omega) ?_ | fail)
    exact W_ret ⟨[_, _, _], ⟨rfl, ⟨by simp [len3], rfl⟩, rfl, rfl⟩, rfl⟩
  have hgl : gr.length = ps.length := by rw [bne_eq_false_iff_eq] at h; omega
  repeat' (first | refine WK_go ?_ | refine W_seqL ?_ | refine W_seq ?_ | (refine W_regL ?_; simp (maxSteps := 400000) (disch := omega) only [push_cast, ↓reduceIte, reduceCtorEq, Nat.reduceAdd, Nat.reduceSub, Nat.reduceEqDiff, Nat.reduceLeDiff, Nat.reduceLT, Nat.reduceBEq, Nat.reduceDiv, Nat.reduceMod, Nat.reducePow, Nat.reduceMul, Int.reduceToNat, Int.reduceLT, Int.reduceLE]) | refine W_block ?_ | (refine W_skip ?_; simp (maxSteps := 400000) (disch := omega) only [push_cast, ↓reduceIte, reduceCtorEq, Nat.reduceAdd, Nat.reduceSub, Nat.reduceEqDiff, Nat.reduceLeDiff, Nat.reduceLT, Nat.reduceBEq, Nat.reduceDiv, Nat.reduceMod, Nat.reducePow, Nat.reduceMul, Int.reduceToNat, Int.reduceLT, Int.reduceLE]) | (refine W_exit ?_; simp (maxSteps := 400000) (disch := omega) only [push_cast, ↓reduceIte, reduceCtorEq, Nat.reduceAdd, Nat.reduceSub, Nat.reduceEqDiff, Nat.reduceLeDiff, Nat.reduceLT, Nat.reduceBEq, Nat.reduceDiv, Nat.reduceMod, Nat.reducePow, Nat.reduceMul, Int.reduceToNat, Int.reduceLT, Int.reduceLE]) | refine And.intro (by omega) ?_ | refine And.intro (by intro hq; (try simp only [Bool.and_eq_true, Bool.or_eq_true, Bool.and_eq_false_iff, Bool.or_eq_false_iff, decide_eq_true_eq, decide_eq_false_iff_not, Bool.not_eq_true', Bool.not_eq_false', beq_iff_eq, beq_eq_false_iff_ne, ne_eq] at hq); omega) ?_ | fail)
  refine W_loopU (fun i : Nat => [(34, iv i)]) (fun i => []) (fun i => i ≤ gr.length ∧ ∀ j, j < i → okH (gr.getD j 0) = true) (fun i => gr.length - i) 0 ⟨by omega, fun j hj => by omega⟩ (by rfl) (by rfl) (fun i hi => ?_)
  obtain ⟨hi, hall⟩ := hi
  simp (maxSteps := 400000) (disch := omega) only [push_cast, ↓reduceIte, reduceCtorEq, Nat.reduceAdd, Nat.reduceSub, Nat.reduceEqDiff, Nat.reduceLeDiff, Nat.reduceLT, Nat.reduceBEq, Nat.reduceDiv, Nat.reduceMod, Nat.reducePow, Nat.reduceMul, Int.reduceToNat, Int.reduceLT, Int.reduceLE]
  repeat' (first | refine WK_go ?_ | refine W_seqL ?_ | refine W_seq ?_ | (refine W_regL ?_; simp (maxSteps := 400000) (disch := omega) only [push_cast, ↓reduceIte, reduceCtorEq, Nat.reduceAdd, Nat.reduceSub, Nat.reduceEqDiff, Nat.reduceLeDiff, Nat.reduceLT, Nat.reduceBEq, Nat.reduceDiv, Nat.reduceMod, Nat.reducePow, Nat.reduceMul, Int.reduceToNat, Int.reduceLT, Int.reduceLE]) | refine W_block ?_ | (refine W_skip ?_; simp (maxSteps := 400000) (disch := omega) only [push_cast, ↓reduceIte, reduceCtorEq, Nat.reduceAdd, Nat.reduceSub, Nat.reduceEqDiff, Nat.reduceLeDiff, Nat.reduceLT, Nat.reduceBEq, Nat.reduceDiv, Nat.reduceMod, Nat.reducePow, Nat.reduceMul, Int.reduceToNat, Int.reduceLT, Int.reduceLE]) | (refine W_exit ?_; simp (maxSteps := 400000) (disch := omega) only [push_cast, ↓reduceIte, reduceCtorEq, Nat.reduceAdd, Nat.reduceSub, Nat.reduceEqDiff, Nat.reduceLeDiff, Nat.reduceLT, Nat.reduceBEq, Nat.reduceDiv, Nat.reduceMod, Nat.reducePow, Nat.reduceMul, Int.reduceToNat, Int.reduceLT, Int.reduceLE]) | refine And.intro (by omega) ?_ | refine And.intro (by intro hq; (try simp only [Bool.and_eq_true, Bool.or_eq_true, Bool.and_eq_false_iff, Bool.or_eq_false_iff, decide_eq_true_eq, decide_eq_false_iff_not, Bool.not_eq_true', Bool.not_eq_false', beq_iff_eq, beq_eq_false_iff_ne, ne_eq] at hq); omega) ?_ | fail)
  refine W_condD (by rfl) (fun h5 => ?_) (fun h5 => ?_)
  · have hlt : i < gr.length := by omega
    repeat' (first | refine WK_go ?_ | refine W_seqL ?_ | refine W_seq ?_ | (refine W_regL ?_; simp (maxSteps := 400000) (disch := omega) only [push_cast, ↓reduceIte, reduceCtorEq, Nat.reduceAdd, Nat.reduceSub, Nat.reduceEqDiff, Nat.reduceLeDiff, Nat.reduceLT, Nat.reduceBEq, Nat.reduceDiv, Nat.reduceMod, Nat.reducePow, Nat.reduceMul, Int.reduceToNat, Int.reduceLT, Int.reduceLE]) | refine W_block ?_ | (refine W_skip ?_; simp (maxSteps := 400000) (disch := omega) only [push_cast, ↓reduceIte, reduceCtorEq, Nat.reduceAdd, Nat.reduceSub, Nat.reduceEqDiff, Nat.reduceLeDiff, Nat.reduceLT, Nat.reduceBEq, Nat.reduceDiv, Nat.reduceMod, Nat.reducePow, Nat.reduceMul, Int.reduceToNat, Int.reduceLT, Int.reduceLE]) | (refine W_exit ?_; simp (maxSteps := 400000) (disch := omega) only [push_cast, ↓reduceIte, reduceCtorEq, Nat.reduceAdd, Nat.reduceSub, Nat.reduceEqDiff, Nat.reduceLeDiff, Nat.reduceLT, Nat.reduceBEq, Nat.reduceDiv, Nat.reduceMod, Nat.reducePow, Nat.reduceMul, Int.reduceToNat, Int.reduceLT, Int.reduceLE]) | refine And.intro (by omega) ?_ | refine And.intro (by intro hq; (try simp only [Bool.and_eq_true, Bool.or_eq_true, Bool.and_eq_false_iff, Bool.or_eq_false_iff, decide_eq_true_eq, decide_eq_false_iff_not, Bool.not_eq_true', Bool.not_eq_false', beq_iff_eq, beq_eq_false_iff_ne, ne_eq] at hq); omega) ?_ | (refine CallC.now (fn53 _ _ _) ?_; simp (maxSteps := 400000) (disch := omega) only [push_cast, ↓reduceIte, reduceCtorEq, Nat.reduceAdd, Nat.reduceSub, Nat.reduceEqDiff, Nat.reduceLeDiff, Nat.reduceLT, Nat.reduceBEq, Nat.reduceDiv, Nat.reduceMod, Nat.reducePow, Nat.reduceMul, Int.reduceToNat, Int.reduceLT, Int.reduceLE]) | fail)
    refine W_cond (by rfl) (fun hb => ?_) (fun hb => ?_)
    · have hany : gr.any (fun h => !okH h) = true := List.any_eq_true.2 ⟨_, getD_mem 0 gr i hlt, hb⟩
      rw [gR_bad (e := 3) (by unfold gE; rw [if_pos hch, if_pos hgl, if_pos hany]) (by decide)]
      repeat' (first | refine WK_go ?_ | refine W_seqL ?_ | refine W_seq ?_ | (refine W_regL ?_; simp (maxSteps := 400000) (disch := omega) only [push_cast, ↓reduceIte, reduceCtorEq, Nat.reduceAdd, Nat.reduceSub, Nat.reduceEqDiff, Nat.reduceLeDiff, Nat.reduceLT, Nat.reduceBEq, Nat.reduceDiv, Nat.reduceMod, Nat.reducePow, Nat.reduceMul, Int.reduceToNat, Int.reduceLT, Int.reduceLE]) | refine W_block ?_ | (refine W_skip ?_; simp (maxSteps := 400000) (disch := omega) only [push_cast, ↓reduceIte, reduceCtorEq, Nat.reduceAdd, Nat.reduceSub, Nat.reduceEqDiff, Nat.reduceLeDiff, Nat.reduceLT, Nat.reduceBEq, Nat.reduceDiv, Nat.reduceMod, Nat.reducePow, Nat.reduceMul, Int.reduceToNat, Int.reduceLT, Int.reduceLE]) | (refine W_exit ?_; simp (maxSteps := 400000) (disch := omega) only [push_cast, ↓reduceIte, reduceCtorEq, Nat.reduceAdd, Nat.reduceSub, Nat.reduceEqDiff, Nat.reduceLeDiff, Nat.reduceLT, Nat.reduceBEq, Nat.reduceDiv, Nat.reduceMod, Nat.reducePow, Nat.reduceMul, Int.reduceToNat, Int.reduceLT, Int.reduceLE]) | refine And.intro (by omega) ?_ | refine And.intro (by intro hq; (try simp only [Bool.and_eq_true, Bool.or_eq_true, Bool.and_eq_false_iff, Bool.or_eq_false_iff, decide_eq_true_eq, decide_eq_false_iff_not, Bool.not_eq_true', Bool.not_eq_false', beq_iff_eq, beq_eq_false_iff_ne, ne_eq] at hq); omega) ?_ | fail)
      exact W_ret ⟨[_, _, _], ⟨rfl, ⟨by simp [len3], rfl⟩, rfl, rfl⟩, rfl⟩
    · repeat' (first | refine WK_go ?_ | refine W_seqL ?_ | refine W_seq ?_ | (refine W_regL ?_; simp (maxSteps := 400000) (disch := omega) only [push_cast, ↓reduceIte, reduceCtorEq, Nat.reduceAdd, Nat.reduceSub, Nat.reduceEqDiff, Nat.reduceLeDiff, Nat.reduceLT, Nat.reduceBEq, Nat.reduceDiv, Nat.reduceMod, Nat.reducePow, Nat.reduceMul, Int.reduceToNat, Int.reduceLT, Int.reduceLE]) | refine W_block ?_ | (refine W_skip ?_; simp (maxSteps := 400000) (disch := omega) only [push_cast, ↓reduceIte, reduceCtorEq, Nat.reduceAdd, Nat.reduceSub, Nat.reduceEqDiff, Nat.reduceLeDiff, Nat.reduceLT, Nat.reduceBEq, Nat.reduceDiv, Nat.reduceMod, Nat.reducePow, Nat.reduceMul, Int.reduceToNat, Int.reduceLT, Int.reduceLE]) | (refine W_exit ?_; simp (maxSteps := 400000) (disch := omega) only [push_cast, ↓reduceIte, reduceCtorEq, Nat.reduceAdd, Nat.reduceSub, Nat.reduceEqDiff, Nat.reduceLeDiff, Nat.reduceLT, Nat.reduceBEq, Nat.reduceDiv, Nat.reduceMod, Nat.reducePow, Nat.reduceMul, Int.reduceToNat, Int.reduceLT, Int.reduceLE]) | refine And.intro (by omega) ?_ | refine And.intro (by intro hq; (try simp only [Bool.and_eq_true, Bool.or_eq_true, Bool.and_eq_false_iff, Bool.or_eq_false_iff, decide_eq_true_eq, decide_eq_false_iff_not, Bool.not_eq_true', Bool.not_eq_false', beq_iff_eq, beq_eq_false_iff_ne, ne_eq] at hq); omega) ?_ | fail)
      refine ⟨i + 1, ⟨by omega, up_all hall (by unfold okH; simpa using hb)⟩, by omega, by rfl, ?_⟩
      simp (maxSteps := 400000) (disch := omega) only [push_cast, ↓reduceIte, reduceCtorEq, Nat.reduceAdd, Nat.reduceSub, Nat.reduceEqDiff, Nat.reduceLeDiff, Nat.reduceLT, Nat.reduceBEq, Nat.reduceDiv, Nat.reduceMod, Nat.reducePow, Nat.reduceMul, Int.reduceToNat, Int.reduceLT, Int.reduceLE, S.mk.injEq, List.cons.injEq, Prod.mk.injEq, AV.v.injEq, Value.int.injEq, Value.bool.injEq, Blk.cells.injEq]
  have hhh : ∀ j, j < gr.length → okH (gr.getD j 0) = true := fun j hj => hall j (by omega)
  have hany : gr.any (fun h => !okH h) = false := by
    rw [← Bool.not_eq_true, List.any_eq_true]
    rintro ⟨x, hx, hq⟩
    obtain ⟨i, hi⟩ := List.mem_iff_getElem?.1 hx
    have h1 := (List.getElem?_eq_some_iff.1 hi).1
    have := hhh i h1
    simp only [List.getD, hi, Option.getD_some] at this
    rw [this] at hq; cases hq
  clear hall
  repeat' (first | refine WK_go ?_ | refine W_seqL ?_ | refine W_seq ?_ | (refine W_regL ?_; simp (maxSteps := 400000) (disch := omega) only [push_cast, ↓reduceIte, reduceCtorEq, Nat.reduceAdd, Nat.reduceSub, Nat.reduceEqDiff, Nat.reduceLeDiff, Nat.reduceLT, Nat.reduceBEq, Nat.reduceDiv, Nat.reduceMod, Nat.reducePow, Nat.reduceMul, Int.reduceToNat, Int.reduceLT, Int.reduceLE]) | refine W_block ?_ | (refine W_skip ?_; simp (maxSteps := 400000) (disch := omega) only [push_cast, ↓reduceIte, reduceCtorEq, Nat.reduceAdd, Nat.reduceSub, Nat.reduceEqDiff, Nat.reduceLeDiff, Nat.reduceLT, Nat.reduceBEq, Nat.reduceDiv, Nat.reduceMod, Nat.reducePow, Nat.reduceMul, Int.reduceToNat, Int.reduceLT, Int.reduceLE]) | (refine W_exit ?_; simp (maxSteps := 400000) (disch := omega) only [push_cast, ↓reduceIte, reduceCtorEq, Nat.reduceAdd, Nat.reduceSub, Nat.reduceEqDiff, Nat.reduceLeDiff, Nat.reduceLT, Nat.reduceBEq, Nat.reduceDiv, Nat.reduceMod, Nat.reducePow, Nat.reduceMul, Int.reduceToNat, Int.reduceLT, Int.reduceLE]) | refine And.intro (by omega) ?_ | refine And.intro (by intro hq; (try simp only [Bool.and_eq_true, Bool.or_eq_true, Bool.and_eq_false_iff, Bool.or_eq_false_iff, decide_eq_true_eq, decide_eq_false_iff_not, Bool.not_eq_true', Bool.not_eq_false', beq_iff_eq, beq_eq_false_iff_ne, ne_eq] at hq); omega) ?_ | fail)
  refine W_loopU (fun k : Nat => [(44, iv k)]) (fun k => []) (fun k => k ≤ 3 ∧ ∀ j, j < k → okF (fl j) = true) (fun k => 3 - k) 0 ⟨by omega, fun j hj => by omega⟩ (by rfl) (by rfl) (fun k hk => ?_)
  obtain ⟨hk, hfl⟩ := hk
  simp (maxSteps := 400000) (disch := omega) only [push_cast, ↓reduceIte, reduceCtorEq, Nat.reduceAdd, Nat.reduceSub, Nat.reduceEqDiff, Nat.reduceLeDiff, Nat.reduceLT, Nat.reduceBEq, Nat.reduceDiv, Nat.reduceMod, Nat.reducePow, Nat.reduceMul, Int.reduceToNat, Int.reduceLT, Int.reduceLE]
  repeat' (first | refine WK_go ?_ | refine W_seqL ?_ | refine W_seq ?_ | (refine W_regL ?_; simp (maxSteps := 400000) (disch := omega) only [push_cast, ↓reduceIte, reduceCtorEq, Nat.reduceAdd, Nat.reduceSub, Nat.reduceEqDiff, Nat.reduceLeDiff, Nat.reduceLT, Nat.reduceBEq, Nat.reduceDiv, Nat.reduceMod, Nat.reducePow, Nat.reduceMul, Int.reduceToNat, Int.reduceLT, Int.reduceLE]) | refine W_block ?_ | (refine W_skip ?_; simp (maxSteps := 400000) (disch := omega) only [push_cast, ↓reduceIte, reduceCtorEq, Nat.reduceAdd, Nat.reduceSub, Nat.reduceEqDiff, Nat.reduceLeDiff, Nat.reduceLT, Nat.reduceBEq, Nat.reduceDiv, Nat.reduceMod, Nat.reducePow, Nat.reduceMul, Int.reduceToNat, Int.reduceLT, Int.reduceLE]) | (refine W_exit ?_; simp (maxSteps := 400000) (disch := omega) only [push_cast, ↓reduceIte, reduceCtorEq, Nat.reduceAdd, Nat.reduceSub, Nat.reduceEqDiff, Nat.reduceLeDiff, Nat.reduceLT, Nat.reduceBEq, Nat.reduceDiv, Nat.reduceMod, Nat.reducePow, Nat.reduceMul, Int.reduceToNat, Int.reduceLT, Int.reduceLE]) | refine And.intro (by omega) ?_ | refine And.intro (by intro hq; (try simp only [Bool.and_eq_true, Bool.or_eq_true, Bool.and_eq_false_iff, Bool.or_eq_false_iff, decide_eq_true_eq, decide_eq_false_iff_not, Bool.not_eq_true', Bool.not_eq_false', beq_iff_eq, beq_eq_false_iff_ne, ne_eq] at hq); omega) ?_ | fail)
  refine W_condD (by rfl) (fun h6 => ?_) (fun h6 => ?_)
  · have hk3 : k < 3 := by omega
    repeat' (first | refine WK_go ?_ | refine W_seqL ?_ | refine W_seq ?_ | (refine W_regL ?_; simp (maxSteps := 400000) (disch := omega) only [push_cast, ↓reduceIte, reduceCtorEq, Nat.reduceAdd, Nat.reduceSub, Nat.reduceEqDiff, Nat.reduceLeDiff, Nat.reduceLT, Nat.reduceBEq, Nat.reduceDiv, Nat.reduceMod, Nat.reducePow, Nat.reduceMul, Int.reduceToNat, Int.reduceLT, Int.reduceLE, Nat.mul_one]) | refine W_block ?_ | (refine W_skip ?_; simp (maxSteps := 400000) (disch := omega) only [push_cast, ↓reduceIte, reduceCtorEq, Nat.reduceAdd, Nat.reduceSub, Nat.reduceEqDiff, Nat.reduceLeDiff, Nat.reduceLT, Nat.reduceBEq, Nat.reduceDiv, Nat.reduceMod, Nat.reducePow, Nat.reduceMul, Int.reduceToNat, Int.reduceLT, Int.reduceLE, Nat.mul_one]) | (refine W_exit ?_; simp (maxSteps := 400000) (disch := omega) only [push_cast, ↓reduceIte, reduceCtorEq, Nat.reduceAdd, Nat.reduceSub, Nat.reduceEqDiff, Nat.reduceLeDiff, Nat.reduceLT, Nat.reduceBEq, Nat.reduceDiv, Nat.reduceMod, Nat.reducePow, Nat.reduceMul, Int.reduceToNat, Int.reduceLT, Int.reduceLE, Nat.mul_one]) | refine And.intro (by omega) ?_ | refine And.intro (by intro hq; (try simp only [Bool.and_eq_true, Bool.or_eq_true, Bool.and_eq_false_iff, Bool.or_eq_false_iff, decide_eq_true_eq, decide_eq_false_iff_not, Bool.not_eq_true', Bool.not_eq_false', beq_iff_eq, beq_eq_false_iff_ne, ne_eq] at hq); omega) ?_ | (refine CallC.now (fn53 _ _ _) ?_; simp (maxSteps := 400000) (disch := omega) only [push_cast, ↓reduceIte, reduceCtorEq, Nat.reduceAdd, Nat.reduceSub, Nat.reduceEqDiff, Nat.reduceLeDiff, Nat.reduceLT, Nat.reduceBEq, Nat.reduceDiv, Nat.reduceMod, Nat.reducePow, Nat.reduceMul, Int.reduceToNat, Int.reduceLT, Int.reduceLE, Nat.mul_one]) | fail)
    refine W_cond (by rfl) (fun hb => ?_) (fun hb => ?_)
    · have hbad : ¬ (okF (fl 0) && okF (fl 1) && okF (fl 2)) = true := by
        intro q
        simp only [Bool.and_eq_true] at q
        have : okF (fl k) = true := by
          rcases (show k = 0 ∨ k = 1 ∨ k = 2 by omega) with rfl | rfl | rfl
          · exact q.1.1
          · exact q.1.2
          · exact q.2
        unfold okF at this
        rw [this] at hb; cases hb
      rw [gR_bad (e := 3) (by unfold gE; rw [if_pos hch, if_pos hgl, hany, if_neg (by decide), if_neg hbad]) (by decide)]
      repeat' (first | refine WK_go ?_ | refine W_seqL ?_ | refine W_seq ?_ | (refine W_regL ?_; simp (maxSteps := 400000) (disch := omega) only [push_cast, ↓reduceIte, reduceCtorEq, Nat.reduceAdd, Nat.reduceSub, Nat.reduceEqDiff, Nat.reduceLeDiff, Nat.reduceLT, Nat.reduceBEq, Nat.reduceDiv, Nat.reduceMod, Nat.reducePow, Nat.reduceMul, Int.reduceToNat, Int.reduceLT, Int.reduceLE]) | refine W_block ?_ | (refine W_skip ?_; simp (maxSteps := 400000) (disch := omega) only [push_cast, ↓reduceIte, reduceCtorEq, Nat.reduceAdd, Nat.reduceSub, Nat.reduceEqDiff, Nat.reduceLeDiff, Nat.reduceLT, Nat.reduceBEq, Nat.reduceDiv, Nat.reduceMod, Nat.reducePow, Nat.reduceMul, Int.reduceToNat, Int.reduceLT, Int.reduceLE]) | (refine W_exit ?_; simp (maxSteps := 400000) (disch := omega) only [push_cast, ↓reduceIte, reduceCtorEq, Nat.reduceAdd, Nat.reduceSub, Nat.reduceEqDiff, Nat.reduceLeDiff, Nat.reduceLT, Nat.reduceBEq, Nat.reduceDiv, Nat.reduceMod, Nat.reducePow, Nat.reduceMul, Int.reduceToNat, Int.reduceLT, Int.reduceLE]) | refine And.intro (by omega) ?_ | refine And.intro (by intro hq; (try simp only [Bool.and_eq_true, Bool.or_eq_true, Bool.and_eq_false_iff, Bool.or_eq_false_iff, decide_eq_true_eq, decide_eq_false_iff_not, Bool.not_eq_true', Bool.not_eq_false', beq_iff_eq, beq_eq_false_iff_ne, ne_eq] at hq); omega) ?_ | fail)
      exact W_ret ⟨[_, _, _], ⟨rfl, ⟨by simp [len3], rfl⟩, rfl, rfl⟩, rfl⟩
    · repeat' (first | refine WK_go ?_ | refine W_seqL ?_ | refine W_seq ?_ | (refine W_regL ?_; simp (maxSteps := 400000) (disch := omega) only [push_cast, ↓reduceIte, reduceCtorEq, Nat.reduceAdd, Nat.reduceSub, Nat.reduceEqDiff, Nat.reduceLeDiff, Nat.reduceLT, Nat.reduceBEq, Nat.reduceDiv, Nat.reduceMod, Nat.reducePow, Nat.reduceMul, Int.reduceToNat, Int.reduceLT, Int.reduceLE]) | refine W_block ?_ | (refine W_skip ?_; simp (maxSteps := 400000) (disch := omega) only [push_cast, ↓reduceIte, reduceCtorEq, Nat.reduceAdd, Nat.reduceSub, Nat.reduceEqDiff, Nat.reduceLeDiff, Nat.reduceLT, Nat.reduceBEq, Nat.reduceDiv, Nat.reduceMod, Nat.reducePow, Nat.reduceMul, Int.reduceToNat, Int.reduceLT, Int.reduceLE]) | (refine W_exit ?_; simp (maxSteps := 400000) (disch := omega) only [push_cast, ↓reduceIte, reduceCtorEq, Nat.reduceAdd, Nat.reduceSub, Nat.reduceEqDiff, Nat.reduceLeDiff, Nat.reduceLT, Nat.reduceBEq, Nat.reduceDiv, Nat.reduceMod, Nat.reducePow, Nat.reduceMul, Int.reduceToNat, Int.reduceLT, Int.reduceLE]) | refine And.intro (by omega) ?_ | refine And.intro (by intro hq; (try simp only [Bool.and_eq_true, Bool.or_eq_true, Bool.and_eq_false_iff, Bool.or_eq_false_iff, decide_eq_true_eq, decide_eq_false_iff_not, Bool.not_eq_true', Bool.not_eq_false', beq_iff_eq, beq_eq_false_iff_ne, ne_eq] at hq); omega) ?_ | fail)
      refine ⟨k + 1, ⟨by omega, up_all hfl (by unfold okF; simpa using hb)⟩, by omega, by rfl, ?_⟩
      simp (maxSteps := 400000) (disch := omega) only [push_cast, ↓reduceIte, reduceCtorEq, Nat.reduceAdd, Nat.reduceSub, Nat.reduceEqDiff, Nat.reduceLeDiff, Nat.reduceLT, Nat.reduceBEq, Nat.reduceDiv, Nat.reduceMod, Nat.reducePow, Nat.reduceMul, Int.reduceToNat, Int.reduceLT, Int.reduceLE, S.mk.injEq, List.cons.injEq, Prod.mk.injEq, AV.v.injEq, Value.int.injEq, Value.bool.injEq, Blk.cells.injEq]
  have hG : GOK ps fl gr := ⟨hch, hgl, hhh, fun j hj => hfl j (by omega)⟩
  have hR : gR ps fl gr = .tup [aDk ps, .agg (c3 (gS ps fl gr ps.length)), iv 0] := by unfold gR; rw [if_pos (gE_of hG)]
  rw [hR]
  clear hfl
  repeat' (first | refine WK_go ?_ | refine W_seqL ?_ | refine W_seq ?_ | (refine W_regL ?_; simp (maxSteps := 400000) (disch := omega) only [push_cast, ↓reduceIte, reduceCtorEq, Nat.reduceAdd, Nat.reduceSub, Nat.reduceEqDiff, Nat.reduceLeDiff, Nat.reduceLT, Nat.reduceBEq, Nat.reduceDiv, Nat.reduceMod, Nat.reducePow, Nat.reduceMul, Int.reduceToNat, Int.reduceLT, Int.reduceLE]) | refine W_block ?_ | (refine W_skip ?_; simp (maxSteps := 400000) (disch := omega) only [push_cast, ↓reduceIte, reduceCtorEq, Nat.reduceAdd, Nat.reduceSub, Nat.reduceEqDiff, Nat.reduceLeDiff, Nat.reduceLT, Nat.reduceBEq, Nat.reduceDiv, Nat.reduceMod, Nat.reducePow, Nat.reduceMul, Int.reduceToNat, Int.reduceLT, Int.reduceLE]) | (refine W_exit ?_; simp (maxSteps := 400000) (disch := omega) only [push_cast, ↓reduceIte, reduceCtorEq, Nat.reduceAdd, Nat.reduceSub, Nat.reduceEqDiff, Nat.reduceLeDiff, Nat.reduceLT, Nat.reduceBEq, Nat.reduceDiv, Nat.reduceMod, Nat.reducePow, Nat.reduceMul, Int.reduceToNat, Int.reduceLT, Int.reduceLE]) | refine And.intro (by omega) ?_ | refine And.intro (by intro hq; (try simp only [Bool.and_eq_true, Bool.or_eq_true, Bool.and_eq_false_iff, Bool.or_eq_false_iff, decide_eq_true_eq, decide_eq_false_iff_not, Bool.not_eq_true', Bool.not_eq_false', beq_iff_eq, beq_eq_false_iff_ne, ne_eq] at hq); omega) ?_ | fail)
  refine W_loopU (fun i : Nat => [(54, iv i)]) (fun i => [(0, .cells (c3 (gS ps fl gr i)))]) (fun i => i ≤ ps.length) (fun i => ps.length - i) 0 (by omega) (by rfl) (by rfl) (fun i hi => ?_)
  have hsb := gS_B hG i hi
  simp (maxSteps := 400000) (disch := omega) only [push_cast, ↓reduceIte, reduceCtorEq, Nat.reduceAdd, Nat.reduceSub, Nat.reduceEqDiff, Nat.reduceLeDiff, Nat.reduceLT, Nat.reduceBEq, Nat.reduceDiv, Nat.reduceMod, Nat.reducePow, Nat.reduceMul, Int.reduceToNat, Int.reduceLT, Int.reduceLE]
  repeat' (first | refine WK_go ?_ | refine W_seqL ?_ | refine W_seq ?_ | (refine W_regL ?_; simp (maxSteps := 400000) (disch := omega) only [push_cast, ↓reduceIte, reduceCtorEq, Nat.reduceAdd, Nat.reduceSub, Nat.reduceEqDiff, Nat.reduceLeDiff, Nat.reduceLT, Nat.reduceBEq, Nat.reduceDiv, Nat.reduceMod, Nat.reducePow, Nat.reduceMul, Int.reduceToNat, Int.reduceLT, Int.reduceLE]) | refine W_block ?_ | (refine W_skip ?_; simp (maxSteps := 400000) (disch := omega) only [push_cast, ↓reduceIte, reduceCtorEq, Nat.reduceAdd, Nat.reduceSub, Nat.reduceEqDiff, Nat.reduceLeDiff, Nat.reduceLT, Nat.reduceBEq, Nat.reduceDiv, Nat.reduceMod, Nat.reducePow, Nat.reduceMul, Int.reduceToNat, Int.reduceLT, Int.reduceLE]) | (refine W_exit ?_; simp (maxSteps := 400000) (disch := omega) only [push_cast, ↓reduceIte, reduceCtorEq, Nat.reduceAdd, Nat.reduceSub, Nat.reduceEqDiff, Nat.reduceLeDiff, Nat.reduceLT, Nat.reduceBEq, Nat.reduceDiv, Nat.reduceMod, Nat.reducePow, Nat.reduceMul, Int.reduceToNat, Int.reduceLT, Int.reduceLE]) | refine And.intro (by omega) ?_ | refine And.intro (by intro hq; (try simp only [Bool.and_eq_true, Bool.or_eq_true, Bool.and_eq_false_iff, Bool.or_eq_false_iff, decide_eq_true_eq, decide_eq_false_iff_not, Bool.not_eq_true', Bool.not_eq_false', beq_iff_eq, beq_eq_false_iff_ne, ne_eq] at hq); omega) ?_ | fail)
  refine W_condD (by rfl) (fun h7 => ?_) (fun h7 => ?_)
  · have hlt : i < ps.length := by omega
    have hsp : ps.getD i dS = sp ps i := rfl
    have hsg := supB_iff.1 (hok i hlt)
    obtain ⟨g, hg⟩ : ∃ g : Nat, (sp ps i).g = g := ⟨(sp ps i).g.toNat, by omega⟩
    have hg3 : g < 3 := by omega
    have hhi := inR_iff.1 (hhh i (by omega))
    have hsg2 := hsb g hg3
    have hset : List.take g (c3 (gS ps fl gr i)) ++ [iv (gS ps fl gr i g + gr.getD i 0)] ++ List.drop (g + 1) (c3 (gS ps fl gr i)) = c3 (gS ps fl gr (i + 1)) := by
      have h1 : List.take g (c3 (gS ps fl gr i)) ++ [iv (gS ps fl gr i g + gr.getD i 0)] ++ List.drop (g + 1) (c3 (gS ps fl gr i)) = c3 (fun j => if j = g then gS ps fl gr i g + gr.getD i 0 else gS ps fl gr i j) := by
        rcases (show g = 0 ∨ g = 1 ∨ g = 2 by omega) with rfl | rfl | rfl <;> rfl
      have h2 : ∀ j, (if j = g then gS ps fl gr i g + gr.getD i 0 else gS ps fl gr i j) = gS ps fl gr (i + 1) j := fun j => by
        simp only [gS]
        by_cases e : j = g
        · rw [if_pos e, if_pos (by omega), e]
        · rw [if_neg e, if_neg (by omega)]; omega
      rw [h1, funext h2]
    repeat' (first | refine WK_go ?_ | refine W_seqL ?_ | refine W_seq ?_ | (refine W_regL ?_; simp (maxSteps := 400000) (disch := omega) only [push_cast, ↓reduceIte, reduceCtorEq, Nat.reduceAdd, Nat.reduceSub, Nat.reduceEqDiff, Nat.reduceLeDiff, Nat.reduceLT, Nat.reduceBEq, Nat.reduceDiv, Nat.reduceMod, Nat.reducePow, Nat.reduceMul, Int.reduceToNat, Int.reduceLT, Int.reduceLE, hsp, hg, hset, Nat.mul_one]) | refine W_block ?_ | (refine W_skip ?_; simp (maxSteps := 400000) (disch := omega) only [push_cast, ↓reduceIte, reduceCtorEq, Nat.reduceAdd, Nat.reduceSub, Nat.reduceEqDiff, Nat.reduceLeDiff, Nat.reduceLT, Nat.reduceBEq, Nat.reduceDiv, Nat.reduceMod, Nat.reducePow, Nat.reduceMul, Int.reduceToNat, Int.reduceLT, Int.reduceLE, hsp, hg, hset, Nat.mul_one]) | (refine W_exit ?_; simp (maxSteps := 400000) (disch := omega) only [push_cast, ↓reduceIte, reduceCtorEq, Nat.reduceAdd, Nat.reduceSub, Nat.reduceEqDiff, Nat.reduceLeDiff, Nat.reduceLT, Nat.reduceBEq, Nat.reduceDiv, Nat.reduceMod, Nat.reducePow, Nat.reduceMul, Int.reduceToNat, Int.reduceLT, Int.reduceLE, hsp, hg, hset, Nat.mul_one]) | refine And.intro (by omega) ?_ | refine And.intro (by intro hq; (try simp only [Bool.and_eq_true, Bool.or_eq_true, Bool.and_eq_false_iff, Bool.or_eq_false_iff, decide_eq_true_eq, decide_eq_false_iff_not, Bool.not_eq_true', Bool.not_eq_false', beq_iff_eq, beq_eq_false_iff_ne, ne_eq] at hq); omega) ?_ | fail)
    refine ⟨i + 1, by omega, by omega, by rfl, ?_⟩
    simp (maxSteps := 400000) (disch := omega) only [push_cast, ↓reduceIte, reduceCtorEq, Nat.reduceAdd, Nat.reduceSub, Nat.reduceEqDiff, Nat.reduceLeDiff, Nat.reduceLT, Nat.reduceBEq, Nat.reduceDiv, Nat.reduceMod, Nat.reducePow, Nat.reduceMul, Int.reduceToNat, Int.reduceLT, Int.reduceLE, S.mk.injEq, List.cons.injEq, Prod.mk.injEq, AV.v.injEq, Value.int.injEq, Value.bool.injEq, Blk.cells.injEq]
  · obtain rfl : i = ps.length := by omega
    repeat' (first | refine WK_go ?_ | refine W_seqL ?_ | refine W_seq ?_ | (refine W_regL ?_; simp (maxSteps := 400000) (disch := omega) only [push_cast, ↓reduceIte, reduceCtorEq, Nat.reduceAdd, Nat.reduceSub, Nat.reduceEqDiff, Nat.reduceLeDiff, Nat.reduceLT, Nat.reduceBEq, Nat.reduceDiv, Nat.reduceMod, Nat.reducePow, Nat.reduceMul, Int.reduceToNat, Int.reduceLT, Int.reduceLE]) | refine W_block ?_ | (refine W_skip ?_; simp (maxSteps := 400000) (disch := omega) only [push_cast, ↓reduceIte, reduceCtorEq, Nat.reduceAdd, Nat.reduceSub, Nat.reduceEqDiff, Nat.reduceLeDiff, Nat.reduceLT, Nat.reduceBEq, Nat.reduceDiv, Nat.reduceMod, Nat.reducePow, Nat.reduceMul, Int.reduceToNat, Int.reduceLT, Int.reduceLE]) | (refine W_exit ?_; simp (maxSteps := 400000) (disch := omega) only [push_cast, ↓reduceIte, reduceCtorEq, Nat.reduceAdd, Nat.reduceSub, Nat.reduceEqDiff, Nat.reduceLeDiff, Nat.reduceLT, Nat.reduceBEq, Nat.reduceDiv, Nat.reduceMod, Nat.reducePow, Nat.reduceMul, Int.reduceToNat, Int.reduceLT, Int.reduceLE]) | refine And.intro (by omega) ?_ | refine And.intro (by intro hq; (try simp only [Bool.and_eq_true, Bool.or_eq_true, Bool.and_eq_false_iff, Bool.or_eq_false_iff, decide_eq_true_eq, decide_eq_false_iff_not, Bool.not_eq_true', Bool.not_eq_false', beq_iff_eq, beq_eq_false_iff_ne, ne_eq] at hq); omega) ?_ | fail)
    exact W_ret ⟨[_, _, _], ⟨rfl, ⟨by simp [len3], rfl⟩, rfl, rfl⟩, rfl⟩
theorem c76 (ps : List Sup) (fl : Nat → Int) (gr : List Int) (hl : ps.length ≤ 140737488355328) (hl2 : gr.length ≤ 140737488355328) (h : gE ps fl gr = 0) : Sy.Fn Try.prog 76 [aP ps, .agg (c3 fl), aG gr] (.tup [aDk ps, .agg (c3 (gS ps fl gr ps.length)), iv 0]) := by
  have := fn76 ps fl gr hl hl2
  unfold gR at this
  rw [if_pos h] at this
  exact this
theorem c76n (ps : List Sup) (fl : Nat → Int) (gr : List Int) (hl : ps.length ≤ 140737488355328) (hl2 : gr.length ≤ 140737488355328) (h : ¬ gE ps fl gr = 0) : Sy.Fn Try.prog 76 [aP ps, .agg (c3 fl), aG gr] (.tup [.v (.pointer none), .agg (c3 fl), iv (gE ps fl gr)]) := by
  have := fn76 ps fl gr hl hl2
  unfold gR at this
  rw [if_neg h] at this
  exact this
/-- a part is too great -/
def beyB (ps : List Sup) (p : Pt) (g : Nat) : Bool := decide (whole ps < (max (part ps p g) (0 - part ps p g) + 1023) / 1024)
def beyA (ps : List Sup) (p : Pt) : Bool := beyB ps p 0 || beyB ps p 1 || beyB ps p 2
theorem beyA_any {ps : List Sup} {p : Pt} {g : Nat} (hg : g < 3) (h : beyB ps p g = true) : beyA ps p = true := by
  unfold beyA
  rcases (show g = 0 ∨ g = 1 ∨ g = 2 by omega) with rfl | rfl | rfl <;> rw [h] <;> simp
theorem beyA_none {ps : List Sup} {p : Pt} (h : ∀ g, g < 3 → beyB ps p g = false) : beyA ps p = false := by
  unfold beyA
  rw [h 0 (by omega), h 1 (by omega), h 2 (by omega)]; rfl
def htS (h : Nat → Int) (ps : List Sup) (p : Pt) : Nat → Int
  | 0 => 0
  | n + 1 => htS h ps p n + h n * part ps p n / whole ps
structure HB (h : Nat → Int) : Prop where
  b : ∀ j, j < 3 → -1048576 ≤ h j ∧ h j ≤ 1048576
theorem gS_HB {ps : List Sup} {fl : Nat → Int} {gr : List Int} (h : GOK ps fl gr) : HB (gS ps fl gr ps.length) :=
  ⟨fun j hj => by have := gS_B h ps.length (Nat.le_refl _) j hj; have := (chkP_ok h.ch).1; omega⟩
theorem ht_frac {h : Nat → Int} {ps : List Sup} {p : Pt} {g : Nat} (hg : g < 3) (hb : HB h) (hc : chkP ps = 0) (hp : okPt p = true) (hn : beyB ps p g = false) :
    FrOK (h g) (part ps p g) (whole ps) ∧ (-1073741824 ≤ h g * part ps p g / whole ps ∧ h g * part ps p g / whole ps ≤ 1073741824) := by
  have h1 := hb.b g hg
  have h2 := part_B g hc hp
  have h3 := whole_B hc
  unfold beyB at hn
  rw [decide_eq_false_iff_not] at hn
  have h4 : -(1024 * whole ps) ≤ part ps p g ∧ part ps p g ≤ 1024 * whole ps := by omega
  have m := mulB (A := 1048576) (B := 1024 * whole ps) (C := 1073741824 * whole ps) h1 h4 (by grind)
  refine ⟨⟨by omega, by omega, by omega, ?_⟩, ?_⟩
  · rw [ab_mul]
    split <;> omega
  · constructor
    · rw [Int.le_ediv_iff_mul_le h3.1]; omega
    · have : h g * part ps p g / whole ps < 1073741825 := by rw [Int.ediv_lt_iff_lt_mul h3.1]; omega
      omega
theorem fn77 (ps : List Sup) (h : Nat → Int) (p : Pt) (hc : chkP ps = 0) (hp : okPt p = true) (hb : HB h) : Sy.Fn Try.prog 77 [aDk ps, .agg (c3 h), .agg (cPt p)] (.tup [iv (if beyA ps p = true then 0 else htS h ps p 3), iv (if beyA ps p = true then 4 else 0)]) := by
  refine Fn_of_W mixed Xt77 rfl ?_
  have hw := whole_B hc
  repeat' (first | refine WK_go ?_ | refine W_seqL ?_ | refine W_seq ?_ | (refine W_regL ?_; simp (maxSteps := 400000) (disch := omega) only [push_cast, ↓reduceIte, reduceCtorEq, Nat.reduceAdd, Nat.reduceSub, Nat.reduceEqDiff, Nat.reduceLeDiff, Nat.reduceLT, Nat.reduceBEq, Nat.reduceDiv, Nat.reduceMod, Nat.reducePow, Nat.reduceMul, Int.reduceToNat, Int.reduceLT, Int.reduceLE]) | refine W_block ?_ | (refine W_skip ?_; simp (maxSteps := 400000) (disch := omega) only [push_cast, ↓reduceIte, reduceCtorEq, Nat.reduceAdd, Nat.reduceSub, Nat.reduceEqDiff, Nat.reduceLeDiff, Nat.reduceLT, Nat.reduceBEq, Nat.reduceDiv, Nat.reduceMod, Nat.reducePow, Nat.reduceMul, Int.reduceToNat, Int.reduceLT, Int.reduceLE]) | (refine W_exit ?_; simp (maxSteps := 400000) (disch := omega) only [push_cast, ↓reduceIte, reduceCtorEq, Nat.reduceAdd, Nat.reduceSub, Nat.reduceEqDiff, Nat.reduceLeDiff, Nat.reduceLT, Nat.reduceBEq, Nat.reduceDiv, Nat.reduceMod, Nat.reducePow, Nat.reduceMul, Int.reduceToNat, Int.reduceLT, Int.reduceLE]) | refine And.intro (by omega) ?_ | refine And.intro (by intro hq; (try simp only [Bool.and_eq_true, Bool.or_eq_true, Bool.and_eq_false_iff, Bool.or_eq_false_iff, decide_eq_true_eq, decide_eq_false_iff_not, Bool.not_eq_true', Bool.not_eq_false', beq_iff_eq, beq_eq_false_iff_ne, ne_eq] at hq); omega) ?_ | (refine CallC.now (fn60 ps p hc hp) ?_; simp (maxSteps := 400000) (disch := omega) only [push_cast, ↓reduceIte, reduceCtorEq, Nat.reduceAdd, Nat.reduceSub, Nat.reduceEqDiff, Nat.reduceLeDiff, Nat.reduceLT, Nat.reduceBEq, Nat.reduceDiv, Nat.reduceMod, Nat.reducePow, Nat.reduceMul, Int.reduceToNat, Int.reduceLT, Int.reduceLE]) | fail)
  refine W_loopU (fun k : Nat => [(6, iv (htS h ps p k)), (19, iv k)]) (fun k => []) (fun k => k ≤ 3 ∧ (∀ j, j < k → beyB ps p j = false) ∧ -(1073741824 * (k : Int)) ≤ htS h ps p k ∧ htS h ps p k ≤ 1073741824 * k) (fun k => 3 - k) 0 ⟨by omega, fun j hj => by omega, by simp only [htS]; omega⟩ (by rfl) (by rfl) (fun k hk => ?_)
  obtain ⟨hk, hno, hbd⟩ := hk
  simp (maxSteps := 400000) (disch := omega) only [push_cast, ↓reduceIte, reduceCtorEq, Nat.reduceAdd, Nat.reduceSub, Nat.reduceEqDiff, Nat.reduceLeDiff, Nat.reduceLT, Nat.reduceBEq, Nat.reduceDiv, Nat.reduceMod, Nat.reducePow, Nat.reduceMul, Int.reduceToNat, Int.reduceLT, Int.reduceLE]
  repeat' (first | refine WK_go ?_ | refine W_seqL ?_ | refine W_seq ?_ | (refine W_regL ?_; simp (maxSteps := 400000) (disch := omega) only [push_cast, ↓reduceIte, reduceCtorEq, Nat.reduceAdd, Nat.reduceSub, Nat.reduceEqDiff, Nat.reduceLeDiff, Nat.reduceLT, Nat.reduceBEq, Nat.reduceDiv, Nat.reduceMod, Nat.reducePow, Nat.reduceMul, Int.reduceToNat, Int.reduceLT, Int.reduceLE]) | refine W_block ?_ | (refine W_skip ?_; simp (maxSteps := 400000) (disch := omega) only [push_cast, ↓reduceIte, reduceCtorEq, Nat.reduceAdd, Nat.reduceSub, Nat.reduceEqDiff, Nat.reduceLeDiff, Nat.reduceLT, Nat.reduceBEq, Nat.reduceDiv, Nat.reduceMod, Nat.reducePow, Nat.reduceMul, Int.reduceToNat, Int.reduceLT, Int.reduceLE]) | (refine W_exit ?_; simp (maxSteps := 400000) (disch := omega) only [push_cast, ↓reduceIte, reduceCtorEq, Nat.reduceAdd, Nat.reduceSub, Nat.reduceEqDiff, Nat.reduceLeDiff, Nat.reduceLT, Nat.reduceBEq, Nat.reduceDiv, Nat.reduceMod, Nat.reducePow, Nat.reduceMul, Int.reduceToNat, Int.reduceLT, Int.reduceLE]) | refine And.intro (by omega) ?_ | refine And.intro (by intro hq; (try simp only [Bool.and_eq_true, Bool.or_eq_true, Bool.and_eq_false_iff, Bool.or_eq_false_iff, decide_eq_true_eq, decide_eq_false_iff_not, Bool.not_eq_true', Bool.not_eq_false', beq_iff_eq, beq_eq_false_iff_ne, ne_eq] at hq); omega) ?_ | fail)
  refine W_condD (by rfl) (fun h6 => ?_) (fun h6 => ?_)
  · have hk3 : k < 3 := by omega
    have hpb := part_B k hc hp
    have et : (max (part ps p k) (0 - part ps p k) + 1023).tdiv 1024 = (max (part ps p k) (0 - part ps p k) + 1023) / 1024 := Int.tdiv_eq_ediv_of_nonneg (by omega)
    repeat' (first | refine WK_go ?_ | refine W_seqL ?_ | refine W_seq ?_ | (refine W_regL ?_; simp (maxSteps := 400000) (disch := omega) only [push_cast, ↓reduceIte, reduceCtorEq, Nat.reduceAdd, Nat.reduceSub, Nat.reduceEqDiff, Nat.reduceLeDiff, Nat.reduceLT, Nat.reduceBEq, Nat.reduceDiv, Nat.reduceMod, Nat.reducePow, Nat.reduceMul, Int.reduceToNat, Int.reduceLT, Int.reduceLE, Nat.mul_one, et]) | refine W_block ?_ | (refine W_skip ?_; simp (maxSteps := 400000) (disch := omega) only [push_cast, ↓reduceIte, reduceCtorEq, Nat.reduceAdd, Nat.reduceSub, Nat.reduceEqDiff, Nat.reduceLeDiff, Nat.reduceLT, Nat.reduceBEq, Nat.reduceDiv, Nat.reduceMod, Nat.reducePow, Nat.reduceMul, Int.reduceToNat, Int.reduceLT, Int.reduceLE, Nat.mul_one, et]) | (refine W_exit ?_; simp (maxSteps := 400000) (disch := omega) only [push_cast, ↓reduceIte, reduceCtorEq, Nat.reduceAdd, Nat.reduceSub, Nat.reduceEqDiff, Nat.reduceLeDiff, Nat.reduceLT, Nat.reduceBEq, Nat.reduceDiv, Nat.reduceMod, Nat.reducePow, Nat.reduceMul, Int.reduceToNat, Int.reduceLT, Int.reduceLE, Nat.mul_one, et]) | refine And.intro (by omega) ?_ | refine And.intro (by intro hq; (try simp only [Bool.and_eq_true, Bool.or_eq_true, Bool.and_eq_false_iff, Bool.or_eq_false_iff, decide_eq_true_eq, decide_eq_false_iff_not, Bool.not_eq_true', Bool.not_eq_false', beq_iff_eq, beq_eq_false_iff_ne, ne_eq] at hq); omega) ?_ | fail)
    refine W_cond (by rfl) (fun hx => ?_) (fun hx => ?_)
    · have hA := beyA_any hk3 hx
      rw [if_pos hA, if_pos hA]
      repeat' (first | refine WK_go ?_ | refine W_seqL ?_ | refine W_seq ?_ | (refine W_regL ?_; simp (maxSteps := 400000) (disch := omega) only [push_cast, ↓reduceIte, reduceCtorEq, Nat.reduceAdd, Nat.reduceSub, Nat.reduceEqDiff, Nat.reduceLeDiff, Nat.reduceLT, Nat.reduceBEq, Nat.reduceDiv, Nat.reduceMod, Nat.reducePow, Nat.reduceMul, Int.reduceToNat, Int.reduceLT, Int.reduceLE]) | refine W_block ?_ | (refine W_skip ?_; simp (maxSteps := 400000) (disch := omega) only [push_cast, ↓reduceIte, reduceCtorEq, Nat.reduceAdd, Nat.reduceSub, Nat.reduceEqDiff, Nat.reduceLeDiff, Nat.reduceLT, Nat.reduceBEq, Nat.reduceDiv, Nat.reduceMod, Nat.reducePow, Nat.reduceMul, Int.reduceToNat, Int.reduceLT, Int.reduceLE]) | (refine W_exit ?_; simp (maxSteps := 400000) (disch := omega) only [push_cast, ↓reduceIte, reduceCtorEq, Nat.reduceAdd, Nat.reduceSub, Nat.reduceEqDiff, Nat.reduceLeDiff, Nat.reduceLT, Nat.reduceBEq, Nat.reduceDiv, Nat.reduceMod, Nat.reducePow, Nat.reduceMul, Int.reduceToNat, Int.reduceLT, Int.reduceLE]) | refine And.intro (by omega) ?_ | refine And.intro (by intro hq; (try simp only [Bool.and_eq_true, Bool.or_eq_true, Bool.and_eq_false_iff, Bool.or_eq_false_iff, decide_eq_true_eq, decide_eq_false_iff_not, Bool.not_eq_true', Bool.not_eq_false', beq_iff_eq, beq_eq_false_iff_ne, ne_eq] at hq); omega) ?_ | fail)
      exact W_ret ⟨[_, _], ⟨rfl, rfl, rfl⟩, rfl⟩
    · obtain ⟨hfr, hq⟩ := ht_frac hk3 hb hc hp hx
      have c94 := fn94 (h k) (part ps p k) (whole ps) hfr
      repeat' (first | refine WK_go ?_ | refine W_seqL ?_ | refine W_seq ?_ | (refine W_regL ?_; simp (maxSteps := 400000) (disch := omega) only [push_cast, ↓reduceIte, reduceCtorEq, Nat.reduceAdd, Nat.reduceSub, Nat.reduceEqDiff, Nat.reduceLeDiff, Nat.reduceLT, Nat.reduceBEq, Nat.reduceDiv, Nat.reduceMod, Nat.reducePow, Nat.reduceMul, Int.reduceToNat, Int.reduceLT, Int.reduceLE, Nat.mul_one]) | refine W_block ?_ | (refine W_skip ?_; simp (maxSteps := 400000) (disch := omega) only [push_cast, ↓reduceIte, reduceCtorEq, Nat.reduceAdd, Nat.reduceSub, Nat.reduceEqDiff, Nat.reduceLeDiff, Nat.reduceLT, Nat.reduceBEq, Nat.reduceDiv, Nat.reduceMod, Nat.reducePow, Nat.reduceMul, Int.reduceToNat, Int.reduceLT, Int.reduceLE, Nat.mul_one]) | (refine W_exit ?_; simp (maxSteps := 400000) (disch := omega) only [push_cast, ↓reduceIte, reduceCtorEq, Nat.reduceAdd, Nat.reduceSub, Nat.reduceEqDiff, Nat.reduceLeDiff, Nat.reduceLT, Nat.reduceBEq, Nat.reduceDiv, Nat.reduceMod, Nat.reducePow, Nat.reduceMul, Int.reduceToNat, Int.reduceLT, Int.reduceLE, Nat.mul_one]) | refine And.intro (by omega) ?_ | refine And.intro (by intro hq; (try simp only [Bool.and_eq_true, Bool.or_eq_true, Bool.and_eq_false_iff, Bool.or_eq_false_iff, decide_eq_true_eq, decide_eq_false_iff_not, Bool.not_eq_true', Bool.not_eq_false', beq_iff_eq, beq_eq_false_iff_ne, ne_eq] at hq); omega) ?_ | (refine CallC.now (c94) ?_; simp (maxSteps := 400000) (disch := omega) only [push_cast, ↓reduceIte, reduceCtorEq, Nat.reduceAdd, Nat.reduceSub, Nat.reduceEqDiff, Nat.reduceLeDiff, Nat.reduceLT, Nat.reduceBEq, Nat.reduceDiv, Nat.reduceMod, Nat.reducePow, Nat.reduceMul, Int.reduceToNat, Int.reduceLT, Int.reduceLE, Nat.mul_one]) | fail)
      refine ⟨k + 1, ⟨by omega, up_all hno hx, by simp only [htS]; omega⟩, by omega, by rfl, ?_⟩
      simp only [htS]
      simp (maxSteps := 400000) (disch := omega) only [push_cast, ↓reduceIte, reduceCtorEq, Nat.reduceAdd, Nat.reduceSub, Nat.reduceEqDiff, Nat.reduceLeDiff, Nat.reduceLT, Nat.reduceBEq, Nat.reduceDiv, Nat.reduceMod, Nat.reducePow, Nat.reduceMul, Int.reduceToNat, Int.reduceLT, Int.reduceLE, S.mk.injEq, List.cons.injEq, Prod.mk.injEq, AV.v.injEq, Value.int.injEq, Value.bool.injEq, Blk.cells.injEq]
  · obtain rfl : k = 3 := by omega
    have hA := beyA_none hno
    rw [hA, if_neg (by decide), if_neg (by decide)]
    repeat' (first | refine WK_go ?_ | refine W_seqL ?_ | refine W_seq ?_ | (refine W_regL ?_; simp (maxSteps := 400000) (disch := omega) only [push_cast, ↓reduceIte, reduceCtorEq, Nat.reduceAdd, Nat.reduceSub, Nat.reduceEqDiff, Nat.reduceLeDiff, Nat.reduceLT, Nat.reduceBEq, Nat.reduceDiv, Nat.reduceMod, Nat.reducePow, Nat.reduceMul, Int.reduceToNat, Int.reduceLT, Int.reduceLE]) | refine W_block ?_ | (refine W_skip ?_; simp (maxSteps := 400000) (disch := omega) only [push_cast, ↓reduceIte, reduceCtorEq, Nat.reduceAdd, Nat.reduceSub, Nat.reduceEqDiff, Nat.reduceLeDiff, Nat.reduceLT, Nat.reduceBEq, Nat.reduceDiv, Nat.reduceMod, Nat.reducePow, Nat.reduceMul, Int.reduceToNat, Int.reduceLT, Int.reduceLE]) | (refine W_exit ?_; simp (maxSteps := 400000) (disch := omega) only [push_cast, ↓reduceIte, reduceCtorEq, Nat.reduceAdd, Nat.reduceSub, Nat.reduceEqDiff, Nat.reduceLeDiff, Nat.reduceLT, Nat.reduceBEq, Nat.reduceDiv, Nat.reduceMod, Nat.reducePow, Nat.reduceMul, Int.reduceToNat, Int.reduceLT, Int.reduceLE]) | refine And.intro (by omega) ?_ | refine And.intro (by intro hq; (try simp only [Bool.and_eq_true, Bool.or_eq_true, Bool.and_eq_false_iff, Bool.or_eq_false_iff, decide_eq_true_eq, decide_eq_false_iff_not, Bool.not_eq_true', Bool.not_eq_false', beq_iff_eq, beq_eq_false_iff_ne, ne_eq] at hq); omega) ?_ | fail)
    exact W_ret ⟨[_, _], ⟨rfl, rfl, rfl⟩, rfl⟩
noncomputable def hE (ps : List Sup) (fl : Nat → Int) (gr : List Int) (p : Pt) : Int := if gE ps fl gr = 0 then (if okPt p = true then (if beyA ps p = true then 4 else 0) else 3) else gE ps fl gr
noncomputable def hV (ps : List Sup) (fl : Nat → Int) (gr : List Int) (p : Pt) : Int := if gE ps fl gr = 0 ∧ okPt p = true ∧ beyA ps p = false then htS (gS ps fl gr ps.length) ps p 3 else 0
end Go.Proofs.Ytfkjdjlcaojedaa

/- Feet, wind, tilts. -/
namespace Go.Proofs.Ytfkjdjlcaojedaa
open Go Sy
set_option maxRecDepth 100000
set_option maxHeartbeats 4000000
set_option linter.unusedVariables false
set_option linter.unusedSimpArgs false
structure Ctr where
  x : Int
  y : Int
  z : Int
end Go.Proofs.Ytfkjdjlcaojedaa

/- Tilts; StaticsFeet. -/
namespace Go.Proofs.Ytfkjdjlcaojedaa
open Go Sy
set_option maxRecDepth 100000
set_option maxHeartbeats 4000000
set_option linter.unusedVariables false
set_option linter.unusedSimpArgs false
theorem range_getD (n i : Nat) (h : i < n) : (List.range n).getD i 0 = i := by simp [List.getD, h]
theorem idxF_range {p : Nat → Bool} {n i : Nat} (hi : i < n) (h : ∀ j, j < i → p j = false) (hp : p i = true) : idxF p (List.range n) 0 = i := by
  rw [idxF_at p 0 (List.range n) i 0 (by simpa using hi) (fun j hj => by rw [range_getD _ _ (by omega)]; exact h j hj) (by rw [range_getD _ _ hi]; exact hp)]
  omega
theorem idxF_range_no {p : Nat → Bool} {n : Nat} (h : ∀ j, j < n → p j = false) : idxF p (List.range n) 0 = -1 :=
  idxF_none p 0 _ 0 (fun j hj => by rw [range_getD _ _ (by simpa using hj)]; exact h j (by simpa using hj))
end Go.Proofs.Ytfkjdjlcaojedaa

/- Strokes; the reference's heights and strokes; StaticsGround. -/
namespace Go.Proofs.Ytfkjdjlcaojedaa
open Go Sy
set_option maxRecDepth 100000
set_option maxHeartbeats 4000000
set_option linter.unusedVariables false
set_option linter.unusedSimpArgs false
def ptS (ps : List Sup) (i : Nat) : Pt := ⟨(sp ps i).x, (sp ps i).y⟩
def stV (ps : List Sup) (fl : Nat → Int) (gr : List Int) (i : Nat) : Int := htS (gS ps fl gr ps.length) ps (ptS ps i) 3 - gr.getD i 0
def stX (ps : List Sup) (fl : Nat → Int) (gr : List Int) (i : Nat) : Int := if beyA ps (ptS ps i) = true then 4 else if inR (stV ps fl gr i) (sp ps i).least (sp ps i).most = false then 14 else 0
def skI (ps : List Sup) (fl : Nat → Int) (gr : List Int) : Int := idxF (fun i => stX ps fl gr i != 0) (List.range ps.length) 0
noncomputable def skE (ps : List Sup) (fl : Nat → Int) (gr : List Int) : Int := if gE ps fl gr = 0 then (if skI ps fl gr < 0 then 0 else stX ps fl gr (skI ps fl gr).toNat) else gE ps fl gr
noncomputable def skL (ps : List Sup) (fl : Nat → Int) (gr : List Int) : List Int := if skE ps fl gr = 0 then (List.range ps.length).map (stV ps fl gr) else []
theorem skE_at {ps : List Sup} {fl : Nat → Int} {gr : List Int} (h : gE ps fl gr = 0) {i : Nat} (hi : i < ps.length) (hno : ∀ j, j < i → (stX ps fl gr j != 0) = false) (hx : stX ps fl gr i ≠ 0) : skE ps fl gr = stX ps fl gr i ∧ skL ps fl gr = [] := by
  have e : skI ps fl gr = i := idxF_range hi hno (by simpa using hx)
  have e2 : skE ps fl gr = stX ps fl gr i := by unfold skE; rw [if_pos h, e, if_neg (by omega), Int.toNat_natCast]
  refine ⟨e2, ?_⟩
  unfold skL
  rw [e2, if_neg hx]
theorem skE_none {ps : List Sup} {fl : Nat → Int} {gr : List Int} (h : gE ps fl gr = 0) (hno : ∀ j, j < ps.length → (stX ps fl gr j != 0) = false) : skE ps fl gr = 0 ∧ skL ps fl gr = (List.range ps.length).map (stV ps fl gr) := by
  have e : skI ps fl gr = -1 := idxF_range_no hno
  have e2 : skE ps fl gr = 0 := by unfold skE; rw [if_pos h, e, if_pos (by decide)]
  refine ⟨e2, ?_⟩
  unfold skL
  rw [e2, if_pos rfl]
theorem skE_bad {ps : List Sup} {fl : Nat → Int} {gr : List Int} (h : ¬ gE ps fl gr = 0) : skE ps fl gr = gE ps fl gr ∧ skL ps fl gr = [] := by
  have e2 : skE ps fl gr = gE ps fl gr := by unfold skE; rw [if_neg h]
  refine ⟨e2, ?_⟩
  unfold skL
  rw [e2, if_neg h]
theorem ptS_ok {ps : List Sup} {i : Nat} (h : supB (sp ps i) = true) : okPt (ptS ps i) = true := by
  have := supB_iff.1 h
  rw [okPt_iff]; simp only [ptS]; omega
theorem htS_B {h : Nat → Int} {ps : List Sup} {p : Pt} (hb : HB h) (hc : chkP ps = 0) (hp : okPt p = true) (hA : beyA ps p = false) : ∀ k : Nat, k ≤ 3 → -(1073741824 * (k : Int)) ≤ htS h ps p k ∧ htS h ps p k ≤ 1073741824 * k
  | 0, _ => by simp only [htS]; omega
  | k + 1, hk => by
    have ih := htS_B hb hc hp hA k (by omega)
    have hx : beyB ps p k = false := by
      rw [← Bool.not_eq_true]
      intro q
      rw [beyA_any (by omega) q] at hA; cases hA
    have := (ht_frac (g := k) (by omega) hb hc hp hx).2
    simp only [htS]; omega
theorem range_map_succ {α : Type} (f : Nat → α) (n : Nat) : (List.range (n + 1)).map f = (List.range n).map f ++ [f n] := by simp [List.range_succ]
/-- Strokes -/
theorem fn38 (ps : List Sup) (fl : Nat → Int) (gr : List Int) (hl : ps.length ≤ 140737488355328) (hl2 : gr.length ≤ 140737488355328) : Sy.Fn Try.prog 38 [aP ps, .agg (c3 fl), aG gr] (.tup [aG (skL ps fl gr), iv (skE ps fl gr)]) := by
  refine Fn_of_W mixed Xt38 rfl ?_
  by_cases h : gE ps fl gr = 0
  case neg =>
    obtain ⟨e1, e2⟩ := skE_bad h
    rw [e1, e2]
    repeat' (first | refine WK_go ?_ | refine W_seqL ?_ | refine W_seq ?_ | (refine W_regL ?_; simp (maxSteps := 400000) (disch := omega) only [push_cast, ↓reduceIte, reduceCtorEq, Nat.reduceAdd, Nat.reduceSub, Nat.reduceEqDiff, Nat.reduceLeDiff, Nat.reduceLT, Nat.reduceBEq, Nat.reduceDiv, Nat.reduceMod, Nat.reducePow, Nat.reduceMul, Int.reduceToNat, Int.reduceLT, Int.reduceLE]) | refine W_block ?_ | (refine W_skip ?_; simp (maxSteps := 400000) (disch := omega) only [push_cast, ↓reduceIte, reduceCtorEq, Nat.reduceAdd, Nat.reduceSub, Nat.reduceEqDiff, Nat.reduceLeDiff, Nat.reduceLT, Nat.reduceBEq, Nat.reduceDiv, Nat.reduceMod, Nat.reducePow, Nat.reduceMul, Int.reduceToNat, Int.reduceLT, Int.reduceLE]) | (refine W_exit ?_; simp (maxSteps := 400000) (disch := omega) only [push_cast, ↓reduceIte, reduceCtorEq, Nat.reduceAdd, Nat.reduceSub, Nat.reduceEqDiff, Nat.reduceLeDiff, Nat.reduceLT, Nat.reduceBEq, Nat.reduceDiv, Nat.reduceMod, Nat.reducePow, Nat.reduceMul, Int.reduceToNat, Int.reduceLT, Int.reduceLE]) | refine And.intro (by omega) ?_ | refine And.intro (by intro hq; (try simp only [Bool.and_eq_true, Bool.or_eq_true, Bool.and_eq_false_iff, Bool.or_eq_false_iff, decide_eq_true_eq, decide_eq_false_iff_not, Bool.not_eq_true', Bool.not_eq_false', beq_iff_eq, beq_eq_false_iff_ne, ne_eq] at hq); omega) ?_ | (refine CallC.now (c76n ps fl gr hl hl2 h) ?_; simp (maxSteps := 400000) (disch := omega) only [push_cast, ↓reduceIte, reduceCtorEq, Nat.reduceAdd, Nat.reduceSub, Nat.reduceEqDiff, Nat.reduceLeDiff, Nat.reduceLT, Nat.reduceBEq, Nat.reduceDiv, Nat.reduceMod, Nat.reducePow, Nat.reduceMul, Int.reduceToNat, Int.reduceLT, Int.reduceLE]) | fail)
    refine W_cond (by rfl) (fun _ => ?_) (fun h1 => by simp [h] at h1)
    repeat' (first | refine WK_go ?_ | refine W_seqL ?_ | refine W_seq ?_ | (refine W_regL ?_; simp (maxSteps := 400000) (disch := omega) only [push_cast, ↓reduceIte, reduceCtorEq, Nat.reduceAdd, Nat.reduceSub, Nat.reduceEqDiff, Nat.reduceLeDiff, Nat.reduceLT, Nat.reduceBEq, Nat.reduceDiv, Nat.reduceMod, Nat.reducePow, Nat.reduceMul, Int.reduceToNat, Int.reduceLT, Int.reduceLE]) | refine W_block ?_ | (refine W_skip ?_; simp (maxSteps := 400000) (disch := omega) only [push_cast, ↓reduceIte, reduceCtorEq, Nat.reduceAdd, Nat.reduceSub, Nat.reduceEqDiff, Nat.reduceLeDiff, Nat.reduceLT, Nat.reduceBEq, Nat.reduceDiv, Nat.reduceMod, Nat.reducePow, Nat.reduceMul, Int.reduceToNat, Int.reduceLT, Int.reduceLE]) | (refine W_exit ?_; simp (maxSteps := 400000) (disch := omega) only [push_cast, ↓reduceIte, reduceCtorEq, Nat.reduceAdd, Nat.reduceSub, Nat.reduceEqDiff, Nat.reduceLeDiff, Nat.reduceLT, Nat.reduceBEq, Nat.reduceDiv, Nat.reduceMod, Nat.reducePow, Nat.reduceMul, Int.reduceToNat, Int.reduceLT, Int.reduceLE]) | refine And.intro (by omega) ?_ | refine And.intro (by intro hq; (try simp only [Bool.and_eq_true, Bool.or_eq_true, Bool.and_eq_false_iff, Bool.or_eq_false_iff, decide_eq_true_eq, decide_eq_false_iff_not, Bool.not_eq_true', Bool.not_eq_false', beq_iff_eq, beq_eq_false_iff_ne, ne_eq] at hq); omega) ?_ | fail)
    refine W_le (le_nil 6 1 0 cI rfl) ?_
    exact W_ret ⟨[_, _], ⟨rfl, rfl, rfl⟩, rfl⟩
  have hG := gE_ok h
  obtain ⟨hlen, hok, _⟩ := chkP_ok hG.ch
  have hHB := gS_HB hG
  have hgl := hG.len
  repeat' (first | refine WK_go ?_ | refine W_seqL ?_ | refine W_seq ?_ | (refine W_regL ?_; simp (maxSteps := 400000) (disch := omega) only [push_cast, ↓reduceIte, reduceCtorEq, Nat.reduceAdd, Nat.reduceSub, Nat.reduceEqDiff, Nat.reduceLeDiff, Nat.reduceLT, Nat.reduceBEq, Nat.reduceDiv, Nat.reduceMod, Nat.reducePow, Nat.reduceMul, Int.reduceToNat, Int.reduceLT, Int.reduceLE]) | refine W_block ?_ | (refine W_skip ?_; simp (maxSteps := 400000) (disch := omega) only [push_cast, ↓reduceIte, reduceCtorEq, Nat.reduceAdd, Nat.reduceSub, Nat.reduceEqDiff, Nat.reduceLeDiff, Nat.reduceLT, Nat.reduceBEq, Nat.reduceDiv, Nat.reduceMod, Nat.reducePow, Nat.reduceMul, Int.reduceToNat, Int.reduceLT, Int.reduceLE]) | (refine W_exit ?_; simp (maxSteps := 400000) (disch := omega) only [push_cast, ↓reduceIte, reduceCtorEq, Nat.reduceAdd, Nat.reduceSub, Nat.reduceEqDiff, Nat.reduceLeDiff, Nat.reduceLT, Nat.reduceBEq, Nat.reduceDiv, Nat.reduceMod, Nat.reducePow, Nat.reduceMul, Int.reduceToNat, Int.reduceLT, Int.reduceLE]) | refine And.intro (by omega) ?_ | refine And.intro (by intro hq; (try simp only [Bool.and_eq_true, Bool.or_eq_true, Bool.and_eq_false_iff, Bool.or_eq_false_iff, decide_eq_true_eq, decide_eq_false_iff_not, Bool.not_eq_true', Bool.not_eq_false', beq_iff_eq, beq_eq_false_iff_ne, ne_eq] at hq); omega) ?_ | (refine CallC.now (c76 ps fl gr hl hl2 h) ?_; simp (maxSteps := 400000) (disch := omega) only [push_cast, ↓reduceIte, reduceCtorEq, Nat.reduceAdd, Nat.reduceSub, Nat.reduceEqDiff, Nat.reduceLeDiff, Nat.reduceLT, Nat.reduceBEq, Nat.reduceDiv, Nat.reduceMod, Nat.reducePow, Nat.reduceMul, Int.reduceToNat, Int.reduceLT, Int.reduceLE]) | fail)
  refine W_cond (by rfl) (fun h => by cases h) (fun _ => ?_)
  repeat' (first | refine WK_go ?_ | refine W_seqL ?_ | refine W_seq ?_ | (refine W_regL ?_; simp (maxSteps := 400000) (disch := omega) only [push_cast, ↓reduceIte, reduceCtorEq, Nat.reduceAdd, Nat.reduceSub, Nat.reduceEqDiff, Nat.reduceLeDiff, Nat.reduceLT, Nat.reduceBEq, Nat.reduceDiv, Nat.reduceMod, Nat.reducePow, Nat.reduceMul, Int.reduceToNat, Int.reduceLT, Int.reduceLE]) | refine W_block ?_ | (refine W_skip ?_; simp (maxSteps := 400000) (disch := omega) only [push_cast, ↓reduceIte, reduceCtorEq, Nat.reduceAdd, Nat.reduceSub, Nat.reduceEqDiff, Nat.reduceLeDiff, Nat.reduceLT, Nat.reduceBEq, Nat.reduceDiv, Nat.reduceMod, Nat.reducePow, Nat.reduceMul, Int.reduceToNat, Int.reduceLT, Int.reduceLE]) | (refine W_exit ?_; simp (maxSteps := 400000) (disch := omega) only [push_cast, ↓reduceIte, reduceCtorEq, Nat.reduceAdd, Nat.reduceSub, Nat.reduceEqDiff, Nat.reduceLeDiff, Nat.reduceLT, Nat.reduceBEq, Nat.reduceDiv, Nat.reduceMod, Nat.reducePow, Nat.reduceMul, Int.reduceToNat, Int.reduceLT, Int.reduceLE]) | refine And.intro (by omega) ?_ | refine And.intro (by intro hq; (try simp only [Bool.and_eq_true, Bool.or_eq_true, Bool.and_eq_false_iff, Bool.or_eq_false_iff, decide_eq_true_eq, decide_eq_false_iff_not, Bool.not_eq_true', Bool.not_eq_false', beq_iff_eq, beq_eq_false_iff_ne, ne_eq] at hq); omega) ?_ | fail)
  refine W_le (le_adopt 11 2 1 (0 : Int) cI (by omega) rfl) ?_
  simp (maxSteps := 400000) (disch := omega) only [push_cast, ↓reduceIte, reduceCtorEq, Nat.reduceAdd, Nat.reduceSub, Nat.reduceEqDiff, Nat.reduceLeDiff, Nat.reduceLT, Nat.reduceBEq, Nat.reduceDiv, Nat.reduceMod, Nat.reducePow, Nat.reduceMul, Int.reduceToNat, Int.reduceLT, Int.reduceLE]
  refine W_loopU (fun i : Nat => [(11, .row 21 i), (30, iv i)]) (fun i => [(21, .row i 2 1 0 cI ((List.range i).map (stV ps fl gr)))]) (fun i => i ≤ ps.length ∧ ∀ j, j < i → (stX ps fl gr j != 0) = false) (fun i => ps.length - i) 0 ⟨by omega, fun j hj => by omega⟩ (by rfl) (by rfl) (fun i hi => ?_)
  obtain ⟨hi, hno⟩ := hi
  simp (maxSteps := 400000) (disch := omega) only [push_cast, ↓reduceIte, reduceCtorEq, Nat.reduceAdd, Nat.reduceSub, Nat.reduceEqDiff, Nat.reduceLeDiff, Nat.reduceLT, Nat.reduceBEq, Nat.reduceDiv, Nat.reduceMod, Nat.reducePow, Nat.reduceMul, Int.reduceToNat, Int.reduceLT, Int.reduceLE]
  repeat' (first | refine WK_go ?_ | refine W_seqL ?_ | refine W_seq ?_ | (refine W_regL ?_; simp (maxSteps := 400000) (disch := omega) only [push_cast, ↓reduceIte, reduceCtorEq, Nat.reduceAdd, Nat.reduceSub, Nat.reduceEqDiff, Nat.reduceLeDiff, Nat.reduceLT, Nat.reduceBEq, Nat.reduceDiv, Nat.reduceMod, Nat.reducePow, Nat.reduceMul, Int.reduceToNat, Int.reduceLT, Int.reduceLE]) | refine W_block ?_ | (refine W_skip ?_; simp (maxSteps := 400000) (disch := omega) only [push_cast, ↓reduceIte, reduceCtorEq, Nat.reduceAdd, Nat.reduceSub, Nat.reduceEqDiff, Nat.reduceLeDiff, Nat.reduceLT, Nat.reduceBEq, Nat.reduceDiv, Nat.reduceMod, Nat.reducePow, Nat.reduceMul, Int.reduceToNat, Int.reduceLT, Int.reduceLE]) | (refine W_exit ?_; simp (maxSteps := 400000) (disch := omega) only [push_cast, ↓reduceIte, reduceCtorEq, Nat.reduceAdd, Nat.reduceSub, Nat.reduceEqDiff, Nat.reduceLeDiff, Nat.reduceLT, Nat.reduceBEq, Nat.reduceDiv, Nat.reduceMod, Nat.reducePow, Nat.reduceMul, Int.reduceToNat, Int.reduceLT, Int.reduceLE]) | refine And.intro (by omega) ?_ | refine And.intro (by intro hq; (try simp only [Bool.and_eq_true, Bool.or_eq_true, Bool.and_eq_false_iff, Bool.or_eq_false_iff, decide_eq_true_eq, decide_eq_false_iff_not, Bool.not_eq_true', Bool.not_eq_false', beq_iff_eq, beq_eq_false_iff_ne, ne_eq] at hq); omega) ?_ | fail)
  refine W_condD (by rfl) (fun h7 => ?_) (fun h7 => ?_)
  · have hlt : i < ps.length := by omega
    have hsp : ps.getD i dS = sp ps i := rfl
    have hsb := hok i hlt
    have hpt := ptS_ok hsb
    have hsg := supB_iff.1 hsb
    have hhi := inR_iff.1 (hG.hh i (by omega))
    have c77 := fn77 ps (gS ps fl gr ps.length) (ptS ps i) hG.ch hpt hHB
    have hrl : ((List.range i).map (stV ps fl gr)).length = i := by simp
    have hrs := range_map_succ (stV ps fl gr) i
    by_cases hA : beyA ps (ptS ps i) = true
    · have hx : stX ps fl gr i = 4 := by unfold stX; rw [if_pos hA]
      obtain ⟨e1, e2⟩ := skE_at h hlt hno (by omega)
      rw [e1, e2, hx]
      rw [if_pos hA, if_pos hA] at c77
      repeat' (first | refine WK_go ?_ | refine W_seqL ?_ | refine W_seq ?_ | (refine W_regL ?_; simp (maxSteps := 400000) (disch := omega) only [push_cast, ↓reduceIte, reduceCtorEq, Nat.reduceAdd, Nat.reduceSub, Nat.reduceEqDiff, Nat.reduceLeDiff, Nat.reduceLT, Nat.reduceBEq, Nat.reduceDiv, Nat.reduceMod, Nat.reducePow, Nat.reduceMul, Int.reduceToNat, Int.reduceLT, Int.reduceLE, hsp]) | refine W_block ?_ | (refine W_skip ?_; simp (maxSteps := 400000) (disch := omega) only [push_cast, ↓reduceIte, reduceCtorEq, Nat.reduceAdd, Nat.reduceSub, Nat.reduceEqDiff, Nat.reduceLeDiff, Nat.reduceLT, Nat.reduceBEq, Nat.reduceDiv, Nat.reduceMod, Nat.reducePow, Nat.reduceMul, Int.reduceToNat, Int.reduceLT, Int.reduceLE, hsp]) | (refine W_exit ?_; simp (maxSteps := 400000) (disch := omega) only [push_cast, ↓reduceIte, reduceCtorEq, Nat.reduceAdd, Nat.reduceSub, Nat.reduceEqDiff, Nat.reduceLeDiff, Nat.reduceLT, Nat.reduceBEq, Nat.reduceDiv, Nat.reduceMod, Nat.reducePow, Nat.reduceMul, Int.reduceToNat, Int.reduceLT, Int.reduceLE, hsp]) | refine And.intro (by omega) ?_ | refine And.intro (by intro hq; (try simp only [Bool.and_eq_true, Bool.or_eq_true, Bool.and_eq_false_iff, Bool.or_eq_false_iff, decide_eq_true_eq, decide_eq_false_iff_not, Bool.not_eq_true', Bool.not_eq_false', beq_iff_eq, beq_eq_false_iff_ne, ne_eq] at hq); omega) ?_ | (refine CallC.now (c77) ?_; simp (maxSteps := 400000) (disch := omega) only [push_cast, ↓reduceIte, reduceCtorEq, Nat.reduceAdd, Nat.reduceSub, Nat.reduceEqDiff, Nat.reduceLeDiff, Nat.reduceLT, Nat.reduceBEq, Nat.reduceDiv, Nat.reduceMod, Nat.reducePow, Nat.reduceMul, Int.reduceToNat, Int.reduceLT, Int.reduceLE, hsp]) | fail)
      refine W_cond (by rfl) (fun _ => ?_) (fun q => by cases q)
      repeat' (first | refine WK_go ?_ | refine W_seqL ?_ | refine W_seq ?_ | (refine W_regL ?_; simp (maxSteps := 400000) (disch := omega) only [push_cast, ↓reduceIte, reduceCtorEq, Nat.reduceAdd, Nat.reduceSub, Nat.reduceEqDiff, Nat.reduceLeDiff, Nat.reduceLT, Nat.reduceBEq, Nat.reduceDiv, Nat.reduceMod, Nat.reducePow, Nat.reduceMul, Int.reduceToNat, Int.reduceLT, Int.reduceLE]) | refine W_block ?_ | (refine W_skip ?_; simp (maxSteps := 400000) (disch := omega) only [push_cast, ↓reduceIte, reduceCtorEq, Nat.reduceAdd, Nat.reduceSub, Nat.reduceEqDiff, Nat.reduceLeDiff, Nat.reduceLT, Nat.reduceBEq, Nat.reduceDiv, Nat.reduceMod, Nat.reducePow, Nat.reduceMul, Int.reduceToNat, Int.reduceLT, Int.reduceLE]) | (refine W_exit ?_; simp (maxSteps := 400000) (disch := omega) only [push_cast, ↓reduceIte, reduceCtorEq, Nat.reduceAdd, Nat.reduceSub, Nat.reduceEqDiff, Nat.reduceLeDiff, Nat.reduceLT, Nat.reduceBEq, Nat.reduceDiv, Nat.reduceMod, Nat.reducePow, Nat.reduceMul, Int.reduceToNat, Int.reduceLT, Int.reduceLE]) | refine And.intro (by omega) ?_ | refine And.intro (by intro hq; (try simp only [Bool.and_eq_true, Bool.or_eq_true, Bool.and_eq_false_iff, Bool.or_eq_false_iff, decide_eq_true_eq, decide_eq_false_iff_not, Bool.not_eq_true', Bool.not_eq_false', beq_iff_eq, beq_eq_false_iff_ne, ne_eq] at hq); omega) ?_ | fail)
      refine W_le (le_nil 6 1 0 cI rfl) ?_
      exact W_ret ⟨[_, _], ⟨rfl, rfl, rfl⟩, rfl⟩
    have hA' : beyA ps (ptS ps i) = false := by simpa using hA
    have hbd := htS_B hHB hG.ch hpt hA' 3 (Nat.le_refl _)
    rw [if_neg hA, if_neg hA] at c77
    repeat' (first | refine WK_go ?_ | refine W_seqL ?_ | refine W_seq ?_ | (refine W_regL ?_; simp (maxSteps := 400000) (disch := omega) only [push_cast, ↓reduceIte, reduceCtorEq, Nat.reduceAdd, Nat.reduceSub, Nat.reduceEqDiff, Nat.reduceLeDiff, Nat.reduceLT, Nat.reduceBEq, Nat.reduceDiv, Nat.reduceMod, Nat.reducePow, Nat.reduceMul, Int.reduceToNat, Int.reduceLT, Int.reduceLE, hsp]) | refine W_block ?_ | (refine W_skip ?_; simp (maxSteps := 400000) (disch := omega) only [push_cast, ↓reduceIte, reduceCtorEq, Nat.reduceAdd, Nat.reduceSub, Nat.reduceEqDiff, Nat.reduceLeDiff, Nat.reduceLT, Nat.reduceBEq, Nat.reduceDiv, Nat.reduceMod, Nat.reducePow, Nat.reduceMul, Int.reduceToNat, Int.reduceLT, Int.reduceLE, hsp]) | (refine W_exit ?_; simp (maxSteps := 400000) (disch := omega) only [push_cast, ↓reduceIte, reduceCtorEq, Nat.reduceAdd, Nat.reduceSub, Nat.reduceEqDiff, Nat.reduceLeDiff, Nat.reduceLT, Nat.reduceBEq, Nat.reduceDiv, Nat.reduceMod, Nat.reducePow, Nat.reduceMul, Int.reduceToNat, Int.reduceLT, Int.reduceLE, hsp]) | refine And.intro (by omega) ?_ | refine And.intro (by intro hq; (try simp only [Bool.and_eq_true, Bool.or_eq_true, Bool.and_eq_false_iff, Bool.or_eq_false_iff, decide_eq_true_eq, decide_eq_false_iff_not, Bool.not_eq_true', Bool.not_eq_false', beq_iff_eq, beq_eq_false_iff_ne, ne_eq] at hq); omega) ?_ | (refine CallC.now (c77) ?_; simp (maxSteps := 400000) (disch := omega) only [push_cast, ↓reduceIte, reduceCtorEq, Nat.reduceAdd, Nat.reduceSub, Nat.reduceEqDiff, Nat.reduceLeDiff, Nat.reduceLT, Nat.reduceBEq, Nat.reduceDiv, Nat.reduceMod, Nat.reducePow, Nat.reduceMul, Int.reduceToNat, Int.reduceLT, Int.reduceLE, hsp]) | fail)
    refine W_cond (by rfl) (fun q => by cases q) (fun _ => ?_)
    have est : htS (gS ps fl gr ps.length) ps (ptS ps i) 3 - gr.getD i 0 = stV ps fl gr i := rfl
    repeat' (first | refine WK_go ?_ | refine W_seqL ?_ | refine W_seq ?_ | (refine W_regL ?_; simp (maxSteps := 400000) (disch := omega) only [push_cast, ↓reduceIte, reduceCtorEq, Nat.reduceAdd, Nat.reduceSub, Nat.reduceEqDiff, Nat.reduceLeDiff, Nat.reduceLT, Nat.reduceBEq, Nat.reduceDiv, Nat.reduceMod, Nat.reducePow, Nat.reduceMul, Int.reduceToNat, Int.reduceLT, Int.reduceLE, hsp, est]) | refine W_block ?_ | (refine W_skip ?_; simp (maxSteps := 400000) (disch := omega) only [push_cast, ↓reduceIte, reduceCtorEq, Nat.reduceAdd, Nat.reduceSub, Nat.reduceEqDiff, Nat.reduceLeDiff, Nat.reduceLT, Nat.reduceBEq, Nat.reduceDiv, Nat.reduceMod, Nat.reducePow, Nat.reduceMul, Int.reduceToNat, Int.reduceLT, Int.reduceLE, hsp, est]) | (refine W_exit ?_; simp (maxSteps := 400000) (disch := omega) only [push_cast, ↓reduceIte, reduceCtorEq, Nat.reduceAdd, Nat.reduceSub, Nat.reduceEqDiff, Nat.reduceLeDiff, Nat.reduceLT, Nat.reduceBEq, Nat.reduceDiv, Nat.reduceMod, Nat.reducePow, Nat.reduceMul, Int.reduceToNat, Int.reduceLT, Int.reduceLE, hsp, est]) | refine And.intro (by omega) ?_ | refine And.intro (by intro hq; (try simp only [Bool.and_eq_true, Bool.or_eq_true, Bool.and_eq_false_iff, Bool.or_eq_false_iff, decide_eq_true_eq, decide_eq_false_iff_not, Bool.not_eq_true', Bool.not_eq_false', beq_iff_eq, beq_eq_false_iff_ne, ne_eq] at hq); omega) ?_ | (refine CallC.now (fn53 _ _ _) ?_; simp (maxSteps := 400000) (disch := omega) only [push_cast, ↓reduceIte, reduceCtorEq, Nat.reduceAdd, Nat.reduceSub, Nat.reduceEqDiff, Nat.reduceLeDiff, Nat.reduceLT, Nat.reduceBEq, Nat.reduceDiv, Nat.reduceMod, Nat.reducePow, Nat.reduceMul, Int.reduceToNat, Int.reduceLT, Int.reduceLE, hsp, est]) | fail)
    refine W_cond (by rfl) (fun hb => ?_) (fun hb => ?_)
    · have hx : stX ps fl gr i = 14 := by unfold stX; rw [if_neg hA, if_pos (by simpa using hb)]
      obtain ⟨e1, e2⟩ := skE_at h hlt hno (by omega)
      rw [e1, e2, hx]
      repeat' (first | refine WK_go ?_ | refine W_seqL ?_ | refine W_seq ?_ | (refine W_regL ?_; simp (maxSteps := 400000) (disch := omega) only [push_cast, ↓reduceIte, reduceCtorEq, Nat.reduceAdd, Nat.reduceSub, Nat.reduceEqDiff, Nat.reduceLeDiff, Nat.reduceLT, Nat.reduceBEq, Nat.reduceDiv, Nat.reduceMod, Nat.reducePow, Nat.reduceMul, Int.reduceToNat, Int.reduceLT, Int.reduceLE]) | refine W_block ?_ | (refine W_skip ?_; simp (maxSteps := 400000) (disch := omega) only [push_cast, ↓reduceIte, reduceCtorEq, Nat.reduceAdd, Nat.reduceSub, Nat.reduceEqDiff, Nat.reduceLeDiff, Nat.reduceLT, Nat.reduceBEq, Nat.reduceDiv, Nat.reduceMod, Nat.reducePow, Nat.reduceMul, Int.reduceToNat, Int.reduceLT, Int.reduceLE]) | (refine W_exit ?_; simp (maxSteps := 400000) (disch := omega) only [push_cast, ↓reduceIte, reduceCtorEq, Nat.reduceAdd, Nat.reduceSub, Nat.reduceEqDiff, Nat.reduceLeDiff, Nat.reduceLT, Nat.reduceBEq, Nat.reduceDiv, Nat.reduceMod, Nat.reducePow, Nat.reduceMul, Int.reduceToNat, Int.reduceLT, Int.reduceLE]) | refine And.intro (by omega) ?_ | refine And.intro (by intro hq; (try simp only [Bool.and_eq_true, Bool.or_eq_true, Bool.and_eq_false_iff, Bool.or_eq_false_iff, decide_eq_true_eq, decide_eq_false_iff_not, Bool.not_eq_true', Bool.not_eq_false', beq_iff_eq, beq_eq_false_iff_ne, ne_eq] at hq); omega) ?_ | fail)
      refine W_le (le_nil 6 1 0 cI rfl) ?_
      exact W_ret ⟨[_, _], ⟨rfl, rfl, rfl⟩, rfl⟩
    · have hx : stX ps fl gr i = 0 := by unfold stX; rw [if_neg hA, if_neg (by simpa using hb)]
      repeat' (first | refine WK_go ?_ | refine W_seqL ?_ | refine W_seq ?_ | (refine W_regL ?_; simp (maxSteps := 400000) (disch := omega) only [push_cast, ↓reduceIte, reduceCtorEq, Nat.reduceAdd, Nat.reduceSub, Nat.reduceEqDiff, Nat.reduceLeDiff, Nat.reduceLT, Nat.reduceBEq, Nat.reduceDiv, Nat.reduceMod, Nat.reducePow, Nat.reduceMul, Int.reduceToNat, Int.reduceLT, Int.reduceLE]) | refine W_block ?_ | (refine W_skip ?_; simp (maxSteps := 400000) (disch := omega) only [push_cast, ↓reduceIte, reduceCtorEq, Nat.reduceAdd, Nat.reduceSub, Nat.reduceEqDiff, Nat.reduceLeDiff, Nat.reduceLT, Nat.reduceBEq, Nat.reduceDiv, Nat.reduceMod, Nat.reducePow, Nat.reduceMul, Int.reduceToNat, Int.reduceLT, Int.reduceLE]) | (refine W_exit ?_; simp (maxSteps := 400000) (disch := omega) only [push_cast, ↓reduceIte, reduceCtorEq, Nat.reduceAdd, Nat.reduceSub, Nat.reduceEqDiff, Nat.reduceLeDiff, Nat.reduceLT, Nat.reduceBEq, Nat.reduceDiv, Nat.reduceMod, Nat.reducePow, Nat.reduceMul, Int.reduceToNat, Int.reduceLT, Int.reduceLE]) | refine And.intro (by omega) ?_ | refine And.intro (by intro hq; (try simp only [Bool.and_eq_true, Bool.or_eq_true, Bool.and_eq_false_iff, Bool.or_eq_false_iff, decide_eq_true_eq, decide_eq_false_iff_not, Bool.not_eq_true', Bool.not_eq_false', beq_iff_eq, beq_eq_false_iff_ne, ne_eq] at hq); omega) ?_ | fail)
      refine ⟨rfl, trivial, Int, 0, cI, [stV ps fl gr i], rfl, by omega, fun x _ => ⟨rfl, rfl⟩, rfl, ?_⟩
      simp (maxSteps := 400000) (disch := omega) only [push_cast, ↓reduceIte, reduceCtorEq, Nat.reduceAdd, Nat.reduceSub, Nat.reduceEqDiff, Nat.reduceLeDiff, Nat.reduceLT, Nat.reduceBEq, Nat.reduceDiv, Nat.reduceMod, Nat.reducePow, Nat.reduceMul, Int.reduceToNat, Int.reduceLT, Int.reduceLE]
      refine ⟨rfl, ⟨Nat.le_of_ble_eq_true rfl, rfl⟩, trivial, [stV ps fl gr i], rfl, by first | omega | (simp; omega), by first | omega | (simp; omega), ?_⟩
      simp (maxSteps := 400000) (disch := omega) only [push_cast, ↓reduceIte, reduceCtorEq, Nat.reduceAdd, Nat.reduceSub, Nat.reduceEqDiff, Nat.reduceLeDiff, Nat.reduceLT, Nat.reduceBEq, Nat.reduceDiv, Nat.reduceMod, Nat.reducePow, Nat.reduceMul, Int.reduceToNat, Int.reduceLT, Int.reduceLE]
      repeat' (first | refine WK_go ?_ | refine W_seqL ?_ | refine W_seq ?_ | (refine W_regL ?_; simp (maxSteps := 400000) (disch := omega) only [push_cast, ↓reduceIte, reduceCtorEq, Nat.reduceAdd, Nat.reduceSub, Nat.reduceEqDiff, Nat.reduceLeDiff, Nat.reduceLT, Nat.reduceBEq, Nat.reduceDiv, Nat.reduceMod, Nat.reducePow, Nat.reduceMul, Int.reduceToNat, Int.reduceLT, Int.reduceLE]) | refine W_block ?_ | (refine W_skip ?_; simp (maxSteps := 400000) (disch := omega) only [push_cast, ↓reduceIte, reduceCtorEq, Nat.reduceAdd, Nat.reduceSub, Nat.reduceEqDiff, Nat.reduceLeDiff, Nat.reduceLT, Nat.reduceBEq, Nat.reduceDiv, Nat.reduceMod, Nat.reducePow, Nat.reduceMul, Int.reduceToNat, Int.reduceLT, Int.reduceLE]) | (refine W_exit ?_; simp (maxSteps := 400000) (disch := omega) only [push_cast, ↓reduceIte, reduceCtorEq, Nat.reduceAdd, Nat.reduceSub, Nat.reduceEqDiff, Nat.reduceLeDiff, Nat.reduceLT, Nat.reduceBEq, Nat.reduceDiv, Nat.reduceMod, Nat.reducePow, Nat.reduceMul, Int.reduceToNat, Int.reduceLT, Int.reduceLE]) | refine And.intro (by omega) ?_ | refine And.intro (by intro hq; (try simp only [Bool.and_eq_true, Bool.or_eq_true, Bool.and_eq_false_iff, Bool.or_eq_false_iff, decide_eq_true_eq, decide_eq_false_iff_not, Bool.not_eq_true', Bool.not_eq_false', beq_iff_eq, beq_eq_false_iff_ne, ne_eq] at hq); omega) ?_ | fail)
      refine ⟨i + 1, ⟨by omega, up_all hno (by rw [hx]; rfl)⟩, by omega, by rfl, ?_⟩
      rw [hrs]
      simp (maxSteps := 400000) (disch := omega) only [push_cast, ↓reduceIte, reduceCtorEq, Nat.reduceAdd, Nat.reduceSub, Nat.reduceEqDiff, Nat.reduceLeDiff, Nat.reduceLT, Nat.reduceBEq, Nat.reduceDiv, Nat.reduceMod, Nat.reducePow, Nat.reduceMul, Int.reduceToNat, Int.reduceLT, Int.reduceLE, S.mk.injEq, List.cons.injEq, Prod.mk.injEq, AV.v.injEq, Value.int.injEq, Value.bool.injEq, Blk.cells.injEq]
  · obtain rfl : i = ps.length := by omega
    obtain ⟨e1, e2⟩ := skE_none h hno
    rw [e1, e2]
    repeat' (first | refine WK_go ?_ | refine W_seqL ?_ | refine W_seq ?_ | (refine W_regL ?_; simp (maxSteps := 400000) (disch := omega) only [push_cast, ↓reduceIte, reduceCtorEq, Nat.reduceAdd, Nat.reduceSub, Nat.reduceEqDiff, Nat.reduceLeDiff, Nat.reduceLT, Nat.reduceBEq, Nat.reduceDiv, Nat.reduceMod, Nat.reducePow, Nat.reduceMul, Int.reduceToNat, Int.reduceLT, Int.reduceLE]) | refine W_block ?_ | (refine W_skip ?_; simp (maxSteps := 400000) (disch := omega) only [push_cast, ↓reduceIte, reduceCtorEq, Nat.reduceAdd, Nat.reduceSub, Nat.reduceEqDiff, Nat.reduceLeDiff, Nat.reduceLT, Nat.reduceBEq, Nat.reduceDiv, Nat.reduceMod, Nat.reducePow, Nat.reduceMul, Int.reduceToNat, Int.reduceLT, Int.reduceLE]) | (refine W_exit ?_; simp (maxSteps := 400000) (disch := omega) only [push_cast, ↓reduceIte, reduceCtorEq, Nat.reduceAdd, Nat.reduceSub, Nat.reduceEqDiff, Nat.reduceLeDiff, Nat.reduceLT, Nat.reduceBEq, Nat.reduceDiv, Nat.reduceMod, Nat.reducePow, Nat.reduceMul, Int.reduceToNat, Int.reduceLT, Int.reduceLE]) | refine And.intro (by omega) ?_ | refine And.intro (by intro hq; (try simp only [Bool.and_eq_true, Bool.or_eq_true, Bool.and_eq_false_iff, Bool.or_eq_false_iff, decide_eq_true_eq, decide_eq_false_iff_not, Bool.not_eq_true', Bool.not_eq_false', beq_iff_eq, beq_eq_false_iff_ne, ne_eq] at hq); omega) ?_ | fail)
    refine W_ret ⟨[_, _], ⟨rfl, rfl, rfl⟩, ?_⟩
    simp (maxSteps := 400000) (disch := omega) only [push_cast, ↓reduceIte, reduceCtorEq, Nat.reduceAdd, Nat.reduceSub, Nat.reduceEqDiff, Nat.reduceLeDiff, Nat.reduceLT, Nat.reduceBEq, Nat.reduceDiv, Nat.reduceMod, Nat.reducePow, Nat.reduceMul, Int.reduceToNat, Int.reduceLT, Int.reduceLE, pack]
end Go.Proofs.Ytfkjdjlcaojedaa

/- More of what the arguments of the laws hold. -/
namespace Go.Proofs.Ytfkjdjlcaojedaa
open Go Sy
set_option maxRecDepth 100000
set_option linter.unusedVariables false
theorem b2 : Try.prog.bytesOf 2 = 8 := by kernel_rfl
end Go.Proofs.Ytfkjdjlcaojedaa

/- StaticsLevel: the plain law. -/
namespace Go.Proofs.Ytfkjdjlcaojedaa
open Go Sy
set_option maxRecDepth 100000
set_option linter.unusedVariables false
/-- a support with any stroke -/
def fixS (s : Sup) : Sup := { s with least := 0, most := 4096 }
theorem sp_map (ps : List Sup) (j : Nat) (h : j < ps.length) : sp (ps.map fixS) j = fixS (sp ps j) := by
  simp [sp, List.getD, h]
theorem addS_fix (f : Nat → Int) (s : Sup) : addS f (fixS s) = addS f s := by
  funext j
  unfold addS addK
  have e : ∀ k, pick (fixS s) k = pick s k := fun k => by rcases k with _ | _ | k <;> rfl
  rw [e]; rfl
theorem foldl_fix : ∀ (ps : List Sup) (f : Nat → Int), (ps.map fixS).foldl addS f = ps.foldl addS f
  | [], f => rfl
  | s :: ps, f => by simp only [List.map_cons, List.foldl_cons, addS_fix, foldl_fix ps]
theorem sums_fix (ps : List Sup) : sumsL (ps.map fixS) = sumsL ps := foldl_fix ps _
theorem supB_fix {s : Sup} (h : supB s = true) : supB (fixS s) = true := by
  have := supB_iff.1 h
  rw [supB_iff]
  simp only [fixS]
  omega
theorem chk_fix {ps : List Sup} (h : chkP ps = 0) : chkP (ps.map fixS) = 0 := by
  obtain ⟨h1, h2, h3⟩ := chkP_ok h
  unfold chkP
  rw [List.length_map, if_neg (by omega), all_good (fun i hi => by rw [List.length_map] at hi; rw [sp_map ps i hi]; exact supB_fix (h2 i hi)), if_neg (by decide), sums_fix, if_neg h3]
/-- floors of three sum up to at most 3 less -/
theorem floors {H : Nat → Int} {ps : List Sup} {p : Pt} (hw : 0 < whole ps) :
    htS H ps p 3 * whole ps ≤ H 0 * part ps p 0 + H 1 * part ps p 1 + H 2 * part ps p 2 ∧
    H 0 * part ps p 0 + H 1 * part ps p 1 + H 2 * part ps p 2 < htS H ps p 3 * whole ps + 3 * whole ps := by
  have e : htS H ps p 3 = H 0 * part ps p 0 / whole ps + H 1 * part ps p 1 / whole ps + H 2 * part ps p 2 / whole ps := by
    simp only [htS, Int.zero_add]
  rw [e]
  have a := fun x : Int => Int.ediv_mul_add_emod x (whole ps)
  have b := fun x : Int => Int.emod_nonneg x (Int.ne_of_gt hw)
  have c := fun x : Int => Int.emod_lt_of_pos x hw
  have a0 := a (H 0 * part ps p 0); have b0 := b (H 0 * part ps p 0); have c0 := c (H 0 * part ps p 0)
  have a1 := a (H 1 * part ps p 1); have b1 := b (H 1 * part ps p 1); have c1 := c (H 1 * part ps p 1)
  have a2 := a (H 2 * part ps p 2); have b2 := b (H 2 * part ps p 2); have c2 := c (H 2 * part ps p 2)
  rw [Int.add_mul, Int.add_mul]
  omega
/-- the level ground -/
theorem gS_level {ps : List Sup} (fl : Nat → Int) (gr : List Int) (k : Int) (hg : ∀ i, i < ps.length → gr.getD i 0 = k) (hok : ∀ i, i < ps.length → supB (sp ps i) = true) : ∀ n, n ≤ ps.length → ∀ g, g < 3 → gS ps fl gr n g = fl g + k * sumsL (ps.take n) (3 * g)
  | 0, _, g, _ => by rw [List.take_zero]; simp [gS, sumsL]
  | n + 1, hn, g, hg3 => by
    have ih := gS_level fl gr k hg hok n (by omega) g hg3
    have hs := (supB_iff.1 (hok n hn)).2.2.1
    simp only [gS]
    rw [ih, hg n hn, take_sp ps n hn, sumsL_append]
    unfold addS addK
    rw [show 3 * g / 3 = g by omega, show 3 * g % 3 = 0 by omega]
    simp only [pick]
    by_cases e : g = (sp ps n).g.toNat
    · rw [if_pos e, if_pos ⟨e, by omega⟩, Int.mul_add]; omega
    · rw [if_neg e, if_neg (fun q => e q.1)]; simp only [Int.add_zero]
/-- a raised ground -/
theorem gS_raise {ps : List Sup} (fl : Nat → Int) (ga gb : List Int) (k : Int) (hg : ∀ i, i < ps.length → gb.getD i 0 = ga.getD i 0 + k) (hok : ∀ i, i < ps.length → supB (sp ps i) = true) : ∀ n, n ≤ ps.length → ∀ g, g < 3 → gS ps fl gb n g = gS ps fl ga n g + k * sumsL (ps.take n) (3 * g)
  | 0, _, g, _ => by rw [List.take_zero]; simp [gS, sumsL]
  | n + 1, hn, g, hg3 => by
    have ih := gS_raise fl ga gb k hg hok n (by omega) g hg3
    have hs := (supB_iff.1 (hok n hn)).2.2.1
    simp only [gS]
    rw [ih, hg n hn, take_sp ps n hn, sumsL_append]
    unfold addS addK
    rw [show 3 * g / 3 = g by omega, show 3 * g % 3 = 0 by omega]
    simp only [pick]
    by_cases e : g = (sp ps n).g.toNat
    · rw [if_pos e, if_pos e, if_pos ⟨e, by omega⟩, Int.mul_add]; omega
    · rw [if_neg e, if_neg e, if_neg (fun q => e q.1)]; simp only [Int.add_zero]
theorem le_of_mul_lt {a b w : Int} (hw : 0 < w) (h : a * w < b * w) : a < b := Int.lt_of_mul_lt_mul_right h (Int.le_of_lt hw)
/-- all cylinders are equally long, but for 3 -/
theorem level_len {ps : List Sup} {fl : Nat → Int} {gr : List Int} {c : Int} {i : Nat} (hc : chkP ps = 0) (hfl : ∀ g, g < 3 → fl g = c * sumsL ps (3 * g)) (hg : ∀ i, i < ps.length → gr.getD i 0 = 500) (hi : i < ps.length) : c - 3 ≤ stV ps fl gr i ∧ stV ps fl gr i ≤ c := by
  have hw := whole_B hc
  have hok := (chkP_ok hc).2.1
  have h0 := gS_level fl gr 500 hg hok ps.length (Nat.le_refl _)
  rw [List.take_length] at h0
  have e0 := h0 0 (by omega)
  have e1 := h0 1 (by omega)
  have e2 := h0 2 (by omega)
  rw [hfl 0 (by omega)] at e0
  rw [hfl 1 (by omega)] at e1
  rw [hfl 2 (by omega)] at e2
  simp only [Nat.reduceMul] at e0 e1 e2
  have hb := (balance (ps := ps) (ptS ps i)).1
  have hf := floors (H := gS ps fl gr ps.length) (p := ptS ps i) hw.1
  have eS : gS ps fl gr ps.length 0 * part ps (ptS ps i) 0 + gS ps fl gr ps.length 1 * part ps (ptS ps i) 1 + gS ps fl gr ps.length 2 * part ps (ptS ps i) 2 = (c + 500) * whole ps := by
    rw [e0, e1, e2, ← hb]; grind
  rw [eS] at hf
  unfold stV
  rw [hg i hi]
  generalize htS (gS ps fl gr ps.length) ps (ptS ps i) 3 = A at *
  have d1 : A ≤ c + 500 := Int.le_of_mul_le_mul_right hf.1 hw.1
  have d2 : c + 500 < A + 3 := le_of_mul_lt hw.1 (by rw [Int.add_mul A 3]; omega)
  omega
/-- raised ground changes no length by more than 3 -/
theorem raised_len {ps : List Sup} {fl : Nat → Int} {ga gb : List Int} {k : Int} {i : Nat} (hc : chkP ps = 0) (hg : ∀ i, i < ps.length → gb.getD i 0 = ga.getD i 0 + k) (hi : i < ps.length) : stV ps fl ga i - stV ps fl gb i ≤ 3 ∧ stV ps fl gb i - stV ps fl ga i ≤ 3 := by
  have hw := whole_B hc
  have hok := (chkP_ok hc).2.1
  have h0 := gS_raise fl ga gb k hg hok ps.length (Nat.le_refl _)
  rw [List.take_length] at h0
  have e0 := h0 0 (by omega)
  have e1 := h0 1 (by omega)
  have e2 := h0 2 (by omega)
  simp only [Nat.reduceMul] at e0 e1 e2
  have hb := (balance (ps := ps) (ptS ps i)).1
  have fa := floors (H := gS ps fl ga ps.length) (p := ptS ps i) hw.1
  have fb := floors (H := gS ps fl gb ps.length) (p := ptS ps i) hw.1
  have eS : gS ps fl gb ps.length 0 * part ps (ptS ps i) 0 + gS ps fl gb ps.length 1 * part ps (ptS ps i) 1 + gS ps fl gb ps.length 2 * part ps (ptS ps i) 2 = gS ps fl ga ps.length 0 * part ps (ptS ps i) 0 + gS ps fl ga ps.length 1 * part ps (ptS ps i) 1 + gS ps fl ga ps.length 2 * part ps (ptS ps i) 2 + k * whole ps := by
    rw [e0, e1, e2, ← hb]; grind
  rw [eS] at fb
  generalize gS ps fl ga ps.length 0 * part ps (ptS ps i) 0 + gS ps fl ga ps.length 1 * part ps (ptS ps i) 1 + gS ps fl ga ps.length 2 * part ps (ptS ps i) 2 = E at *
  unfold stV
  rw [hg i hi]
  generalize htS (gS ps fl ga ps.length) ps (ptS ps i) 3 = A at *
  generalize htS (gS ps fl gb ps.length) ps (ptS ps i) 3 = B at *
  have d1 : A + k < B + 3 := le_of_mul_lt hw.1 (by rw [Int.add_mul A k, Int.add_mul B 3]; omega)
  have d2 : B < A + k + 3 := le_of_mul_lt hw.1 (by rw [Int.add_mul (A + k) 3, Int.add_mul A k]; omega)
  omega
end Go.Proofs.Ytfkjdjlcaojedaa

/- StaticsLevel: the walk. -/
namespace Go.Proofs.Ytfkjdjlcaojedaa
open Go Sy
set_option maxRecDepth 100000
set_option maxHeartbeats 4000000
set_option linter.unusedVariables false
set_option linter.unusedSimpArgs false
abbrev sv (n : Int) : AV := .v (.int .i16 n)
def cI16 (n : Int) : List AV := [sv n]
theorem nI16 (n : Int) : nth (cI16 n) 0 = sv n := rfl
theorem lI16 (n : Int) : (cI16 n).length = 1 := rfl
attribute [push_cast] nI16 lI16
def gnd (gs : List Int) (j : Nat) : Int := if j < gs.length then (gs.getD j 0).tmod 1000 else 0
def qL (ps : List Sup) (i : Nat) : List Sup := (List.range ps.length).map (fun j => if j < i then fixS (sp ps j) else sp ps j)
theorem qL_len (ps : List Sup) (i : Nat) : (qL ps i).length = ps.length := by simp [qL]
theorem qL_zero (ps : List Sup) : qL ps 0 = ps := by
  apply List.ext_getElem
  · simp [qL]
  · intro j h1 h2
    simp [qL, sp, List.getD, h2]
theorem qL_end (ps : List Sup) : qL ps ps.length = ps.map fixS := by
  apply List.ext_getElem
  · simp [qL]
  · intro j h1 h2
    have h3 : j < ps.length := by simpa using h2
    simp [qL, sp, List.getD, h3]
theorem qL_get (ps : List Sup) (i : Nat) (hi : i < ps.length) : (qL ps i).getD i dS = sp ps i := by
  simp [qL, List.getD, hi]
theorem qL_set (ps : List Sup) (i : Nat) (hi : i < ps.length) : (qL ps i).set i (fixS (sp ps i)) = qL ps (i + 1) := by
  apply List.ext_getElem
  · simp [qL]
  · intro j h1 h2
    have h3 : j < ps.length := by simpa [qL] using h2
    simp only [qL, List.getElem_set, List.getElem_map, List.getElem_range]
    by_cases e : i = j
    · subst e; rw [if_pos rfl, if_pos (by omega)]
    · rw [if_neg e]
      by_cases e2 : j < i
      · rw [if_pos e2, if_pos (by omega)]
      · rw [if_neg e2, if_neg (by omega)]
theorem getD_set {α : Type} (d : α) (l : List α) (i : Nat) (x : α) (h : i < l.length) : (l.set i x).getD i d = x := by
  simp [List.getD_eq_getElem?_getD, h]
theorem rangeD {f : Nat → Int} {n i : Nat} (h : i < n) : ((List.range n).map f).getD i 0 = f i := by simp [List.getD, h]
theorem first_true (p : Nat → Bool) : ∀ n, (∀ j, j < n → p j = false) ∨ ∃ i, i < n ∧ p i = true ∧ ∀ j, j < i → p j = false
  | 0 => .inl (fun j hj => by omega)
  | n + 1 => by
    rcases first_true p n with h | ⟨i, h1, h2, h3⟩
    · cases hp : p n with
      | false => exact .inl (up_all h hp)
      | true => exact .inr ⟨n, by omega, hp, h⟩
    · exact .inr ⟨i, by omega, h2, h3⟩
theorem skE_cases {ps : List Sup} {fl : Nat → Int} {gr : List Int} (h : gE ps fl gr = 0) :
    (skE ps fl gr = 0 ∧ skL ps fl gr = (List.range ps.length).map (stV ps fl gr) ∧ ∀ j, j < ps.length → stX ps fl gr j = 0) ∨ ∃ i, i < ps.length ∧ skE ps fl gr = stX ps fl gr i ∧ stX ps fl gr i ≠ 0 := by
  rcases first_true (fun j => stX ps fl gr j != 0) ps.length with h1 | ⟨i, h1, h2, h3⟩
  · obtain ⟨a, b⟩ := skE_none h h1
    exact .inl ⟨a, b, fun j hj => by have := h1 j hj; simpa using this⟩
  · have h2' : stX ps fl gr i ≠ 0 := by simpa using h2
    exact .inr ⟨i, h1, (skE_at h h1 h3 h2').1, h2'⟩
theorem stX_bey {ps : List Sup} {fl : Nat → Int} {gr : List Int} {i : Nat} (h : stX ps fl gr i = 0) : beyA ps (ptS ps i) = false := by
  rw [← Bool.not_eq_true]
  intro q
  unfold stX at h
  rw [if_pos q] at h
  omega
theorem stX_two {ps : List Sup} {fl : Nat → Int} {gr : List Int} {i : Nat} (h : beyA ps (ptS ps i) = false) : stX ps fl gr i = 0 ∨ stX ps fl gr i = 14 := by
  unfold stX
  rw [if_neg (by rw [h]; decide)]
  split
  · exact .inr rfl
  · exact .inl rfl
theorem fn11 (ps : List Sup) (len raise : Int) (gs : List Int) (hl : ps.length ≤ 140737488355328) (hgl : gs.length ≤ 140737488355328) (hlen : 0 ≤ len ∧ len ≤ 255) (hra : 0 ≤ raise ∧ raise ≤ 255) (hgs : ∀ x ∈ gs, -32768 ≤ x ∧ x ≤ 32767) :
    Sy.Fn Try.prog 11 [aP ps, .v (.int .u8 len), .v (.int .u8 raise), .sl 1 0 cI16 gs] (bv true) := by
  refine Fn_of_W mixed Xt11 rfl ?_
  repeat' (first | refine WK_go ?_ | refine W_seqL ?_ | refine W_seq ?_ | (refine W_regL ?_; simp (maxSteps := 400000) (disch := omega) only [push_cast, ↓reduceIte, reduceCtorEq, Nat.reduceAdd, Nat.reduceSub, Nat.reduceEqDiff, Nat.reduceLeDiff, Nat.reduceLT, Nat.reduceBEq, Nat.reduceDiv, Nat.reduceMod, Nat.reducePow, Nat.reduceMul, Int.reduceToNat, Int.reduceLT, Int.reduceLE]) | refine W_block ?_ | (refine W_skip ?_; simp (maxSteps := 400000) (disch := omega) only [push_cast, ↓reduceIte, reduceCtorEq, Nat.reduceAdd, Nat.reduceSub, Nat.reduceEqDiff, Nat.reduceLeDiff, Nat.reduceLT, Nat.reduceBEq, Nat.reduceDiv, Nat.reduceMod, Nat.reducePow, Nat.reduceMul, Int.reduceToNat, Int.reduceLT, Int.reduceLE]) | (refine W_exit ?_; simp (maxSteps := 400000) (disch := omega) only [push_cast, ↓reduceIte, reduceCtorEq, Nat.reduceAdd, Nat.reduceSub, Nat.reduceEqDiff, Nat.reduceLeDiff, Nat.reduceLT, Nat.reduceBEq, Nat.reduceDiv, Nat.reduceMod, Nat.reducePow, Nat.reduceMul, Int.reduceToNat, Int.reduceLT, Int.reduceLE]) | refine And.intro (by omega) ?_ | refine And.intro (by intro hq; (try simp only [Bool.and_eq_true, Bool.or_eq_true, Bool.and_eq_false_iff, Bool.or_eq_false_iff, decide_eq_true_eq, decide_eq_false_iff_not, Bool.not_eq_true', Bool.not_eq_false', beq_iff_eq, beq_eq_false_iff_ne, ne_eq] at hq); omega) ?_ | (refine CallC.now (fn18 ps hl) ?_; simp (maxSteps := 400000) (disch := omega) only [push_cast, ↓reduceIte, reduceCtorEq, Nat.reduceAdd, Nat.reduceSub, Nat.reduceEqDiff, Nat.reduceLeDiff, Nat.reduceLT, Nat.reduceBEq, Nat.reduceDiv, Nat.reduceMod, Nat.reducePow, Nat.reduceMul, Int.reduceToNat, Int.reduceLT, Int.reduceLE]) | fail)
  refine W_cond (by rfl) (fun _ => ?_) (fun hb => ?_)
  · repeat' (first | refine WK_go ?_ | refine W_seqL ?_ | refine W_seq ?_ | (refine W_regL ?_; simp (maxSteps := 400000) (disch := omega) only [push_cast, ↓reduceIte, reduceCtorEq, Nat.reduceAdd, Nat.reduceSub, Nat.reduceEqDiff, Nat.reduceLeDiff, Nat.reduceLT, Nat.reduceBEq, Nat.reduceDiv, Nat.reduceMod, Nat.reducePow, Nat.reduceMul, Int.reduceToNat, Int.reduceLT, Int.reduceLE]) | refine W_block ?_ | (refine W_skip ?_; simp (maxSteps := 400000) (disch := omega) only [push_cast, ↓reduceIte, reduceCtorEq, Nat.reduceAdd, Nat.reduceSub, Nat.reduceEqDiff, Nat.reduceLeDiff, Nat.reduceLT, Nat.reduceBEq, Nat.reduceDiv, Nat.reduceMod, Nat.reducePow, Nat.reduceMul, Int.reduceToNat, Int.reduceLT, Int.reduceLE]) | (refine W_exit ?_; simp (maxSteps := 400000) (disch := omega) only [push_cast, ↓reduceIte, reduceCtorEq, Nat.reduceAdd, Nat.reduceSub, Nat.reduceEqDiff, Nat.reduceLeDiff, Nat.reduceLT, Nat.reduceBEq, Nat.reduceDiv, Nat.reduceMod, Nat.reducePow, Nat.reduceMul, Int.reduceToNat, Int.reduceLT, Int.reduceLE]) | refine And.intro (by omega) ?_ | refine And.intro (by intro hq; (try simp only [Bool.and_eq_true, Bool.or_eq_true, Bool.and_eq_false_iff, Bool.or_eq_false_iff, decide_eq_true_eq, decide_eq_false_iff_not, Bool.not_eq_true', Bool.not_eq_false', beq_iff_eq, beq_eq_false_iff_ne, ne_eq] at hq); omega) ?_ | (refine CallC.now (fn27 ps hl) ?_; simp (maxSteps := 400000) (disch := omega) only [push_cast, ↓reduceIte, reduceCtorEq, Nat.reduceAdd, Nat.reduceSub, Nat.reduceEqDiff, Nat.reduceLeDiff, Nat.reduceLT, Nat.reduceBEq, Nat.reduceDiv, Nat.reduceMod, Nat.reducePow, Nat.reduceMul, Int.reduceToNat, Int.reduceLT, Int.reduceLE]) | (refine CallC.go _ (fun _ => ⟨trivial, fn17⟩) rfl ?_; simp (maxSteps := 400000) (disch := omega) only [push_cast, ↓reduceIte, reduceCtorEq, Nat.reduceAdd, Nat.reduceSub, Nat.reduceEqDiff, Nat.reduceLeDiff, Nat.reduceLT, Nat.reduceBEq, Nat.reduceDiv, Nat.reduceMod, Nat.reducePow, Nat.reduceMul, Int.reduceToNat, Int.reduceLT, Int.reduceLE]) | fail)
    exact W_ret ⟨[_], ⟨rfl, rfl⟩, rfl⟩
  simp only [Bool.or_eq_false_iff, bne_eq_false_iff_eq, decide_eq_false_iff_not] at hb
  obtain ⟨hch, _⟩ := hb
  obtain ⟨hn, hok, _⟩ := chkP_ok hch
  have hS : smV ps = sumsL ps := by unfold smV; rw [if_pos hch]
  rw [hS]
  have hsm := sums_small' hch
  repeat' (first | refine WK_go ?_ | refine W_seqL ?_ | refine W_seq ?_ | (refine W_regL ?_; simp (maxSteps := 400000) (disch := omega) only [push_cast, ↓reduceIte, reduceCtorEq, Nat.reduceAdd, Nat.reduceSub, Nat.reduceEqDiff, Nat.reduceLeDiff, Nat.reduceLT, Nat.reduceBEq, Nat.reduceDiv, Nat.reduceMod, Nat.reducePow, Nat.reduceMul, Int.reduceToNat, Int.reduceLT, Int.reduceLE]) | refine W_block ?_ | (refine W_skip ?_; simp (maxSteps := 400000) (disch := omega) only [push_cast, ↓reduceIte, reduceCtorEq, Nat.reduceAdd, Nat.reduceSub, Nat.reduceEqDiff, Nat.reduceLeDiff, Nat.reduceLT, Nat.reduceBEq, Nat.reduceDiv, Nat.reduceMod, Nat.reducePow, Nat.reduceMul, Int.reduceToNat, Int.reduceLT, Int.reduceLE]) | (refine W_exit ?_; simp (maxSteps := 400000) (disch := omega) only [push_cast, ↓reduceIte, reduceCtorEq, Nat.reduceAdd, Nat.reduceSub, Nat.reduceEqDiff, Nat.reduceLeDiff, Nat.reduceLT, Nat.reduceBEq, Nat.reduceDiv, Nat.reduceMod, Nat.reducePow, Nat.reduceMul, Int.reduceToNat, Int.reduceLT, Int.reduceLE]) | refine And.intro (by omega) ?_ | refine And.intro (by intro hq; (try simp only [Bool.and_eq_true, Bool.or_eq_true, Bool.and_eq_false_iff, Bool.or_eq_false_iff, decide_eq_true_eq, decide_eq_false_iff_not, Bool.not_eq_true', Bool.not_eq_false', beq_iff_eq, beq_eq_false_iff_ne, ne_eq] at hq); omega) ?_ | fail)
  refine ⟨rfl, trivial, Sup, dS, cS, [], rfl, by omega, fun x _ => ⟨rfl, rfl⟩, rfl, ?_⟩
  simp (maxSteps := 400000) (disch := omega) only [push_cast, ↓reduceIte, reduceCtorEq, Nat.reduceAdd, Nat.reduceSub, Nat.reduceEqDiff, Nat.reduceLeDiff, Nat.reduceLT, Nat.reduceBEq, Nat.reduceDiv, Nat.reduceMod, Nat.reducePow, Nat.reduceMul, Int.reduceToNat, Int.reduceLT, Int.reduceLE]
  refine ⟨rfl, ⟨Nat.le_of_ble_eq_true rfl, rfl⟩, trivial, ps, rfl, by first | omega | (simp; omega), by first | omega | (simp; omega), ?_⟩
  simp (maxSteps := 400000) (disch := omega) only [push_cast, ↓reduceIte, reduceCtorEq, Nat.reduceAdd, Nat.reduceSub, Nat.reduceEqDiff, Nat.reduceLeDiff, Nat.reduceLT, Nat.reduceBEq, Nat.reduceDiv, Nat.reduceMod, Nat.reducePow, Nat.reduceMul, Int.reduceToNat, Int.reduceLT, Int.reduceLE]
  repeat' (first | refine WK_go ?_ | refine W_seqL ?_ | refine W_seq ?_ | (refine W_regL ?_; simp (maxSteps := 400000) (disch := omega) only [push_cast, ↓reduceIte, reduceCtorEq, Nat.reduceAdd, Nat.reduceSub, Nat.reduceEqDiff, Nat.reduceLeDiff, Nat.reduceLT, Nat.reduceBEq, Nat.reduceDiv, Nat.reduceMod, Nat.reducePow, Nat.reduceMul, Int.reduceToNat, Int.reduceLT, Int.reduceLE]) | refine W_block ?_ | (refine W_skip ?_; simp (maxSteps := 400000) (disch := omega) only [push_cast, ↓reduceIte, reduceCtorEq, Nat.reduceAdd, Nat.reduceSub, Nat.reduceEqDiff, Nat.reduceLeDiff, Nat.reduceLT, Nat.reduceBEq, Nat.reduceDiv, Nat.reduceMod, Nat.reducePow, Nat.reduceMul, Int.reduceToNat, Int.reduceLT, Int.reduceLE]) | (refine W_exit ?_; simp (maxSteps := 400000) (disch := omega) only [push_cast, ↓reduceIte, reduceCtorEq, Nat.reduceAdd, Nat.reduceSub, Nat.reduceEqDiff, Nat.reduceLeDiff, Nat.reduceLT, Nat.reduceBEq, Nat.reduceDiv, Nat.reduceMod, Nat.reducePow, Nat.reduceMul, Int.reduceToNat, Int.reduceLT, Int.reduceLE]) | refine And.intro (by omega) ?_ | refine And.intro (by intro hq; (try simp only [Bool.and_eq_true, Bool.or_eq_true, Bool.and_eq_false_iff, Bool.or_eq_false_iff, decide_eq_true_eq, decide_eq_false_iff_not, Bool.not_eq_true', Bool.not_eq_false', beq_iff_eq, beq_eq_false_iff_ne, ne_eq] at hq); omega) ?_ | fail)
  refine W_le (le_adopt 12 2 1 (0 : Int) cI (by omega) rfl) ?_
  simp (maxSteps := 400000) (disch := omega) only [push_cast, ↓reduceIte, reduceCtorEq, Nat.reduceAdd, Nat.reduceSub, Nat.reduceEqDiff, Nat.reduceLeDiff, Nat.reduceLT, Nat.reduceBEq, Nat.reduceDiv, Nat.reduceMod, Nat.reducePow, Nat.reduceMul, Int.reduceToNat, Int.reduceLT, Int.reduceLE]
  refine W_le (le_adopt 13 2 1 (0 : Int) cI (by omega) rfl) ?_
  simp (maxSteps := 400000) (disch := omega) only [push_cast, ↓reduceIte, reduceCtorEq, Nat.reduceAdd, Nat.reduceSub, Nat.reduceEqDiff, Nat.reduceLeDiff, Nat.reduceLT, Nat.reduceBEq, Nat.reduceDiv, Nat.reduceMod, Nat.reducePow, Nat.reduceMul, Int.reduceToNat, Int.reduceLT, Int.reduceLE]
  refine W_le (le_adopt 14 2 1 (0 : Int) cI (by omega) rfl) ?_
  simp (maxSteps := 400000) (disch := omega) only [push_cast, ↓reduceIte, reduceCtorEq, Nat.reduceAdd, Nat.reduceSub, Nat.reduceEqDiff, Nat.reduceLeDiff, Nat.reduceLT, Nat.reduceBEq, Nat.reduceDiv, Nat.reduceMod, Nat.reducePow, Nat.reduceMul, Int.reduceToNat, Int.reduceLT, Int.reduceLE]
  have hgb : ∀ j, -999 ≤ gnd gs j ∧ gnd gs j ≤ 999 := fun j => by
    unfold gnd
    split
    · have := hgs _ (getD_mem 0 gs j (by assumption))
      generalize gs.getD j 0 = x at *
      have h1 := Int.tmod_lt_of_pos x (show (0 : Int) < 1000 by omega)
      have h2 := Int.tmod_lt_of_pos (-x) (show (0 : Int) < 1000 by omega)
      rw [Int.neg_tmod] at h2
      omega
    · omega
  refine W_loopU (fun i : Nat => [(12, .row 24 i), (13, .row 25 i), (14, .row 26 i), (15, iv i)]) (fun i => [(16, .row 1 62 6 dS cS (qL ps i)), (24, .row i 2 1 0 cI (List.replicate i 500)), (25, .row i 2 1 0 cI ((List.range i).map (gnd gs))), (26, .row i 2 1 0 cI ((List.range i).map (fun j => gnd gs j + raise)))]) (fun i => i ≤ ps.length) (fun i => ps.length - i) 0 (by omega) (by rfl) (by rw [qL_zero]; rfl) (fun i hi => ?_)
  have hql := qL_len ps i
  simp (maxSteps := 400000) (disch := omega) only [push_cast, ↓reduceIte, reduceCtorEq, Nat.reduceAdd, Nat.reduceSub, Nat.reduceEqDiff, Nat.reduceLeDiff, Nat.reduceLT, Nat.reduceBEq, Nat.reduceDiv, Nat.reduceMod, Nat.reducePow, Nat.reduceMul, Int.reduceToNat, Int.reduceLT, Int.reduceLE]
  repeat' (first | refine WK_go ?_ | refine W_seqL ?_ | refine W_seq ?_ | (refine W_regL ?_; simp (maxSteps := 400000) (disch := omega) only [push_cast, ↓reduceIte, reduceCtorEq, Nat.reduceAdd, Nat.reduceSub, Nat.reduceEqDiff, Nat.reduceLeDiff, Nat.reduceLT, Nat.reduceBEq, Nat.reduceDiv, Nat.reduceMod, Nat.reducePow, Nat.reduceMul, Int.reduceToNat, Int.reduceLT, Int.reduceLE]) | refine W_block ?_ | (refine W_skip ?_; simp (maxSteps := 400000) (disch := omega) only [push_cast, ↓reduceIte, reduceCtorEq, Nat.reduceAdd, Nat.reduceSub, Nat.reduceEqDiff, Nat.reduceLeDiff, Nat.reduceLT, Nat.reduceBEq, Nat.reduceDiv, Nat.reduceMod, Nat.reducePow, Nat.reduceMul, Int.reduceToNat, Int.reduceLT, Int.reduceLE]) | (refine W_exit ?_; simp (maxSteps := 400000) (disch := omega) only [push_cast, ↓reduceIte, reduceCtorEq, Nat.reduceAdd, Nat.reduceSub, Nat.reduceEqDiff, Nat.reduceLeDiff, Nat.reduceLT, Nat.reduceBEq, Nat.reduceDiv, Nat.reduceMod, Nat.reducePow, Nat.reduceMul, Int.reduceToNat, Int.reduceLT, Int.reduceLE]) | refine And.intro (by omega) ?_ | refine And.intro (by intro hq; (try simp only [Bool.and_eq_true, Bool.or_eq_true, Bool.and_eq_false_iff, Bool.or_eq_false_iff, decide_eq_true_eq, decide_eq_false_iff_not, Bool.not_eq_true', Bool.not_eq_false', beq_iff_eq, beq_eq_false_iff_ne, ne_eq] at hq); omega) ?_ | fail)
  refine W_condD (by rfl) (fun h5 => ?_) (fun h5 => ?_)
  · have hlt : i < ps.length := by omega
    have hqg := qL_get ps i hlt
    have hqs := qL_set ps i hlt
    have hrs1 := range_map_succ (gnd gs) i
    have hrs2 := range_map_succ (fun j => gnd gs j + raise) i
    have hl1 : (List.replicate i (500 : Int)).length = i := by simp
    have hl2 : ((List.range i).map (gnd gs)).length = i := by simp
    have hl3 : ((List.range i).map (fun j => gnd gs j + raise)).length = i := by simp
    have hbi := hgb i
    repeat' (first | refine WK_go ?_ | refine W_seqL ?_ | refine W_seq ?_ | (refine W_regL ?_; simp (maxSteps := 400000) (disch := omega) only [push_cast, ↓reduceIte, reduceCtorEq, Nat.reduceAdd, Nat.reduceSub, Nat.reduceEqDiff, Nat.reduceLeDiff, Nat.reduceLT, Nat.reduceBEq, Nat.reduceDiv, Nat.reduceMod, Nat.reducePow, Nat.reduceMul, Int.reduceToNat, Int.reduceLT, Int.reduceLE]) | refine W_block ?_ | (refine W_skip ?_; simp (maxSteps := 400000) (disch := omega) only [push_cast, ↓reduceIte, reduceCtorEq, Nat.reduceAdd, Nat.reduceSub, Nat.reduceEqDiff, Nat.reduceLeDiff, Nat.reduceLT, Nat.reduceBEq, Nat.reduceDiv, Nat.reduceMod, Nat.reducePow, Nat.reduceMul, Int.reduceToNat, Int.reduceLT, Int.reduceLE]) | (refine W_exit ?_; simp (maxSteps := 400000) (disch := omega) only [push_cast, ↓reduceIte, reduceCtorEq, Nat.reduceAdd, Nat.reduceSub, Nat.reduceEqDiff, Nat.reduceLeDiff, Nat.reduceLT, Nat.reduceBEq, Nat.reduceDiv, Nat.reduceMod, Nat.reducePow, Nat.reduceMul, Int.reduceToNat, Int.reduceLT, Int.reduceLE]) | refine And.intro (by omega) ?_ | refine And.intro (by intro hq; (try simp only [Bool.and_eq_true, Bool.or_eq_true, Bool.and_eq_false_iff, Bool.or_eq_false_iff, decide_eq_true_eq, decide_eq_false_iff_not, Bool.not_eq_true', Bool.not_eq_false', beq_iff_eq, beq_eq_false_iff_ne, ne_eq] at hq); omega) ?_ | fail)
    refine ⟨rfl, ⟨Nat.le_of_ble_eq_true rfl, rfl⟩, by omega, { sp ps i with least := 0 }, by rw [hqg]; rfl, rfl, ?_⟩
    simp (maxSteps := 400000) (disch := omega) only [push_cast, ↓reduceIte, reduceCtorEq, Nat.reduceAdd, Nat.reduceSub, Nat.reduceEqDiff, Nat.reduceLeDiff, Nat.reduceLT, Nat.reduceBEq, Nat.reduceDiv, Nat.reduceMod, Nat.reducePow, Nat.reduceMul, Int.reduceToNat, Int.reduceLT, Int.reduceLE]
    repeat' (first | refine WK_go ?_ | refine W_seqL ?_ | refine W_seq ?_ | (refine W_regL ?_; simp (maxSteps := 400000) (disch := omega) only [push_cast, ↓reduceIte, reduceCtorEq, Nat.reduceAdd, Nat.reduceSub, Nat.reduceEqDiff, Nat.reduceLeDiff, Nat.reduceLT, Nat.reduceBEq, Nat.reduceDiv, Nat.reduceMod, Nat.reducePow, Nat.reduceMul, Int.reduceToNat, Int.reduceLT, Int.reduceLE, List.length_set]) | refine W_block ?_ | (refine W_skip ?_; simp (maxSteps := 400000) (disch := omega) only [push_cast, ↓reduceIte, reduceCtorEq, Nat.reduceAdd, Nat.reduceSub, Nat.reduceEqDiff, Nat.reduceLeDiff, Nat.reduceLT, Nat.reduceBEq, Nat.reduceDiv, Nat.reduceMod, Nat.reducePow, Nat.reduceMul, Int.reduceToNat, Int.reduceLT, Int.reduceLE, List.length_set]) | (refine W_exit ?_; simp (maxSteps := 400000) (disch := omega) only [push_cast, ↓reduceIte, reduceCtorEq, Nat.reduceAdd, Nat.reduceSub, Nat.reduceEqDiff, Nat.reduceLeDiff, Nat.reduceLT, Nat.reduceBEq, Nat.reduceDiv, Nat.reduceMod, Nat.reducePow, Nat.reduceMul, Int.reduceToNat, Int.reduceLT, Int.reduceLE, List.length_set]) | refine And.intro (by omega) ?_ | refine And.intro (by intro hq; (try simp only [Bool.and_eq_true, Bool.or_eq_true, Bool.and_eq_false_iff, Bool.or_eq_false_iff, decide_eq_true_eq, decide_eq_false_iff_not, Bool.not_eq_true', Bool.not_eq_false', beq_iff_eq, beq_eq_false_iff_ne, ne_eq] at hq); omega) ?_ | fail)
    refine ⟨rfl, ⟨Nat.le_of_ble_eq_true rfl, rfl⟩, by omega, fixS (sp ps i), by rw [getD_set _ _ _ _ (by omega)]; rfl, rfl, ?_⟩
    simp (maxSteps := 400000) (disch := omega) only [push_cast, ↓reduceIte, reduceCtorEq, Nat.reduceAdd, Nat.reduceSub, Nat.reduceEqDiff, Nat.reduceLeDiff, Nat.reduceLT, Nat.reduceBEq, Nat.reduceDiv, Nat.reduceMod, Nat.reducePow, Nat.reduceMul, Int.reduceToNat, Int.reduceLT, Int.reduceLE, List.set_set, hqs]
    repeat' (first | refine WK_go ?_ | refine W_seqL ?_ | refine W_seq ?_ | (refine W_regL ?_; simp (maxSteps := 400000) (disch := omega) only [push_cast, ↓reduceIte, reduceCtorEq, Nat.reduceAdd, Nat.reduceSub, Nat.reduceEqDiff, Nat.reduceLeDiff, Nat.reduceLT, Nat.reduceBEq, Nat.reduceDiv, Nat.reduceMod, Nat.reducePow, Nat.reduceMul, Int.reduceToNat, Int.reduceLT, Int.reduceLE]) | refine W_block ?_ | (refine W_skip ?_; simp (maxSteps := 400000) (disch := omega) only [push_cast, ↓reduceIte, reduceCtorEq, Nat.reduceAdd, Nat.reduceSub, Nat.reduceEqDiff, Nat.reduceLeDiff, Nat.reduceLT, Nat.reduceBEq, Nat.reduceDiv, Nat.reduceMod, Nat.reducePow, Nat.reduceMul, Int.reduceToNat, Int.reduceLT, Int.reduceLE]) | (refine W_exit ?_; simp (maxSteps := 400000) (disch := omega) only [push_cast, ↓reduceIte, reduceCtorEq, Nat.reduceAdd, Nat.reduceSub, Nat.reduceEqDiff, Nat.reduceLeDiff, Nat.reduceLT, Nat.reduceBEq, Nat.reduceDiv, Nat.reduceMod, Nat.reducePow, Nat.reduceMul, Int.reduceToNat, Int.reduceLT, Int.reduceLE]) | refine And.intro (by omega) ?_ | refine And.intro (by intro hq; (try simp only [Bool.and_eq_true, Bool.or_eq_true, Bool.and_eq_false_iff, Bool.or_eq_false_iff, decide_eq_true_eq, decide_eq_false_iff_not, Bool.not_eq_true', Bool.not_eq_false', beq_iff_eq, beq_eq_false_iff_ne, ne_eq] at hq); omega) ?_ | fail)
    refine W_meet [(16, iv (gnd gs i))] [] ?_ ?_
    · unfold gnd
      refine W_condD (by rfl) (fun h => ?_) (fun h => ?_)
      · have hx := hgs _ (getD_mem 0 gs i (by omega))
        have wx : IntKind.i64.wrap (gs.getD i 0) = gs.getD i 0 := wrap64 ⟨by omega, by omega⟩
        rw [if_pos (by omega)]
        repeat' (first | refine WK_go ?_ | refine W_seqL ?_ | refine W_seq ?_ | (refine W_regL ?_; simp (maxSteps := 400000) (disch := omega) only [push_cast, ↓reduceIte, reduceCtorEq, Nat.reduceAdd, Nat.reduceSub, Nat.reduceEqDiff, Nat.reduceLeDiff, Nat.reduceLT, Nat.reduceBEq, Nat.reduceDiv, Nat.reduceMod, Nat.reducePow, Nat.reduceMul, Int.reduceToNat, Int.reduceLT, Int.reduceLE, wx]) | refine W_block ?_ | (refine W_skip ?_; simp (maxSteps := 400000) (disch := omega) only [push_cast, ↓reduceIte, reduceCtorEq, Nat.reduceAdd, Nat.reduceSub, Nat.reduceEqDiff, Nat.reduceLeDiff, Nat.reduceLT, Nat.reduceBEq, Nat.reduceDiv, Nat.reduceMod, Nat.reducePow, Nat.reduceMul, Int.reduceToNat, Int.reduceLT, Int.reduceLE, wx]) | (refine W_exit ?_; simp (maxSteps := 400000) (disch := omega) only [push_cast, ↓reduceIte, reduceCtorEq, Nat.reduceAdd, Nat.reduceSub, Nat.reduceEqDiff, Nat.reduceLeDiff, Nat.reduceLT, Nat.reduceBEq, Nat.reduceDiv, Nat.reduceMod, Nat.reducePow, Nat.reduceMul, Int.reduceToNat, Int.reduceLT, Int.reduceLE, wx]) | refine And.intro (by omega) ?_ | refine And.intro (by intro hq; (try simp only [Bool.and_eq_true, Bool.or_eq_true, Bool.and_eq_false_iff, Bool.or_eq_false_iff, decide_eq_true_eq, decide_eq_false_iff_not, Bool.not_eq_true', Bool.not_eq_false', beq_iff_eq, beq_eq_false_iff_ne, ne_eq] at hq); omega) ?_ | fail)
        rfl
      · rw [if_neg (by omega)]
        repeat' (first | refine WK_go ?_ | refine W_seqL ?_ | refine W_seq ?_ | (refine W_regL ?_; simp (maxSteps := 400000) (disch := omega) only [push_cast, ↓reduceIte, reduceCtorEq, Nat.reduceAdd, Nat.reduceSub, Nat.reduceEqDiff, Nat.reduceLeDiff, Nat.reduceLT, Nat.reduceBEq, Nat.reduceDiv, Nat.reduceMod, Nat.reducePow, Nat.reduceMul, Int.reduceToNat, Int.reduceLT, Int.reduceLE]) | refine W_block ?_ | (refine W_skip ?_; simp (maxSteps := 400000) (disch := omega) only [push_cast, ↓reduceIte, reduceCtorEq, Nat.reduceAdd, Nat.reduceSub, Nat.reduceEqDiff, Nat.reduceLeDiff, Nat.reduceLT, Nat.reduceBEq, Nat.reduceDiv, Nat.reduceMod, Nat.reducePow, Nat.reduceMul, Int.reduceToNat, Int.reduceLT, Int.reduceLE]) | (refine W_exit ?_; simp (maxSteps := 400000) (disch := omega) only [push_cast, ↓reduceIte, reduceCtorEq, Nat.reduceAdd, Nat.reduceSub, Nat.reduceEqDiff, Nat.reduceLeDiff, Nat.reduceLT, Nat.reduceBEq, Nat.reduceDiv, Nat.reduceMod, Nat.reducePow, Nat.reduceMul, Int.reduceToNat, Int.reduceLT, Int.reduceLE]) | refine And.intro (by omega) ?_ | refine And.intro (by intro hq; (try simp only [Bool.and_eq_true, Bool.or_eq_true, Bool.and_eq_false_iff, Bool.or_eq_false_iff, decide_eq_true_eq, decide_eq_false_iff_not, Bool.not_eq_true', Bool.not_eq_false', beq_iff_eq, beq_eq_false_iff_ne, ne_eq] at hq); omega) ?_ | fail)
        rfl
    have wr2 : IntKind.i64.wrap raise = raise := wrap64 ⟨by omega, by omega⟩
    simp (maxSteps := 400000) (disch := omega) only [push_cast, ↓reduceIte, reduceCtorEq, Nat.reduceAdd, Nat.reduceSub, Nat.reduceEqDiff, Nat.reduceLeDiff, Nat.reduceLT, Nat.reduceBEq, Nat.reduceDiv, Nat.reduceMod, Nat.reducePow, Nat.reduceMul, Int.reduceToNat, Int.reduceLT, Int.reduceLE]
    repeat' (first | refine WK_go ?_ | refine W_seqL ?_ | refine W_seq ?_ | (refine W_regL ?_; simp (maxSteps := 400000) (disch := omega) only [push_cast, ↓reduceIte, reduceCtorEq, Nat.reduceAdd, Nat.reduceSub, Nat.reduceEqDiff, Nat.reduceLeDiff, Nat.reduceLT, Nat.reduceBEq, Nat.reduceDiv, Nat.reduceMod, Nat.reducePow, Nat.reduceMul, Int.reduceToNat, Int.reduceLT, Int.reduceLE]) | refine W_block ?_ | (refine W_skip ?_; simp (maxSteps := 400000) (disch := omega) only [push_cast, ↓reduceIte, reduceCtorEq, Nat.reduceAdd, Nat.reduceSub, Nat.reduceEqDiff, Nat.reduceLeDiff, Nat.reduceLT, Nat.reduceBEq, Nat.reduceDiv, Nat.reduceMod, Nat.reducePow, Nat.reduceMul, Int.reduceToNat, Int.reduceLT, Int.reduceLE]) | (refine W_exit ?_; simp (maxSteps := 400000) (disch := omega) only [push_cast, ↓reduceIte, reduceCtorEq, Nat.reduceAdd, Nat.reduceSub, Nat.reduceEqDiff, Nat.reduceLeDiff, Nat.reduceLT, Nat.reduceBEq, Nat.reduceDiv, Nat.reduceMod, Nat.reducePow, Nat.reduceMul, Int.reduceToNat, Int.reduceLT, Int.reduceLE]) | refine And.intro (by omega) ?_ | refine And.intro (by intro hq; (try simp only [Bool.and_eq_true, Bool.or_eq_true, Bool.and_eq_false_iff, Bool.or_eq_false_iff, decide_eq_true_eq, decide_eq_false_iff_not, Bool.not_eq_true', Bool.not_eq_false', beq_iff_eq, beq_eq_false_iff_ne, ne_eq] at hq); omega) ?_ | fail)
    refine ⟨rfl, trivial, Int, 0, cI, [(500 : Int)], rfl, by omega, fun x _ => ⟨rfl, rfl⟩, rfl, ?_⟩
    simp (maxSteps := 400000) (disch := omega) only [push_cast, ↓reduceIte, reduceCtorEq, Nat.reduceAdd, Nat.reduceSub, Nat.reduceEqDiff, Nat.reduceLeDiff, Nat.reduceLT, Nat.reduceBEq, Nat.reduceDiv, Nat.reduceMod, Nat.reducePow, Nat.reduceMul, Int.reduceToNat, Int.reduceLT, Int.reduceLE]
    refine ⟨rfl, ⟨Nat.le_of_ble_eq_true rfl, rfl⟩, trivial, [(500 : Int)], rfl, by first | omega | (simp; omega), by first | omega | (simp; omega), ?_⟩
    simp (maxSteps := 400000) (disch := omega) only [push_cast, ↓reduceIte, reduceCtorEq, Nat.reduceAdd, Nat.reduceSub, Nat.reduceEqDiff, Nat.reduceLeDiff, Nat.reduceLT, Nat.reduceBEq, Nat.reduceDiv, Nat.reduceMod, Nat.reducePow, Nat.reduceMul, Int.reduceToNat, Int.reduceLT, Int.reduceLE]
    repeat' (first | refine WK_go ?_ | refine W_seqL ?_ | refine W_seq ?_ | (refine W_regL ?_; simp (maxSteps := 400000) (disch := omega) only [push_cast, ↓reduceIte, reduceCtorEq, Nat.reduceAdd, Nat.reduceSub, Nat.reduceEqDiff, Nat.reduceLeDiff, Nat.reduceLT, Nat.reduceBEq, Nat.reduceDiv, Nat.reduceMod, Nat.reducePow, Nat.reduceMul, Int.reduceToNat, Int.reduceLT, Int.reduceLE]) | refine W_block ?_ | (refine W_skip ?_; simp (maxSteps := 400000) (disch := omega) only [push_cast, ↓reduceIte, reduceCtorEq, Nat.reduceAdd, Nat.reduceSub, Nat.reduceEqDiff, Nat.reduceLeDiff, Nat.reduceLT, Nat.reduceBEq, Nat.reduceDiv, Nat.reduceMod, Nat.reducePow, Nat.reduceMul, Int.reduceToNat, Int.reduceLT, Int.reduceLE]) | (refine W_exit ?_; simp (maxSteps := 400000) (disch := omega) only [push_cast, ↓reduceIte, reduceCtorEq, Nat.reduceAdd, Nat.reduceSub, Nat.reduceEqDiff, Nat.reduceLeDiff, Nat.reduceLT, Nat.reduceBEq, Nat.reduceDiv, Nat.reduceMod, Nat.reducePow, Nat.reduceMul, Int.reduceToNat, Int.reduceLT, Int.reduceLE]) | refine And.intro (by omega) ?_ | refine And.intro (by intro hq; (try simp only [Bool.and_eq_true, Bool.or_eq_true, Bool.and_eq_false_iff, Bool.or_eq_false_iff, decide_eq_true_eq, decide_eq_false_iff_not, Bool.not_eq_true', Bool.not_eq_false', beq_iff_eq, beq_eq_false_iff_ne, ne_eq] at hq); omega) ?_ | fail)
    refine ⟨rfl, trivial, Int, 0, cI, [gnd gs i], rfl, by omega, fun x _ => ⟨rfl, rfl⟩, rfl, ?_⟩
    simp (maxSteps := 400000) (disch := omega) only [push_cast, ↓reduceIte, reduceCtorEq, Nat.reduceAdd, Nat.reduceSub, Nat.reduceEqDiff, Nat.reduceLeDiff, Nat.reduceLT, Nat.reduceBEq, Nat.reduceDiv, Nat.reduceMod, Nat.reducePow, Nat.reduceMul, Int.reduceToNat, Int.reduceLT, Int.reduceLE]
    refine ⟨rfl, ⟨Nat.le_of_ble_eq_true rfl, rfl⟩, trivial, [gnd gs i], rfl, by first | omega | (simp; omega), by first | omega | (simp; omega), ?_⟩
    simp (maxSteps := 400000) (disch := omega) only [push_cast, ↓reduceIte, reduceCtorEq, Nat.reduceAdd, Nat.reduceSub, Nat.reduceEqDiff, Nat.reduceLeDiff, Nat.reduceLT, Nat.reduceBEq, Nat.reduceDiv, Nat.reduceMod, Nat.reducePow, Nat.reduceMul, Int.reduceToNat, Int.reduceLT, Int.reduceLE]
    repeat' (first | refine WK_go ?_ | refine W_seqL ?_ | refine W_seq ?_ | (refine W_regL ?_; simp (maxSteps := 400000) (disch := omega) only [push_cast, ↓reduceIte, reduceCtorEq, Nat.reduceAdd, Nat.reduceSub, Nat.reduceEqDiff, Nat.reduceLeDiff, Nat.reduceLT, Nat.reduceBEq, Nat.reduceDiv, Nat.reduceMod, Nat.reducePow, Nat.reduceMul, Int.reduceToNat, Int.reduceLT, Int.reduceLE, wr2]) | refine W_block ?_ | (refine W_skip ?_; simp (maxSteps := 400000) (disch := omega) only [push_cast, ↓reduceIte, reduceCtorEq, Nat.reduceAdd, Nat.reduceSub, Nat.reduceEqDiff, Nat.reduceLeDiff, Nat.reduceLT, Nat.reduceBEq, Nat.reduceDiv, Nat.reduceMod, Nat.reducePow, Nat.reduceMul, Int.reduceToNat, Int.reduceLT, Int.reduceLE, wr2]) | (refine W_exit ?_; simp (maxSteps := 400000) (disch := omega) only [push_cast, ↓reduceIte, reduceCtorEq, Nat.reduceAdd, Nat.reduceSub, Nat.reduceEqDiff, Nat.reduceLeDiff, Nat.reduceLT, Nat.reduceBEq, Nat.reduceDiv, Nat.reduceMod, Nat.reducePow, Nat.reduceMul, Int.reduceToNat, Int.reduceLT, Int.reduceLE, wr2]) | refine And.intro (by omega) ?_ | refine And.intro (by intro hq; (try simp only [Bool.and_eq_true, Bool.or_eq_true, Bool.and_eq_false_iff, Bool.or_eq_false_iff, decide_eq_true_eq, decide_eq_false_iff_not, Bool.not_eq_true', Bool.not_eq_false', beq_iff_eq, beq_eq_false_iff_ne, ne_eq] at hq); omega) ?_ | fail)
    refine ⟨rfl, trivial, Int, 0, cI, [gnd gs i + raise], rfl, by omega, fun x _ => ⟨rfl, rfl⟩, rfl, ?_⟩
    simp (maxSteps := 400000) (disch := omega) only [push_cast, ↓reduceIte, reduceCtorEq, Nat.reduceAdd, Nat.reduceSub, Nat.reduceEqDiff, Nat.reduceLeDiff, Nat.reduceLT, Nat.reduceBEq, Nat.reduceDiv, Nat.reduceMod, Nat.reducePow, Nat.reduceMul, Int.reduceToNat, Int.reduceLT, Int.reduceLE]
    refine ⟨rfl, ⟨Nat.le_of_ble_eq_true rfl, rfl⟩, trivial, [gnd gs i + raise], rfl, by first | omega | (simp; omega), by first | omega | (simp; omega), ?_⟩
    simp (maxSteps := 400000) (disch := omega) only [push_cast, ↓reduceIte, reduceCtorEq, Nat.reduceAdd, Nat.reduceSub, Nat.reduceEqDiff, Nat.reduceLeDiff, Nat.reduceLT, Nat.reduceBEq, Nat.reduceDiv, Nat.reduceMod, Nat.reducePow, Nat.reduceMul, Int.reduceToNat, Int.reduceLT, Int.reduceLE]
    repeat' (first | refine WK_go ?_ | refine W_seqL ?_ | refine W_seq ?_ | (refine W_regL ?_; simp (maxSteps := 400000) (disch := omega) only [push_cast, ↓reduceIte, reduceCtorEq, Nat.reduceAdd, Nat.reduceSub, Nat.reduceEqDiff, Nat.reduceLeDiff, Nat.reduceLT, Nat.reduceBEq, Nat.reduceDiv, Nat.reduceMod, Nat.reducePow, Nat.reduceMul, Int.reduceToNat, Int.reduceLT, Int.reduceLE]) | refine W_block ?_ | (refine W_skip ?_; simp (maxSteps := 400000) (disch := omega) only [push_cast, ↓reduceIte, reduceCtorEq, Nat.reduceAdd, Nat.reduceSub, Nat.reduceEqDiff, Nat.reduceLeDiff, Nat.reduceLT, Nat.reduceBEq, Nat.reduceDiv, Nat.reduceMod, Nat.reducePow, Nat.reduceMul, Int.reduceToNat, Int.reduceLT, Int.reduceLE]) | (refine W_exit ?_; simp (maxSteps := 400000) (disch := omega) only [push_cast, ↓reduceIte, reduceCtorEq, Nat.reduceAdd, Nat.reduceSub, Nat.reduceEqDiff, Nat.reduceLeDiff, Nat.reduceLT, Nat.reduceBEq, Nat.reduceDiv, Nat.reduceMod, Nat.reducePow, Nat.reduceMul, Int.reduceToNat, Int.reduceLT, Int.reduceLE]) | refine And.intro (by omega) ?_ | refine And.intro (by intro hq; (try simp only [Bool.and_eq_true, Bool.or_eq_true, Bool.and_eq_false_iff, Bool.or_eq_false_iff, decide_eq_true_eq, decide_eq_false_iff_not, Bool.not_eq_true', Bool.not_eq_false', beq_iff_eq, beq_eq_false_iff_ne, ne_eq] at hq); omega) ?_ | fail)
    refine ⟨i + 1, by omega, by omega, by rfl, ?_⟩
    rw [hrs1, hrs2, List.replicate_succ']
    simp (maxSteps := 400000) (disch := omega) only [push_cast, ↓reduceIte, reduceCtorEq, Nat.reduceAdd, Nat.reduceSub, Nat.reduceEqDiff, Nat.reduceLeDiff, Nat.reduceLT, Nat.reduceBEq, Nat.reduceDiv, Nat.reduceMod, Nat.reducePow, Nat.reduceMul, Int.reduceToNat, Int.reduceLT, Int.reduceLE, S.mk.injEq, List.cons.injEq, Prod.mk.injEq, AV.v.injEq, Value.int.injEq, Value.bool.injEq, Blk.cells.injEq]
  · obtain rfl : i = ps.length := by omega
    rw [qL_end]
    refine W_le (le_frzR 11 [1, 2, 3, 9, 12, 13, 14] [26, 25, 24, 6] 31 16 1 62 6 dS cS (ps.map fixS) rfl rfl rfl rfl) ?_
    simp (maxSteps := 400000) (disch := omega) only [push_cast, ↓reduceIte, reduceCtorEq, Nat.reduceAdd, Nat.reduceSub, Nat.reduceEqDiff, Nat.reduceLeDiff, Nat.reduceLT, Nat.reduceBEq, Nat.reduceDiv, Nat.reduceMod, Nat.reducePow, Nat.reduceMul, Int.reduceToNat, Int.reduceLT, Int.reduceLE]
    refine W_le (le_frzR 12 [1, 2, 3, 9, 11, 13, 14] [26, 25, 6] 31 24 ps.length 2 1 0 cI (List.replicate ps.length 500) rfl rfl rfl rfl) ?_
    simp (maxSteps := 400000) (disch := omega) only [push_cast, ↓reduceIte, reduceCtorEq, Nat.reduceAdd, Nat.reduceSub, Nat.reduceEqDiff, Nat.reduceLeDiff, Nat.reduceLT, Nat.reduceBEq, Nat.reduceDiv, Nat.reduceMod, Nat.reducePow, Nat.reduceMul, Int.reduceToNat, Int.reduceLT, Int.reduceLE]
    refine W_le (le_frzR 13 [1, 2, 3, 9, 11, 12, 14] [26, 6] 31 25 ps.length 2 1 0 cI ((List.range ps.length).map (gnd gs)) rfl rfl rfl rfl) ?_
    simp (maxSteps := 400000) (disch := omega) only [push_cast, ↓reduceIte, reduceCtorEq, Nat.reduceAdd, Nat.reduceSub, Nat.reduceEqDiff, Nat.reduceLeDiff, Nat.reduceLT, Nat.reduceBEq, Nat.reduceDiv, Nat.reduceMod, Nat.reducePow, Nat.reduceMul, Int.reduceToNat, Int.reduceLT, Int.reduceLE]
    refine W_le (le_frzR 14 [1, 2, 3, 9, 11, 12, 13] [6] 31 26 ps.length 2 1 0 cI ((List.range ps.length).map (fun j => gnd gs j + raise)) rfl rfl rfl rfl) ?_
    simp (maxSteps := 400000) (disch := omega) only [push_cast, ↓reduceIte, reduceCtorEq, Nat.reduceAdd, Nat.reduceSub, Nat.reduceEqDiff, Nat.reduceLeDiff, Nat.reduceLT, Nat.reduceBEq, Nat.reduceDiv, Nat.reduceMod, Nat.reducePow, Nat.reduceMul, Int.reduceToNat, Int.reduceLT, Int.reduceLE]
    have wl : IntKind.i64.wrap len = len := wrap64 ⟨by omega, by omega⟩
    have n0 := hsm.n 0 (by omega)
    have n1 := hsm.n 1 (by omega)
    have n2 := hsm.n 2 (by omega)
    simp only [Nat.reduceMul] at n0 n1 n2
    generalize hc : len + 1000 = c at *
    have hcb : 1000 ≤ c ∧ c ≤ 1255 := by omega
    have q0 := mulB (C := 60240) (A := 1255) (B := 48) (show -1255 ≤ c ∧ c ≤ 1255 by omega) (show -48 ≤ sumsL ps 0 ∧ sumsL ps 0 ≤ 48 by omega) (by decide)
    have q1 := mulB (C := 60240) (A := 1255) (B := 48) (show -1255 ≤ c ∧ c ≤ 1255 by omega) (show -48 ≤ sumsL ps 3 ∧ sumsL ps 3 ≤ 48 by omega) (by decide)
    have q2 := mulB (C := 60240) (A := 1255) (B := 48) (show -1255 ≤ c ∧ c ≤ 1255 by omega) (show -48 ≤ sumsL ps 6 ∧ sumsL ps 6 ≤ 48 by omega) (by decide)
    repeat' (first | refine WK_go ?_ | refine W_seqL ?_ | refine W_seq ?_ | (refine W_regL ?_; simp (maxSteps := 400000) (disch := omega) only [push_cast, ↓reduceIte, reduceCtorEq, Nat.reduceAdd, Nat.reduceSub, Nat.reduceEqDiff, Nat.reduceLeDiff, Nat.reduceLT, Nat.reduceBEq, Nat.reduceDiv, Nat.reduceMod, Nat.reducePow, Nat.reduceMul, Int.reduceToNat, Int.reduceLT, Int.reduceLE, wl, hc]) | refine W_block ?_ | (refine W_skip ?_; simp (maxSteps := 400000) (disch := omega) only [push_cast, ↓reduceIte, reduceCtorEq, Nat.reduceAdd, Nat.reduceSub, Nat.reduceEqDiff, Nat.reduceLeDiff, Nat.reduceLT, Nat.reduceBEq, Nat.reduceDiv, Nat.reduceMod, Nat.reducePow, Nat.reduceMul, Int.reduceToNat, Int.reduceLT, Int.reduceLE, wl, hc]) | (refine W_exit ?_; simp (maxSteps := 400000) (disch := omega) only [push_cast, ↓reduceIte, reduceCtorEq, Nat.reduceAdd, Nat.reduceSub, Nat.reduceEqDiff, Nat.reduceLeDiff, Nat.reduceLT, Nat.reduceBEq, Nat.reduceDiv, Nat.reduceMod, Nat.reducePow, Nat.reduceMul, Int.reduceToNat, Int.reduceLT, Int.reduceLE, wl, hc]) | refine And.intro (by omega) ?_ | refine And.intro (by intro hq; (try simp only [Bool.and_eq_true, Bool.or_eq_true, Bool.and_eq_false_iff, Bool.or_eq_false_iff, decide_eq_true_eq, decide_eq_false_iff_not, Bool.not_eq_true', Bool.not_eq_false', beq_iff_eq, beq_eq_false_iff_ne, ne_eq] at hq); omega) ?_ | fail)
    let fl : Nat → Int := fun j => c * sumsL ps (3 * j)
    have hfl : ∀ j, fl j = c * sumsL ps (3 * j) := fun j => rfl
    let QP := ps.map fixS
    have hQ : QP = ps.map fixS := rfl
    have hQl : QP.length = ps.length := by rw [hQ, List.length_map]
    have hQc : chkP QP = 0 := chk_fix hch
    have hQo := (chkP_ok hQc).2.1
    have hgg : ∀ j, (List.replicate ps.length (500 : Int)).getD j 0 = if j < ps.length then 500 else 0 := fun j => by
      simp only [List.getD_eq_getElem?_getD, List.getElem?_replicate]
      split <;> rfl
    have hff : ∀ j, j < 3 → okF (fl j) = true := fun j hj => by
      unfold okF
      rw [inR_iff, hfl]
      have m : 0 ≤ c * sumsL ps (3 * j) := Int.mul_nonneg (by omega) (hsm.n j hj).1
      rcases (show j = 0 ∨ j = 1 ∨ j = 2 by omega) with rfl | rfl | rfl <;> simp only [Nat.reduceMul] at m ⊢ <;> omega
    have hGOK : ∀ gr : List Int, gr.length = ps.length → (∀ j, j < ps.length → -16384 ≤ gr.getD j 0 ∧ gr.getD j 0 ≤ 16384) → GOK QP fl gr := fun gr h1 h2 =>
      ⟨hQc, by rw [hQl]; exact h1, fun j hj => inR_iff.2 (h2 j (by omega)), hff⟩
    let lev := List.replicate ps.length (500 : Int)
    let low := (List.range ps.length).map (gnd gs)
    let high := (List.range ps.length).map (fun j => gnd gs j + raise)
    have g1 : GOK QP fl lev := hGOK lev (by simp [lev]) (fun j hj => by rw [hgg j, if_pos hj]; omega)
    have g2 : GOK QP fl low := hGOK low (by simp [low]) (fun j hj => by
      have := hgb j
      rw [show low.getD j 0 = gnd gs j from rangeD hj]; omega)
    have g3 : GOK QP fl high := hGOK high (by simp [high]) (fun j hj => by
      have := hgb j
      rw [show high.getD j 0 = gnd gs j + raise from rangeD hj]; omega)
    have c1 := fn38 QP fl lev (by omega) (by simp [lev]; omega)
    have c2 := fn38 QP fl low (by omega) (by simp [low]; omega)
    have c3' := fn38 QP fl high (by omega) (by simp [high]; omega)
    change Sy.Fn _ _ [_, .agg [iv (c * sumsL ps 0), iv (c * sumsL ps 3), iv (c * sumsL ps 6)], _] _ at c1 c2 c3'
    have hlevV : ∀ i, i < QP.length → c - 3 ≤ stV QP fl lev i ∧ stV QP fl lev i ≤ c := fun i hi =>
      level_len hQc (fun g hg => by rw [hfl, hQ, sums_fix]) (fun j hj => by rw [hgg j, if_pos (by omega)]) hi
    have hlm : ∀ i, i < QP.length → (sp QP i).least = 0 ∧ (sp QP i).most = 4096 := fun i hi => by
      rw [hQ, sp_map ps i (by omega)]; exact ⟨rfl, rfl⟩
    have hX1 : ∀ i, i < QP.length → stX QP fl lev i = 0 ∨ stX QP fl lev i = 4 := fun i hi => by
      unfold stX
      by_cases q : beyA QP (ptS QP i) = true
      · rw [if_pos q]; exact .inr rfl
      · have hv := hlevV i hi
        obtain ⟨e1, e2⟩ := hlm i hi
        rw [if_neg q, e1, e2, if_neg]
        · exact .inl rfl
        · rw [Bool.not_eq_false, inR_iff]; omega
    repeat' (first | refine WK_go ?_ | refine W_seqL ?_ | refine W_seq ?_ | (refine W_regL ?_; simp (maxSteps := 400000) (disch := omega) only [push_cast, ↓reduceIte, reduceCtorEq, Nat.reduceAdd, Nat.reduceSub, Nat.reduceEqDiff, Nat.reduceLeDiff, Nat.reduceLT, Nat.reduceBEq, Nat.reduceDiv, Nat.reduceMod, Nat.reducePow, Nat.reduceMul, Int.reduceToNat, Int.reduceLT, Int.reduceLE]) | refine W_block ?_ | (refine W_skip ?_; simp (maxSteps := 400000) (disch := omega) only [push_cast, ↓reduceIte, reduceCtorEq, Nat.reduceAdd, Nat.reduceSub, Nat.reduceEqDiff, Nat.reduceLeDiff, Nat.reduceLT, Nat.reduceBEq, Nat.reduceDiv, Nat.reduceMod, Nat.reducePow, Nat.reduceMul, Int.reduceToNat, Int.reduceLT, Int.reduceLE]) | (refine W_exit ?_; simp (maxSteps := 400000) (disch := omega) only [push_cast, ↓reduceIte, reduceCtorEq, Nat.reduceAdd, Nat.reduceSub, Nat.reduceEqDiff, Nat.reduceLeDiff, Nat.reduceLT, Nat.reduceBEq, Nat.reduceDiv, Nat.reduceMod, Nat.reducePow, Nat.reduceMul, Int.reduceToNat, Int.reduceLT, Int.reduceLE]) | refine And.intro (by omega) ?_ | refine And.intro (by intro hq; (try simp only [Bool.and_eq_true, Bool.or_eq_true, Bool.and_eq_false_iff, Bool.or_eq_false_iff, decide_eq_true_eq, decide_eq_false_iff_not, Bool.not_eq_true', Bool.not_eq_false', beq_iff_eq, beq_eq_false_iff_ne, ne_eq] at hq); omega) ?_ | (refine CallC.now (c1) ?_; simp (maxSteps := 400000) (disch := omega) only [push_cast, ↓reduceIte, reduceCtorEq, Nat.reduceAdd, Nat.reduceSub, Nat.reduceEqDiff, Nat.reduceLeDiff, Nat.reduceLT, Nat.reduceBEq, Nat.reduceDiv, Nat.reduceMod, Nat.reducePow, Nat.reduceMul, Int.reduceToNat, Int.reduceLT, Int.reduceLE]) | fail)
    refine W_cond (by rfl) (fun _ => ?_) (fun h4 => ?_)
    · repeat' (first | refine WK_go ?_ | refine W_seqL ?_ | refine W_seq ?_ | (refine W_regL ?_; simp (maxSteps := 400000) (disch := omega) only [push_cast, ↓reduceIte, reduceCtorEq, Nat.reduceAdd, Nat.reduceSub, Nat.reduceEqDiff, Nat.reduceLeDiff, Nat.reduceLT, Nat.reduceBEq, Nat.reduceDiv, Nat.reduceMod, Nat.reducePow, Nat.reduceMul, Int.reduceToNat, Int.reduceLT, Int.reduceLE]) | refine W_block ?_ | (refine W_skip ?_; simp (maxSteps := 400000) (disch := omega) only [push_cast, ↓reduceIte, reduceCtorEq, Nat.reduceAdd, Nat.reduceSub, Nat.reduceEqDiff, Nat.reduceLeDiff, Nat.reduceLT, Nat.reduceBEq, Nat.reduceDiv, Nat.reduceMod, Nat.reducePow, Nat.reduceMul, Int.reduceToNat, Int.reduceLT, Int.reduceLE]) | (refine W_exit ?_; simp (maxSteps := 400000) (disch := omega) only [push_cast, ↓reduceIte, reduceCtorEq, Nat.reduceAdd, Nat.reduceSub, Nat.reduceEqDiff, Nat.reduceLeDiff, Nat.reduceLT, Nat.reduceBEq, Nat.reduceDiv, Nat.reduceMod, Nat.reducePow, Nat.reduceMul, Int.reduceToNat, Int.reduceLT, Int.reduceLE]) | refine And.intro (by omega) ?_ | refine And.intro (by intro hq; (try simp only [Bool.and_eq_true, Bool.or_eq_true, Bool.and_eq_false_iff, Bool.or_eq_false_iff, decide_eq_true_eq, decide_eq_false_iff_not, Bool.not_eq_true', Bool.not_eq_false', beq_iff_eq, beq_eq_false_iff_ne, ne_eq] at hq); omega) ?_ | (refine CallC.now (fn17) ?_; simp (maxSteps := 400000) (disch := omega) only [push_cast, ↓reduceIte, reduceCtorEq, Nat.reduceAdd, Nat.reduceSub, Nat.reduceEqDiff, Nat.reduceLeDiff, Nat.reduceLT, Nat.reduceBEq, Nat.reduceDiv, Nat.reduceMod, Nat.reducePow, Nat.reduceMul, Int.reduceToNat, Int.reduceLT, Int.reduceLE]) | fail)
      exact W_ret ⟨[_], ⟨rfl, rfl⟩, rfl⟩
    have h4 : skE QP fl lev ≠ 4 := by simpa using h4
    rcases skE_cases (gE_of g1) with ⟨e1, l1, x1⟩ | ⟨i, hi, e1, x1⟩
    case inr =>
      exfalso
      rcases hX1 i hi with q | q
      · exact x1 q
      · rw [q] at e1; exact h4 e1
    obtain ⟨LV, hLV⟩ : ∃ L, L = (List.range QP.length).map (stV QP fl lev) := ⟨_, rfl⟩
    rw [e1, l1, ← hLV]
    have hll : LV.length = ps.length := by rw [hLV]; simp [hQl]
    have hLd : ∀ i, i < ps.length → c - 3 ≤ LV.getD i 0 ∧ LV.getD i 0 ≤ c := fun i hi => by
      rw [hLV, rangeD (by omega)]; exact hlevV i (by omega)
    have hqlen : (ps.map fixS).length = ps.length := List.length_map ..
    repeat' (first | refine WK_go ?_ | refine W_seqL ?_ | refine W_seq ?_ | (refine W_regL ?_; simp (maxSteps := 400000) (disch := omega) only [push_cast, ↓reduceIte, reduceCtorEq, Nat.reduceAdd, Nat.reduceSub, Nat.reduceEqDiff, Nat.reduceLeDiff, Nat.reduceLT, Nat.reduceBEq, Nat.reduceDiv, Nat.reduceMod, Nat.reducePow, Nat.reduceMul, Int.reduceToNat, Int.reduceLT, Int.reduceLE, hqlen]) | refine W_block ?_ | (refine W_skip ?_; simp (maxSteps := 400000) (disch := omega) only [push_cast, ↓reduceIte, reduceCtorEq, Nat.reduceAdd, Nat.reduceSub, Nat.reduceEqDiff, Nat.reduceLeDiff, Nat.reduceLT, Nat.reduceBEq, Nat.reduceDiv, Nat.reduceMod, Nat.reducePow, Nat.reduceMul, Int.reduceToNat, Int.reduceLT, Int.reduceLE, hqlen]) | (refine W_exit ?_; simp (maxSteps := 400000) (disch := omega) only [push_cast, ↓reduceIte, reduceCtorEq, Nat.reduceAdd, Nat.reduceSub, Nat.reduceEqDiff, Nat.reduceLeDiff, Nat.reduceLT, Nat.reduceBEq, Nat.reduceDiv, Nat.reduceMod, Nat.reducePow, Nat.reduceMul, Int.reduceToNat, Int.reduceLT, Int.reduceLE, hqlen]) | refine And.intro (by omega) ?_ | refine And.intro (by intro hq; (try simp only [Bool.and_eq_true, Bool.or_eq_true, Bool.and_eq_false_iff, Bool.or_eq_false_iff, decide_eq_true_eq, decide_eq_false_iff_not, Bool.not_eq_true', Bool.not_eq_false', beq_iff_eq, beq_eq_false_iff_ne, ne_eq] at hq); omega) ?_ | fail)
    refine W_cond (by rfl) (fun q => by rw [hll] at q; simp at q) (fun _ => ?_)
    repeat' (first | refine WK_go ?_ | refine W_seqL ?_ | refine W_seq ?_ | (refine W_regL ?_; simp (maxSteps := 400000) (disch := omega) only [push_cast, ↓reduceIte, reduceCtorEq, Nat.reduceAdd, Nat.reduceSub, Nat.reduceEqDiff, Nat.reduceLeDiff, Nat.reduceLT, Nat.reduceBEq, Nat.reduceDiv, Nat.reduceMod, Nat.reducePow, Nat.reduceMul, Int.reduceToNat, Int.reduceLT, Int.reduceLE]) | refine W_block ?_ | (refine W_skip ?_; simp (maxSteps := 400000) (disch := omega) only [push_cast, ↓reduceIte, reduceCtorEq, Nat.reduceAdd, Nat.reduceSub, Nat.reduceEqDiff, Nat.reduceLeDiff, Nat.reduceLT, Nat.reduceBEq, Nat.reduceDiv, Nat.reduceMod, Nat.reducePow, Nat.reduceMul, Int.reduceToNat, Int.reduceLT, Int.reduceLE]) | (refine W_exit ?_; simp (maxSteps := 400000) (disch := omega) only [push_cast, ↓reduceIte, reduceCtorEq, Nat.reduceAdd, Nat.reduceSub, Nat.reduceEqDiff, Nat.reduceLeDiff, Nat.reduceLT, Nat.reduceBEq, Nat.reduceDiv, Nat.reduceMod, Nat.reducePow, Nat.reduceMul, Int.reduceToNat, Int.reduceLT, Int.reduceLE]) | refine And.intro (by omega) ?_ | refine And.intro (by intro hq; (try simp only [Bool.and_eq_true, Bool.or_eq_true, Bool.and_eq_false_iff, Bool.or_eq_false_iff, decide_eq_true_eq, decide_eq_false_iff_not, Bool.not_eq_true', Bool.not_eq_false', beq_iff_eq, beq_eq_false_iff_ne, ne_eq] at hq); omega) ?_ | fail)
    refine W_loopU (fun i : Nat => [(21, iv i)]) (fun i => []) (fun i => i ≤ ps.length) (fun i => ps.length - i) 0 (by omega) (by rfl) (by rfl) (fun i hi => ?_)
    simp (maxSteps := 400000) (disch := omega) only [push_cast, ↓reduceIte, reduceCtorEq, Nat.reduceAdd, Nat.reduceSub, Nat.reduceEqDiff, Nat.reduceLeDiff, Nat.reduceLT, Nat.reduceBEq, Nat.reduceDiv, Nat.reduceMod, Nat.reducePow, Nat.reduceMul, Int.reduceToNat, Int.reduceLT, Int.reduceLE]
    repeat' (first | refine WK_go ?_ | refine W_seqL ?_ | refine W_seq ?_ | (refine W_regL ?_; simp (maxSteps := 400000) (disch := omega) only [push_cast, ↓reduceIte, reduceCtorEq, Nat.reduceAdd, Nat.reduceSub, Nat.reduceEqDiff, Nat.reduceLeDiff, Nat.reduceLT, Nat.reduceBEq, Nat.reduceDiv, Nat.reduceMod, Nat.reducePow, Nat.reduceMul, Int.reduceToNat, Int.reduceLT, Int.reduceLE]) | refine W_block ?_ | (refine W_skip ?_; simp (maxSteps := 400000) (disch := omega) only [push_cast, ↓reduceIte, reduceCtorEq, Nat.reduceAdd, Nat.reduceSub, Nat.reduceEqDiff, Nat.reduceLeDiff, Nat.reduceLT, Nat.reduceBEq, Nat.reduceDiv, Nat.reduceMod, Nat.reducePow, Nat.reduceMul, Int.reduceToNat, Int.reduceLT, Int.reduceLE]) | (refine W_exit ?_; simp (maxSteps := 400000) (disch := omega) only [push_cast, ↓reduceIte, reduceCtorEq, Nat.reduceAdd, Nat.reduceSub, Nat.reduceEqDiff, Nat.reduceLeDiff, Nat.reduceLT, Nat.reduceBEq, Nat.reduceDiv, Nat.reduceMod, Nat.reducePow, Nat.reduceMul, Int.reduceToNat, Int.reduceLT, Int.reduceLE]) | refine And.intro (by omega) ?_ | refine And.intro (by intro hq; (try simp only [Bool.and_eq_true, Bool.or_eq_true, Bool.and_eq_false_iff, Bool.or_eq_false_iff, decide_eq_true_eq, decide_eq_false_iff_not, Bool.not_eq_true', Bool.not_eq_false', beq_iff_eq, beq_eq_false_iff_ne, ne_eq] at hq); omega) ?_ | fail)
    refine W_condD (by rfl) (fun h5 => ?_) (fun h5 => ?_)
    · have hlt : i < ps.length := by omega
      have hv := hLd i hlt
      repeat' (first | refine WK_go ?_ | refine W_seqL ?_ | refine W_seq ?_ | (refine W_regL ?_; simp (maxSteps := 400000) (disch := omega) only [push_cast, ↓reduceIte, reduceCtorEq, Nat.reduceAdd, Nat.reduceSub, Nat.reduceEqDiff, Nat.reduceLeDiff, Nat.reduceLT, Nat.reduceBEq, Nat.reduceDiv, Nat.reduceMod, Nat.reducePow, Nat.reduceMul, Int.reduceToNat, Int.reduceLT, Int.reduceLE]) | refine W_block ?_ | (refine W_skip ?_; simp (maxSteps := 400000) (disch := omega) only [push_cast, ↓reduceIte, reduceCtorEq, Nat.reduceAdd, Nat.reduceSub, Nat.reduceEqDiff, Nat.reduceLeDiff, Nat.reduceLT, Nat.reduceBEq, Nat.reduceDiv, Nat.reduceMod, Nat.reducePow, Nat.reduceMul, Int.reduceToNat, Int.reduceLT, Int.reduceLE]) | (refine W_exit ?_; simp (maxSteps := 400000) (disch := omega) only [push_cast, ↓reduceIte, reduceCtorEq, Nat.reduceAdd, Nat.reduceSub, Nat.reduceEqDiff, Nat.reduceLeDiff, Nat.reduceLT, Nat.reduceBEq, Nat.reduceDiv, Nat.reduceMod, Nat.reducePow, Nat.reduceMul, Int.reduceToNat, Int.reduceLT, Int.reduceLE]) | refine And.intro (by omega) ?_ | refine And.intro (by intro hq; (try simp only [Bool.and_eq_true, Bool.or_eq_true, Bool.and_eq_false_iff, Bool.or_eq_false_iff, decide_eq_true_eq, decide_eq_false_iff_not, Bool.not_eq_true', Bool.not_eq_false', beq_iff_eq, beq_eq_false_iff_ne, ne_eq] at hq); omega) ?_ | fail)
      refine W_cond (by rfl) (fun q => by simp only [Bool.or_eq_true, decide_eq_true_eq] at q; omega) (fun _ => ?_)
      repeat' (first | refine WK_go ?_ | refine W_seqL ?_ | refine W_seq ?_ | (refine W_regL ?_; simp (maxSteps := 400000) (disch := omega) only [push_cast, ↓reduceIte, reduceCtorEq, Nat.reduceAdd, Nat.reduceSub, Nat.reduceEqDiff, Nat.reduceLeDiff, Nat.reduceLT, Nat.reduceBEq, Nat.reduceDiv, Nat.reduceMod, Nat.reducePow, Nat.reduceMul, Int.reduceToNat, Int.reduceLT, Int.reduceLE]) | refine W_block ?_ | (refine W_skip ?_; simp (maxSteps := 400000) (disch := omega) only [push_cast, ↓reduceIte, reduceCtorEq, Nat.reduceAdd, Nat.reduceSub, Nat.reduceEqDiff, Nat.reduceLeDiff, Nat.reduceLT, Nat.reduceBEq, Nat.reduceDiv, Nat.reduceMod, Nat.reducePow, Nat.reduceMul, Int.reduceToNat, Int.reduceLT, Int.reduceLE]) | (refine W_exit ?_; simp (maxSteps := 400000) (disch := omega) only [push_cast, ↓reduceIte, reduceCtorEq, Nat.reduceAdd, Nat.reduceSub, Nat.reduceEqDiff, Nat.reduceLeDiff, Nat.reduceLT, Nat.reduceBEq, Nat.reduceDiv, Nat.reduceMod, Nat.reducePow, Nat.reduceMul, Int.reduceToNat, Int.reduceLT, Int.reduceLE]) | refine And.intro (by omega) ?_ | refine And.intro (by intro hq; (try simp only [Bool.and_eq_true, Bool.or_eq_true, Bool.and_eq_false_iff, Bool.or_eq_false_iff, decide_eq_true_eq, decide_eq_false_iff_not, Bool.not_eq_true', Bool.not_eq_false', beq_iff_eq, beq_eq_false_iff_ne, ne_eq] at hq); omega) ?_ | fail)
      refine ⟨i + 1, by omega, by omega, by rfl, ?_⟩
      simp (maxSteps := 400000) (disch := omega) only [push_cast, ↓reduceIte, reduceCtorEq, Nat.reduceAdd, Nat.reduceSub, Nat.reduceEqDiff, Nat.reduceLeDiff, Nat.reduceLT, Nat.reduceBEq, Nat.reduceDiv, Nat.reduceMod, Nat.reducePow, Nat.reduceMul, Int.reduceToNat, Int.reduceLT, Int.reduceLE, S.mk.injEq, List.cons.injEq, Prod.mk.injEq, AV.v.injEq, Value.int.injEq, Value.bool.injEq, Blk.cells.injEq]
    obtain rfl : i = ps.length := by omega
    repeat' (first | refine WK_go ?_ | refine W_seqL ?_ | refine W_seq ?_ | (refine W_regL ?_; simp (maxSteps := 400000) (disch := omega) only [push_cast, ↓reduceIte, reduceCtorEq, Nat.reduceAdd, Nat.reduceSub, Nat.reduceEqDiff, Nat.reduceLeDiff, Nat.reduceLT, Nat.reduceBEq, Nat.reduceDiv, Nat.reduceMod, Nat.reducePow, Nat.reduceMul, Int.reduceToNat, Int.reduceLT, Int.reduceLE]) | refine W_block ?_ | (refine W_skip ?_; simp (maxSteps := 400000) (disch := omega) only [push_cast, ↓reduceIte, reduceCtorEq, Nat.reduceAdd, Nat.reduceSub, Nat.reduceEqDiff, Nat.reduceLeDiff, Nat.reduceLT, Nat.reduceBEq, Nat.reduceDiv, Nat.reduceMod, Nat.reducePow, Nat.reduceMul, Int.reduceToNat, Int.reduceLT, Int.reduceLE]) | (refine W_exit ?_; simp (maxSteps := 400000) (disch := omega) only [push_cast, ↓reduceIte, reduceCtorEq, Nat.reduceAdd, Nat.reduceSub, Nat.reduceEqDiff, Nat.reduceLeDiff, Nat.reduceLT, Nat.reduceBEq, Nat.reduceDiv, Nat.reduceMod, Nat.reducePow, Nat.reduceMul, Int.reduceToNat, Int.reduceLT, Int.reduceLE]) | refine And.intro (by omega) ?_ | refine And.intro (by intro hq; (try simp only [Bool.and_eq_true, Bool.or_eq_true, Bool.and_eq_false_iff, Bool.or_eq_false_iff, decide_eq_true_eq, decide_eq_false_iff_not, Bool.not_eq_true', Bool.not_eq_false', beq_iff_eq, beq_eq_false_iff_ne, ne_eq] at hq); omega) ?_ | (refine CallC.now (c2) ?_; simp (maxSteps := 400000) (disch := omega) only [push_cast, ↓reduceIte, reduceCtorEq, Nat.reduceAdd, Nat.reduceSub, Nat.reduceEqDiff, Nat.reduceLeDiff, Nat.reduceLT, Nat.reduceBEq, Nat.reduceDiv, Nat.reduceMod, Nat.reducePow, Nat.reduceMul, Int.reduceToNat, Int.reduceLT, Int.reduceLE]) | (refine CallC.now (c3') ?_; simp (maxSteps := 400000) (disch := omega) only [push_cast, ↓reduceIte, reduceCtorEq, Nat.reduceAdd, Nat.reduceSub, Nat.reduceEqDiff, Nat.reduceLeDiff, Nat.reduceLT, Nat.reduceBEq, Nat.reduceDiv, Nat.reduceMod, Nat.reducePow, Nat.reduceMul, Int.reduceToNat, Int.reduceLT, Int.reduceLE]) | fail)
    have hE : ∀ gr, GOK QP fl gr → (skE QP fl gr = 0 ∧ skL QP fl gr = (List.range QP.length).map (stV QP fl gr) ∧ ∀ j, j < QP.length → 0 ≤ stV QP fl gr j ∧ stV QP fl gr j ≤ 4096) ∨ skE QP fl gr = 14 := fun gr hG => by
      have h2 : ∀ j, j < QP.length → stX QP fl gr j = 0 ∨ stX QP fl gr j = 14 := fun j hj => stX_two (stX_bey (x1 j hj))
      rcases skE_cases (gE_of hG) with ⟨a, b, d⟩ | ⟨j, hj, a, b⟩
      · refine .inl ⟨a, b, fun j hj => ?_⟩
        have hd := d j hj
        obtain ⟨e1, e2⟩ := hlm j hj
        unfold stX at hd
        rw [if_neg (by rw [stX_bey (x1 j hj)]; decide), e1, e2] at hd
        by_cases q : inR (stV QP fl gr j) 0 4096 = false
        · rw [if_pos q] at hd; omega
        · rw [Bool.not_eq_false] at q; exact inR_iff.1 q
      · rcases h2 j hj with q | q
        · exact absurd q b
        · exact .inr (a.trans q)
    refine W_cond (by rfl) (fun q => ?_) (fun q => ?_)
    · have r2 : skE QP fl low = 0 ∨ skE QP fl low = 14 := (hE low g2).imp (fun h => h.1) id
      have r3 : skE QP fl high = 0 ∨ skE QP fl high = 14 := (hE high g3).imp (fun h => h.1) id
      have t2 : (skE QP fl low == 0 || skE QP fl low == 14) = true := by rcases r2 with q | q <;> rw [q] <;> rfl
      have t3 : (skE QP fl high == 0 || skE QP fl high == 14) = true := by rcases r3 with q | q <;> rw [q] <;> rfl
      repeat' (first | refine WK_go ?_ | refine W_seqL ?_ | refine W_seq ?_ | (refine W_regL ?_; simp (maxSteps := 400000) (disch := omega) only [push_cast, ↓reduceIte, reduceCtorEq, Nat.reduceAdd, Nat.reduceSub, Nat.reduceEqDiff, Nat.reduceLeDiff, Nat.reduceLT, Nat.reduceBEq, Nat.reduceDiv, Nat.reduceMod, Nat.reducePow, Nat.reduceMul, Int.reduceToNat, Int.reduceLT, Int.reduceLE, t2, t3]) | refine W_block ?_ | (refine W_skip ?_; simp (maxSteps := 400000) (disch := omega) only [push_cast, ↓reduceIte, reduceCtorEq, Nat.reduceAdd, Nat.reduceSub, Nat.reduceEqDiff, Nat.reduceLeDiff, Nat.reduceLT, Nat.reduceBEq, Nat.reduceDiv, Nat.reduceMod, Nat.reducePow, Nat.reduceMul, Int.reduceToNat, Int.reduceLT, Int.reduceLE, t2, t3]) | (refine W_exit ?_; simp (maxSteps := 400000) (disch := omega) only [push_cast, ↓reduceIte, reduceCtorEq, Nat.reduceAdd, Nat.reduceSub, Nat.reduceEqDiff, Nat.reduceLeDiff, Nat.reduceLT, Nat.reduceBEq, Nat.reduceDiv, Nat.reduceMod, Nat.reducePow, Nat.reduceMul, Int.reduceToNat, Int.reduceLT, Int.reduceLE, t2, t3]) | refine And.intro (by omega) ?_ | refine And.intro (by intro hq; (try simp only [Bool.and_eq_true, Bool.or_eq_true, Bool.and_eq_false_iff, Bool.or_eq_false_iff, decide_eq_true_eq, decide_eq_false_iff_not, Bool.not_eq_true', Bool.not_eq_false', beq_iff_eq, beq_eq_false_iff_ne, ne_eq] at hq); omega) ?_ | (refine CallC.go _ (fun _ => ⟨trivial, fn17⟩) rfl ?_; simp (maxSteps := 400000) (disch := omega) only [push_cast, ↓reduceIte, reduceCtorEq, Nat.reduceAdd, Nat.reduceSub, Nat.reduceEqDiff, Nat.reduceLeDiff, Nat.reduceLT, Nat.reduceBEq, Nat.reduceDiv, Nat.reduceMod, Nat.reducePow, Nat.reduceMul, Int.reduceToNat, Int.reduceLT, Int.reduceLE, t2, t3]) | fail)
      exact W_ret ⟨[_], ⟨rfl, rfl⟩, rfl⟩
    simp only [Bool.or_eq_false_iff, bne_eq_false_iff_eq] at q
    rcases hE low g2 with ⟨_, l2, b2⟩ | w
    case inr => exfalso; rw [w] at q; omega
    rcases hE high g3 with ⟨_, l3, b3⟩ | w
    case inr => exfalso; rw [w] at q; omega
    have hrd : ∀ i, i < QP.length → stV QP fl low i - stV QP fl high i ≤ 3 ∧ stV QP fl high i - stV QP fl low i ≤ 3 := fun i hi =>
      raised_len (k := raise) hQc (fun j hj => by rw [show low.getD j 0 = gnd gs j from rangeD (by omega), show high.getD j 0 = gnd gs j + raise from rangeD (by omega)]) hi
    obtain ⟨A, hA⟩ : ∃ L, L = (List.range QP.length).map (stV QP fl low) := ⟨_, rfl⟩
    obtain ⟨B, hB⟩ : ∃ L, L = (List.range QP.length).map (stV QP fl high) := ⟨_, rfl⟩
    rw [l2, l3, ← hA, ← hB]
    have hAl : A.length = ps.length := by rw [hA]; simp [hQl]
    have hBl : B.length = ps.length := by rw [hB]; simp [hQl]
    have hAd : ∀ i, i < ps.length → 0 ≤ A.getD i 0 ∧ A.getD i 0 ≤ 4096 := fun i hi => by rw [hA, rangeD (by omega)]; exact b2 i (by omega)
    have hBd : ∀ i, i < ps.length → 0 ≤ B.getD i 0 ∧ B.getD i 0 ≤ 4096 := fun i hi => by rw [hB, rangeD (by omega)]; exact b3 i (by omega)
    have hD : ∀ i, i < ps.length → A.getD i 0 - B.getD i 0 ≤ 3 ∧ B.getD i 0 - A.getD i 0 ≤ 3 := fun i hi => by rw [hA, hB, rangeD (by omega), rangeD (by omega)]; exact hrd i (by omega)
    repeat' (first | refine WK_go ?_ | refine W_seqL ?_ | refine W_seq ?_ | (refine W_regL ?_; simp (maxSteps := 400000) (disch := omega) only [push_cast, ↓reduceIte, reduceCtorEq, Nat.reduceAdd, Nat.reduceSub, Nat.reduceEqDiff, Nat.reduceLeDiff, Nat.reduceLT, Nat.reduceBEq, Nat.reduceDiv, Nat.reduceMod, Nat.reducePow, Nat.reduceMul, Int.reduceToNat, Int.reduceLT, Int.reduceLE]) | refine W_block ?_ | (refine W_skip ?_; simp (maxSteps := 400000) (disch := omega) only [push_cast, ↓reduceIte, reduceCtorEq, Nat.reduceAdd, Nat.reduceSub, Nat.reduceEqDiff, Nat.reduceLeDiff, Nat.reduceLT, Nat.reduceBEq, Nat.reduceDiv, Nat.reduceMod, Nat.reducePow, Nat.reduceMul, Int.reduceToNat, Int.reduceLT, Int.reduceLE]) | (refine W_exit ?_; simp (maxSteps := 400000) (disch := omega) only [push_cast, ↓reduceIte, reduceCtorEq, Nat.reduceAdd, Nat.reduceSub, Nat.reduceEqDiff, Nat.reduceLeDiff, Nat.reduceLT, Nat.reduceBEq, Nat.reduceDiv, Nat.reduceMod, Nat.reducePow, Nat.reduceMul, Int.reduceToNat, Int.reduceLT, Int.reduceLE]) | refine And.intro (by omega) ?_ | refine And.intro (by intro hq; (try simp only [Bool.and_eq_true, Bool.or_eq_true, Bool.and_eq_false_iff, Bool.or_eq_false_iff, decide_eq_true_eq, decide_eq_false_iff_not, Bool.not_eq_true', Bool.not_eq_false', beq_iff_eq, beq_eq_false_iff_ne, ne_eq] at hq); omega) ?_ | fail)
    refine W_loopU (fun i : Nat => [(26, iv i)]) (fun i => []) (fun i => i ≤ ps.length) (fun i => ps.length - i) 0 (by omega) (by rfl) (by rfl) (fun i hi => ?_)
    simp (maxSteps := 400000) (disch := omega) only [push_cast, ↓reduceIte, reduceCtorEq, Nat.reduceAdd, Nat.reduceSub, Nat.reduceEqDiff, Nat.reduceLeDiff, Nat.reduceLT, Nat.reduceBEq, Nat.reduceDiv, Nat.reduceMod, Nat.reducePow, Nat.reduceMul, Int.reduceToNat, Int.reduceLT, Int.reduceLE]
    repeat' (first | refine WK_go ?_ | refine W_seqL ?_ | refine W_seq ?_ | (refine W_regL ?_; simp (maxSteps := 400000) (disch := omega) only [push_cast, ↓reduceIte, reduceCtorEq, Nat.reduceAdd, Nat.reduceSub, Nat.reduceEqDiff, Nat.reduceLeDiff, Nat.reduceLT, Nat.reduceBEq, Nat.reduceDiv, Nat.reduceMod, Nat.reducePow, Nat.reduceMul, Int.reduceToNat, Int.reduceLT, Int.reduceLE]) | refine W_block ?_ | (refine W_skip ?_; simp (maxSteps := 400000) (disch := omega) only [push_cast, ↓reduceIte, reduceCtorEq, Nat.reduceAdd, Nat.reduceSub, Nat.reduceEqDiff, Nat.reduceLeDiff, Nat.reduceLT, Nat.reduceBEq, Nat.reduceDiv, Nat.reduceMod, Nat.reducePow, Nat.reduceMul, Int.reduceToNat, Int.reduceLT, Int.reduceLE]) | (refine W_exit ?_; simp (maxSteps := 400000) (disch := omega) only [push_cast, ↓reduceIte, reduceCtorEq, Nat.reduceAdd, Nat.reduceSub, Nat.reduceEqDiff, Nat.reduceLeDiff, Nat.reduceLT, Nat.reduceBEq, Nat.reduceDiv, Nat.reduceMod, Nat.reducePow, Nat.reduceMul, Int.reduceToNat, Int.reduceLT, Int.reduceLE]) | refine And.intro (by omega) ?_ | refine And.intro (by intro hq; (try simp only [Bool.and_eq_true, Bool.or_eq_true, Bool.and_eq_false_iff, Bool.or_eq_false_iff, decide_eq_true_eq, decide_eq_false_iff_not, Bool.not_eq_true', Bool.not_eq_false', beq_iff_eq, beq_eq_false_iff_ne, ne_eq] at hq); omega) ?_ | fail)
    refine W_cond (by rfl) (fun h5 => ?_) (fun h5 => ?_)
    · simp only [Bool.and_eq_true, decide_eq_true_eq] at h5
      have hlt : i < ps.length := by omega
      have d1 := hAd i hlt
      have d2 := hBd i hlt
      have d3 := hD i hlt
      repeat' (first | refine WK_go ?_ | refine W_seqL ?_ | refine W_seq ?_ | (refine W_regL ?_; simp (maxSteps := 400000) (disch := omega) only [push_cast, ↓reduceIte, reduceCtorEq, Nat.reduceAdd, Nat.reduceSub, Nat.reduceEqDiff, Nat.reduceLeDiff, Nat.reduceLT, Nat.reduceBEq, Nat.reduceDiv, Nat.reduceMod, Nat.reducePow, Nat.reduceMul, Int.reduceToNat, Int.reduceLT, Int.reduceLE]) | refine W_block ?_ | (refine W_skip ?_; simp (maxSteps := 400000) (disch := omega) only [push_cast, ↓reduceIte, reduceCtorEq, Nat.reduceAdd, Nat.reduceSub, Nat.reduceEqDiff, Nat.reduceLeDiff, Nat.reduceLT, Nat.reduceBEq, Nat.reduceDiv, Nat.reduceMod, Nat.reducePow, Nat.reduceMul, Int.reduceToNat, Int.reduceLT, Int.reduceLE]) | (refine W_exit ?_; simp (maxSteps := 400000) (disch := omega) only [push_cast, ↓reduceIte, reduceCtorEq, Nat.reduceAdd, Nat.reduceSub, Nat.reduceEqDiff, Nat.reduceLeDiff, Nat.reduceLT, Nat.reduceBEq, Nat.reduceDiv, Nat.reduceMod, Nat.reducePow, Nat.reduceMul, Int.reduceToNat, Int.reduceLT, Int.reduceLE]) | refine And.intro (by omega) ?_ | refine And.intro (by intro hq; (try simp only [Bool.and_eq_true, Bool.or_eq_true, Bool.and_eq_false_iff, Bool.or_eq_false_iff, decide_eq_true_eq, decide_eq_false_iff_not, Bool.not_eq_true', Bool.not_eq_false', beq_iff_eq, beq_eq_false_iff_ne, ne_eq] at hq); omega) ?_ | fail)
      refine W_cond (by rfl) (fun q => by simp only [Bool.or_eq_true, decide_eq_true_eq] at q; omega) (fun _ => ?_)
      repeat' (first | refine WK_go ?_ | refine W_seqL ?_ | refine W_seq ?_ | (refine W_regL ?_; simp (maxSteps := 400000) (disch := omega) only [push_cast, ↓reduceIte, reduceCtorEq, Nat.reduceAdd, Nat.reduceSub, Nat.reduceEqDiff, Nat.reduceLeDiff, Nat.reduceLT, Nat.reduceBEq, Nat.reduceDiv, Nat.reduceMod, Nat.reducePow, Nat.reduceMul, Int.reduceToNat, Int.reduceLT, Int.reduceLE]) | refine W_block ?_ | (refine W_skip ?_; simp (maxSteps := 400000) (disch := omega) only [push_cast, ↓reduceIte, reduceCtorEq, Nat.reduceAdd, Nat.reduceSub, Nat.reduceEqDiff, Nat.reduceLeDiff, Nat.reduceLT, Nat.reduceBEq, Nat.reduceDiv, Nat.reduceMod, Nat.reducePow, Nat.reduceMul, Int.reduceToNat, Int.reduceLT, Int.reduceLE]) | (refine W_exit ?_; simp (maxSteps := 400000) (disch := omega) only [push_cast, ↓reduceIte, reduceCtorEq, Nat.reduceAdd, Nat.reduceSub, Nat.reduceEqDiff, Nat.reduceLeDiff, Nat.reduceLT, Nat.reduceBEq, Nat.reduceDiv, Nat.reduceMod, Nat.reducePow, Nat.reduceMul, Int.reduceToNat, Int.reduceLT, Int.reduceLE]) | refine And.intro (by omega) ?_ | refine And.intro (by intro hq; (try simp only [Bool.and_eq_true, Bool.or_eq_true, Bool.and_eq_false_iff, Bool.or_eq_false_iff, decide_eq_true_eq, decide_eq_false_iff_not, Bool.not_eq_true', Bool.not_eq_false', beq_iff_eq, beq_eq_false_iff_ne, ne_eq] at hq); omega) ?_ | fail)
      refine ⟨i + 1, by omega, by omega, by rfl, ?_⟩
      simp (maxSteps := 400000) (disch := omega) only [push_cast, ↓reduceIte, reduceCtorEq, Nat.reduceAdd, Nat.reduceSub, Nat.reduceEqDiff, Nat.reduceLeDiff, Nat.reduceLT, Nat.reduceBEq, Nat.reduceDiv, Nat.reduceMod, Nat.reducePow, Nat.reduceMul, Int.reduceToNat, Int.reduceLT, Int.reduceLE, S.mk.injEq, List.cons.injEq, Prod.mk.injEq, AV.v.injEq, Value.int.injEq, Value.bool.injEq, Blk.cells.injEq]
    have hei : i = ps.length := by simp only [Bool.and_eq_false_iff, decide_eq_false_iff_not] at h5; omega
    subst hei
    repeat' (first | refine WK_go ?_ | refine W_seqL ?_ | refine W_seq ?_ | (refine W_regL ?_; simp (maxSteps := 400000) (disch := omega) only [push_cast, ↓reduceIte, reduceCtorEq, Nat.reduceAdd, Nat.reduceSub, Nat.reduceEqDiff, Nat.reduceLeDiff, Nat.reduceLT, Nat.reduceBEq, Nat.reduceDiv, Nat.reduceMod, Nat.reducePow, Nat.reduceMul, Int.reduceToNat, Int.reduceLT, Int.reduceLE, hAl, hBl, beq_self_eq_true]) | refine W_block ?_ | (refine W_skip ?_; simp (maxSteps := 400000) (disch := omega) only [push_cast, ↓reduceIte, reduceCtorEq, Nat.reduceAdd, Nat.reduceSub, Nat.reduceEqDiff, Nat.reduceLeDiff, Nat.reduceLT, Nat.reduceBEq, Nat.reduceDiv, Nat.reduceMod, Nat.reducePow, Nat.reduceMul, Int.reduceToNat, Int.reduceLT, Int.reduceLE, hAl, hBl, beq_self_eq_true]) | (refine W_exit ?_; simp (maxSteps := 400000) (disch := omega) only [push_cast, ↓reduceIte, reduceCtorEq, Nat.reduceAdd, Nat.reduceSub, Nat.reduceEqDiff, Nat.reduceLeDiff, Nat.reduceLT, Nat.reduceBEq, Nat.reduceDiv, Nat.reduceMod, Nat.reducePow, Nat.reduceMul, Int.reduceToNat, Int.reduceLT, Int.reduceLE, hAl, hBl, beq_self_eq_true]) | refine And.intro (by omega) ?_ | refine And.intro (by intro hq; (try simp only [Bool.and_eq_true, Bool.or_eq_true, Bool.and_eq_false_iff, Bool.or_eq_false_iff, decide_eq_true_eq, decide_eq_false_iff_not, Bool.not_eq_true', Bool.not_eq_false', beq_iff_eq, beq_eq_false_iff_ne, ne_eq] at hq); omega) ?_ | (refine CallC.go _ (fun _ => ⟨trivial, fn17⟩) rfl ?_; simp (maxSteps := 400000) (disch := omega) only [push_cast, ↓reduceIte, reduceCtorEq, Nat.reduceAdd, Nat.reduceSub, Nat.reduceEqDiff, Nat.reduceLeDiff, Nat.reduceLT, Nat.reduceBEq, Nat.reduceDiv, Nat.reduceMod, Nat.reducePow, Nat.reduceMul, Int.reduceToNat, Int.reduceLT, Int.reduceLE, hAl, hBl, beq_self_eq_true]) | fail)
    exact W_ret ⟨[_], ⟨rfl, rfl⟩, rfl⟩
end Go.Proofs.Ytfkjdjlcaojedaa

/- Numbers of 16 bits. -/
namespace Go.Proofs.Ytfkjdjlcaojedaa
open Go Sy
set_option maxRecDepth 100000
set_option linter.unusedVariables false
theorem i16_wf {n : Int} (h : (Lit.int .i16 n).wf = true) : -32768 ≤ n ∧ n ≤ 32767 := by
  simp [Lit.wf, IntKind.min, IntKind.max, IntKind.bits, IntKind.signed] at h
  omega
theorem y63 : Try.prog.cellsOf 63 = 1 := by kernel_rfl
theorem b63 : Try.prog.bytesOf 63 = 2 := by kernel_rfl
theorem k63 : Codec Try.prog 63 (fun n : Int => cI16 n) (fun n => -32768 ≤ n ∧ n ≤ 32767) := (Codec.int Try.underlying63).map id (fun _ => rfl) (fun _ h => i16_wf h)
theorem k60 : Codec Try.prog 60 (fun l : List Int => [.sl 1 0 cI16 l]) (fun l => l.length * 2 ≤ 140737488351232 ∧ ∀ x ∈ l, -32768 ≤ x ∧ x ≤ 32767) :=
  (Codec.slice Try.underlying60 (by rw [y63]; decide) y63 b63 0 k63).map id (fun _ => rfl) (fun _ h => ⟨h.1, h.2.2⟩)
end Go.Proofs.Ytfkjdjlcaojedaa

/- StaticsLevel: for every input the law returns true; each argument reads behind the call as it read before. -/
namespace Go.Proofs.Ytfkjdjlcaojedaa
open Go Sy Go.ChangeShapes Go.WideShapes Go.RowKit
set_option maxRecDepth 100000
set_option linter.unusedVariables false
theorem own : ownKnob Try.prog.godebug = none := by kernel_rfl
theorem laidOut : laidOutB Try.prog = true := by kernel_rfl

theorem walk11 (W : World) (v0 v1 v2 v3 : Value) (ps : List Sup) (len : Int) (raise : Int) (gs : List Int) (h0 : fsat (inW W) W (aP ps) v0) (h1 : fsat (inW W) W (.v (.int .u8 len)) v1) (h2 : fsat (inW W) W (.v (.int .u8 raise)) v2) (h3 : fsat (inW W) W (.sl 1 0 cI16 gs) v3) (ops : ps.length * 48 ≤ 140737488351232 ∧ ∀ s ∈ ps, OSup s) (olen : 0 ≤ len ∧ len ≤ 255) (oraise : 0 ≤ raise ∧ raise ≤ 255) (ogs : gs.length * 2 ≤ 140737488351232 ∧ ∀ x ∈ gs, -32768 ≤ x ∧ x ≤ 32767) :
    Calls Try.prog 11 #[v0, v1, v2, v3] W fun e w' => e = .returned (.bool true) ∧ Below W.heap.size W w' := by
  have hf : Sy.Fn Try.prog 11 [aP ps, .v (.int .u8 len), .v (.int .u8 raise), .sl 1 0 cI16 gs] (bv true) := fn11 ps len raise gs (by have := ops.1; omega) (by have := ogs.1; omega) olen oraise ogs.2
  refine (hf.2 (inW W) W [v0, v1, v2, v3] (fun b hb => hb) ?_).mono ?_
  · simp only [fsatT]
    exact ⟨v0, _, rfl, h0, v1, _, rfl, h1, v2, _, rfl, h2, v3, _, rfl, h3, rfl⟩
  · rintro e w' ⟨v, rfl, hb, hv⟩
    simp only [fsat] at hv
    exact ⟨by rw [hv], hb⟩
theorem lifted11 (os : Os) (started : os.Started) (H : Type) (enc : TypeId × Value → H) :
    ReturnsInHanded {} Try.checked os 11 .any (Rows.staticsLevelSpec.pre6 enc Try.prog Try.f11 Rows.staticsLevelRow.domain false) (Rows.staticsLevelSpec.post enc Try.prog Try.f11 false true false false) := by
  refine returnsInHanded_of_change_sized (C := Try.checked) own started (by kernel_rfl) Try.func11
    (ChangeSpec.witness6 (enc := enc) (C := Try.checked) false ⟨#[], #[.slice none 0 0, .int .u8 0, .int .u8 0, .slice none 0 0], []⟩ 8 (by kernel_rfl) (by kernel_rfl) (by kernel_rfl) (by kernel_rfl)) ?_
  intro W base args ds gs before hval0 hW hcnd hsz _
  have hval : ∀ (j : Nat) t v, Try.f11.params[j]? = some t → args[j]? = some v → Value.okWide Try.prog W .any base t v := hval0
  have hW' := hW
  obtain ⟨p, q, hA0, hV, rfl, hfz, hnd⟩ := hW
  have hA : DataW.TrodAll enc Try.prog W 0 (fun _ => true) true Try.f11.params.toList args.toList ds p := hA0
  rw [Try.params11] at hA hval
  obtain ⟨v0, vs0, d0, ds0, p0, q0, hargs, rfl, rfl, h0, r0⟩ := trodAll_cons hA
  obtain ⟨v1, vs1, d1, ds1, p1, q1, rfl, rfl, rfl, h1, r1⟩ := trodAll_cons r0
  obtain ⟨v2, vs2, d2, ds2, p2, q2, rfl, rfl, rfl, h2, r2⟩ := trodAll_cons r1
  obtain ⟨v3, vs3, d3, ds3, p3, q3, rfl, rfl, rfl, h3, r3⟩ := trodAll_cons r2
  obtain ⟨rfl, rfl, rfl⟩ := trodAll_nil r3
  obtain rfl : args = #[v0, v1, v2, v3] := by cases args; simp_all
  obtain ⟨rfl, rfl⟩ := trodVars_none hV
  have hs : ∀ (j : Nat) t (d : DataW H), [27, 5, 5, 60][j]? = some t → [d0, d1, d2, d3][j]? = some d → ∀ n ∈ d.weights Try.prog t, n ≤ reachBytes := fun j t d ht hd n hn => by
    have hall := List.all_eq_true.1 hsz n (DataW.weights_mem_each (j := j) (t := t) (d := d) (by rw [Try.params11]; simpa using (List.getElem?_append_left (l₂ := _) (by have := (List.getElem?_eq_some_iff.1 ht).1; simpa using this)).trans ht) (by simpa using (List.getElem?_append_left (l₂ := _) (by have := (List.getElem?_eq_some_iff.1 hd).1; simpa using this)).trans hd) n hn)
    simpa using hall
  have lt0 : ∀ x ∈ p0, x.block < W.heap.size := by obtain ⟨m, hm⟩ := h0; exact DataW.trod_lt m _ _ _ hm
  have lt1 : ∀ x ∈ p1, x.block < W.heap.size := by obtain ⟨m, hm⟩ := h1; exact DataW.trod_lt m _ _ _ hm
  have lt2 : ∀ x ∈ p2, x.block < W.heap.size := by obtain ⟨m, hm⟩ := h2; exact DataW.trod_lt m _ _ _ hm
  have lt3 : ∀ x ∈ p3, x.block < W.heap.size := by obtain ⟨m, hm⟩ := h3; exact DataW.trod_lt m _ _ _ hm
  obtain ⟨ps, ops, s0⟩ := k27.arg1 (by kernel_rfl) (hval 0 27 v0 rfl rfl) h0 (hs 0 27 d0 rfl rfl)
  obtain ⟨len, olen, s1⟩ := k5.arg1 (by kernel_rfl) (hval 1 5 v1 rfl rfl) h1 (hs 1 5 d1 rfl rfl)
  obtain ⟨raise, oraise, s2⟩ := k5.arg1 (by kernel_rfl) (hval 2 5 v2 rfl rfl) h2 (hs 2 5 d2 rfl rfl)
  obtain ⟨gs, ogs, s3⟩ := k60.arg1 (by kernel_rfl) (hval 3 60 v3 rfl rfl) h3 (hs 3 60 d3 rfl rfl)
  clear hA0 hval0
  refine (walk11 W v0 v1 v2 v3 ps len raise gs s0 s1 s2 s3 ops olen oraise ogs).mono fun e W' ⟨he, bel⟩ => ?_
  subst he
  exact ⟨_, rfl, _, _, _, [], _, [], hW', trodAll_mk1 (shut_bool Try.underlying4 _), (trodAll_cons_mk (Below.trod laidOut (by kernel_rfl) (of_decide_eq_true (by kernel_rfl)) h0 bel lt0) (trodAll_cons_mk (Below.trod laidOut (by kernel_rfl) (of_decide_eq_true (by kernel_rfl)) h1 bel lt1) (trodAll_cons_mk (Below.trod laidOut (by kernel_rfl) (of_decide_eq_true (by kernel_rfl)) h2 bel lt2) (trodAll_cons_mk (Below.trod laidOut (by kernel_rfl) (of_decide_eq_true (by kernel_rfl)) h3 bel lt3) trodAll_mk0)))), rfl, bel.frame _, fun h => by cases h⟩
theorem over11 : Rows.staticsLevelRow.holds Try.pinned (OpenSpec.ofChange Rows.staticsLevelSpec) :=
  OpenClaim.holds_of_wide 11 Try.f11 rfl rfl rfl rfl rfl rfl rfl ⟨rfl, rfl, rfl, rfl, rfl⟩ rfl rfl rfl rfl rfl (by kernel_rfl) Try.func11 (by kernel_rfl)
    (of_decide_eq_true (by kernel_rfl)) (by unfold Func.isWrapper; first | (rw [if_pos (by decide +kernel)]; kernel_rfl) | (rw [if_neg (by decide +kernel)]; exact ⟨rfl, rfl⟩))
    (fun os started H enc _ => lifted11 os started H enc)
theorem statics_level_holds : Rows.StaticsLevelSaid := over11
end Go.Proofs.Ytfkjdjlcaojedaa

