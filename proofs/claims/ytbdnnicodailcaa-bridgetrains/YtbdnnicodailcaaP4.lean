/- Part 4 of the proof of: The train of a vehicle is that of the definition, or refused. -/
import Derived.Test.YtbdnnicodailcaaP3
/- Bridges and trains: what is valid. -/
namespace Go.Proofs.Ytbdnnicodailcaa
open Go Sy
set_option maxRecDepth 100000
set_option maxHeartbeats 4000000
set_option linter.unusedVariables false
set_option linter.unusedSimpArgs false
structure Brg where
  sp : List Int
  mo : List Int
  sh : List Int
  dyn : Int
  lan : Int
  tra : Int
def cI (n : Int) : List AV := [iv n]
abbrev aI (l : List Int) : AV := .sl 1 0 cI l
def cB (b : Brg) : List AV := [aI b.sp, aI b.mo, aI b.sh, iv b.dyn, iv b.lan, iv b.tra]
def cF (f : Frc) : List AV := [iv f.x, iv f.p]
abbrev aT (t : List Frc) : AV := .sl 2 dF cF t
def cP (p : Pav) : List AV := [iv p.load, iv p.life, iv p.power]
theorem nI (n : Int) : nth (cI n) 0 = iv n := rfl
theorem lI (n : Int) : (cI n).length = 1 := rfl
theorem nB0 (b : Brg) : nth (cB b) 0 = .sl 1 0 cI b.sp := rfl
theorem nB1 (b : Brg) : nth (cB b) 1 = .sl 1 0 cI b.mo := rfl
theorem nB2 (b : Brg) : nth (cB b) 2 = .sl 1 0 cI b.sh := rfl
theorem nB3 (b : Brg) : nth (cB b) 3 = iv b.dyn := rfl
theorem nB4 (b : Brg) : nth (cB b) 4 = iv b.lan := rfl
theorem nB5 (b : Brg) : nth (cB b) 5 = iv b.tra := rfl
theorem lB (b : Brg) : (cB b).length = 6 := rfl
theorem tB (b : Brg) : List.take 6 (cB b) = cB b := rfl
theorem frB_ (b : Brg) : frzAll (cB b) = true := rfl
theorem iB {m : Nat → Option Blk} {n : Nat} (s : Brg) : List.flatMap (ids m n) (cB s) = [] := flat_frz n _ (frB_ s)
theorem nF0 (f : Frc) : nth (cF f) 0 = iv f.x := rfl
theorem nF1 (f : Frc) : nth (cF f) 1 = iv f.p := rfl
theorem lF (f : Frc) : (cF f).length = 2 := rfl
theorem tF (f : Frc) : List.take 2 (cF f) = cF f := rfl
theorem frF (f : Frc) : frzAll (cF f) = true := rfl
theorem iF {m : Nat → Option Blk} {n : Nat} (s : Frc) : List.flatMap (ids m n) (cF s) = [] := flat_frz n _ (frF s)
theorem nP0 (p : Pav) : nth (cP p) 0 = iv p.load := rfl
theorem nP1 (p : Pav) : nth (cP p) 1 = iv p.life := rfl
theorem nP2 (p : Pav) : nth (cP p) 2 = iv p.power := rfl
theorem lP (p : Pav) : (cP p).length = 3 := rfl
theorem tP (p : Pav) : List.take 3 (cP p) = cP p := rfl
theorem frP (p : Pav) : frzAll (cP p) = true := rfl
theorem iP {m : Nat → Option Blk} {n : Nat} (s : Pav) : List.flatMap (ids m n) (cP s) = [] := flat_frz n _ (frP s)
attribute [push_cast] nI lI nB0 nB1 nB2 nB3 nB4 nB5 lB tB frB_ iB nF0 nF1 lF tF frF iF nP0 nP1 nP2 lP tP frP iP
theorem up_all {p : Nat → Prop} {i : Nat} (h : ∀ j, j < i → p j) (hi : p i) : ∀ j, j < i + 1 → p j := fun j hj => by
  rcases Nat.lt_succ_iff_lt_or_eq.1 hj with hj | rfl
  · exact h j hj
  · exact hi
theorem getD_mem {α : Type} (d : α) (l : List α) (i : Nat) (h : i < l.length) : l.getD i d ∈ l := by
  simp only [List.getD, List.getElem?_eq_getElem h, Option.getD_some]; exact List.getElem_mem h
theorem all_no {p : Nat → Bool} {n i : Nat} (hi : i < n) (h : p i = false) : (List.range n).all p = false := by
  rw [← Bool.not_eq_true, List.all_eq_true]
  intro q
  rw [q i (by simpa using hi)] at h; cases h
theorem all_yes {p : Nat → Bool} {n : Nat} (h : ∀ j, j < n → p j = true) : (List.range n).all p = true := by
  rw [List.all_eq_true]
  intro j hj
  exact h j (by simpa using hj)
theorem all_of {p : Nat → Bool} {n : Nat} (h : (List.range n).all p = true) : ∀ j, j < n → p j = true := by
  rw [List.all_eq_true] at h
  intro j hj
  exact h j (by simpa using hj)
abbrev gi (l : List Int) (j : Nat) : Int := l.getD j 0
def spB (b : Brg) (i : Nat) : Bool := inR (gi b.sp i) 100 131072 && inR (gi b.mo i) 1 1073741824 && inR (gi b.sh i) 1 1073741824
def spOK (b : Brg) : Bool := (List.range b.sp.length).all (spB b)
def hdP (b : Brg) : Prop := (0 ≤ b.dyn ∧ b.dyn ≤ 1000) ∧ (1 ≤ b.lan ∧ b.lan ≤ 4) ∧ (0 ≤ b.tra ∧ b.tra ≤ 4096)
instance (b : Brg) : Decidable (hdP b) := by unfold hdP; infer_instance
def chkB (b : Brg) : Int := if b.sp.length < 1 ∨ 6 < b.sp.length then 6 else if b.mo.length ≠ b.sp.length ∨ b.sh.length ≠ b.sp.length then 17 else if (decide (hdP b) && spOK b) = true then 0 else 2
def lastF (t : List Frc) (i : Nat) : Int := if i = 0 then 0 else (sf t (i - 1)).x
def frB (t : List Frc) (i : Nat) : Bool := decide (lastF t i ≤ (sf t i).x) && decide ((sf t i).x ≤ 262144) && (!decide (i = 0) || decide ((sf t i).x = 0)) && inR (sf t i).p 0 1048576
def chkT (t : List Frc) : Int := if t.length < 1 ∨ 64 < t.length then 6 else if (List.range t.length).all (frB t) = true then 0 else 2
theorem fn29 (b : Brg) (h1 : b.sp.length ≤ 140737488355328) (h2 : b.mo.length ≤ 140737488355328) (h3 : b.sh.length ≤ 140737488355328) : Sy.Fn Try.prog 29 [.agg (cB b)] (iv (chkB b)) := by
  refine Fn_of_W mixed Xt29 rfl ?_
  unfold chkB
  repeat' (first | refine WK_go ?_ | refine W_seqL ?_ | refine W_seq ?_ | refine W_block ?_ | ((first | refine W_regL ?_ | refine W_skip ?_ | refine W_exit ?_); simp (maxSteps := 400000) (disch := omega) only [push_cast, ↓reduceIte, reduceCtorEq, Nat.reduceAdd, Nat.reduceSub, Nat.reduceEqDiff, Nat.reduceLeDiff, Nat.reduceLT, Nat.reduceBEq, Nat.reduceDiv, Nat.reduceMod, Nat.reducePow, Nat.reduceMul, Int.reduceToNat, Int.reduceLT, Int.reduceLE]) | refine And.intro (by omega) ?_ | refine And.intro (by intro hq; (try simp only [Bool.and_eq_true, Bool.or_eq_true, Bool.and_eq_false_iff, Bool.or_eq_false_iff, decide_eq_true_eq, decide_eq_false_iff_not, Bool.not_eq_true', Bool.not_eq_false', beq_iff_eq, beq_eq_false_iff_ne, ne_eq] at hq); omega) ?_ | fail)
  refine W_cond (by rfl) (fun h => ?_) (fun h => ?_)
  · rw [if_pos (by simp only [Bool.or_eq_true, decide_eq_true_eq] at h; omega)]
    repeat' (first | refine WK_go ?_ | refine W_seqL ?_ | refine W_seq ?_ | refine W_block ?_ | ((first | refine W_regL ?_ | refine W_skip ?_ | refine W_exit ?_); simp (maxSteps := 400000) (disch := omega) only [push_cast, ↓reduceIte, reduceCtorEq, Nat.reduceAdd, Nat.reduceSub, Nat.reduceEqDiff, Nat.reduceLeDiff, Nat.reduceLT, Nat.reduceBEq, Nat.reduceDiv, Nat.reduceMod, Nat.reducePow, Nat.reduceMul, Int.reduceToNat, Int.reduceLT, Int.reduceLE]) | refine And.intro (by omega) ?_ | refine And.intro (by intro hq; (try simp only [Bool.and_eq_true, Bool.or_eq_true, Bool.and_eq_false_iff, Bool.or_eq_false_iff, decide_eq_true_eq, decide_eq_false_iff_not, Bool.not_eq_true', Bool.not_eq_false', beq_iff_eq, beq_eq_false_iff_ne, ne_eq] at hq); omega) ?_ | fail)
    exact W_ret ⟨[_], ⟨rfl, rfl⟩, rfl⟩
  rw [if_neg (by simp only [Bool.or_eq_false_iff, decide_eq_false_iff_not] at h; omega)]
  have hn : 1 ≤ b.sp.length ∧ b.sp.length ≤ 6 := by simp only [Bool.or_eq_false_iff, decide_eq_false_iff_not] at h; omega
  repeat' (first | refine WK_go ?_ | refine W_seqL ?_ | refine W_seq ?_ | refine W_block ?_ | ((first | refine W_regL ?_ | refine W_skip ?_ | refine W_exit ?_); simp (maxSteps := 400000) (disch := omega) only [push_cast, ↓reduceIte, reduceCtorEq, Nat.reduceAdd, Nat.reduceSub, Nat.reduceEqDiff, Nat.reduceLeDiff, Nat.reduceLT, Nat.reduceBEq, Nat.reduceDiv, Nat.reduceMod, Nat.reducePow, Nat.reduceMul, Int.reduceToNat, Int.reduceLT, Int.reduceLE]) | refine And.intro (by omega) ?_ | refine And.intro (by intro hq; (try simp only [Bool.and_eq_true, Bool.or_eq_true, Bool.and_eq_false_iff, Bool.or_eq_false_iff, decide_eq_true_eq, decide_eq_false_iff_not, Bool.not_eq_true', Bool.not_eq_false', beq_iff_eq, beq_eq_false_iff_ne, ne_eq] at hq); omega) ?_ | fail)
  refine W_cond (by rfl) (fun h => ?_) (fun h => ?_)
  · rw [if_pos (by simp only [Bool.or_eq_true, bne_iff_ne] at h; omega)]
    repeat' (first | refine WK_go ?_ | refine W_seqL ?_ | refine W_seq ?_ | refine W_block ?_ | ((first | refine W_regL ?_ | refine W_skip ?_ | refine W_exit ?_); simp (maxSteps := 400000) (disch := omega) only [push_cast, ↓reduceIte, reduceCtorEq, Nat.reduceAdd, Nat.reduceSub, Nat.reduceEqDiff, Nat.reduceLeDiff, Nat.reduceLT, Nat.reduceBEq, Nat.reduceDiv, Nat.reduceMod, Nat.reducePow, Nat.reduceMul, Int.reduceToNat, Int.reduceLT, Int.reduceLE]) | refine And.intro (by omega) ?_ | refine And.intro (by intro hq; (try simp only [Bool.and_eq_true, Bool.or_eq_true, Bool.and_eq_false_iff, Bool.or_eq_false_iff, decide_eq_true_eq, decide_eq_false_iff_not, Bool.not_eq_true', Bool.not_eq_false', beq_iff_eq, beq_eq_false_iff_ne, ne_eq] at hq); omega) ?_ | fail)
    exact W_ret ⟨[_], ⟨rfl, rfl⟩, rfl⟩
  have hm : b.mo.length = b.sp.length ∧ b.sh.length = b.sp.length := by simp only [Bool.or_eq_false_iff, bne_eq_false_iff_eq] at h; omega
  rw [if_neg (by omega)]
  repeat' (first | refine WK_go ?_ | refine W_seqL ?_ | refine W_seq ?_ | refine W_block ?_ | ((first | refine W_regL ?_ | refine W_skip ?_ | refine W_exit ?_ | refine CallC.now (fn48 _ _ _) ?_ | refine CallC.go _ (fun _ => ⟨trivial, fn48 _ _ _⟩) rfl ?_); simp (maxSteps := 400000) (disch := omega) only [push_cast, ↓reduceIte, reduceCtorEq, Nat.reduceAdd, Nat.reduceSub, Nat.reduceEqDiff, Nat.reduceLeDiff, Nat.reduceLT, Nat.reduceBEq, Nat.reduceDiv, Nat.reduceMod, Nat.reducePow, Nat.reduceMul, Int.reduceToNat, Int.reduceLT, Int.reduceLE]) | refine And.intro (by omega) ?_ | refine And.intro (by intro hq; (try simp only [Bool.and_eq_true, Bool.or_eq_true, Bool.and_eq_false_iff, Bool.or_eq_false_iff, decide_eq_true_eq, decide_eq_false_iff_not, Bool.not_eq_true', Bool.not_eq_false', beq_iff_eq, beq_eq_false_iff_ne, ne_eq] at hq); omega) ?_ | fail)
  refine W_cond (by rfl) (fun h => ?_) (fun h => ?_)
  · have e : decide (hdP b) = false := by
      apply decide_eq_false
      unfold hdP
      simp only [inR, Bool.or_eq_true, Bool.not_eq_true', Bool.and_eq_false_iff, decide_eq_true_eq, decide_eq_false_iff_not] at h
      omega
    rw [e, Bool.false_and, if_neg (by decide)]
    repeat' (first | refine WK_go ?_ | refine W_seqL ?_ | refine W_seq ?_ | refine W_block ?_ | ((first | refine W_regL ?_ | refine W_skip ?_ | refine W_exit ?_); simp (maxSteps := 400000) (disch := omega) only [push_cast, ↓reduceIte, reduceCtorEq, Nat.reduceAdd, Nat.reduceSub, Nat.reduceEqDiff, Nat.reduceLeDiff, Nat.reduceLT, Nat.reduceBEq, Nat.reduceDiv, Nat.reduceMod, Nat.reducePow, Nat.reduceMul, Int.reduceToNat, Int.reduceLT, Int.reduceLE]) | refine And.intro (by omega) ?_ | refine And.intro (by intro hq; (try simp only [Bool.and_eq_true, Bool.or_eq_true, Bool.and_eq_false_iff, Bool.or_eq_false_iff, decide_eq_true_eq, decide_eq_false_iff_not, Bool.not_eq_true', Bool.not_eq_false', beq_iff_eq, beq_eq_false_iff_ne, ne_eq] at hq); omega) ?_ | fail)
    exact W_ret ⟨[_], ⟨rfl, rfl⟩, rfl⟩
  have e : decide (hdP b) = true := by
    apply decide_eq_true
    unfold hdP
    simp only [inR, Bool.or_eq_false_iff, Bool.not_eq_false', Bool.and_eq_true, decide_eq_true_eq, decide_eq_false_iff_not] at h
    omega
  rw [e, Bool.true_and]
  repeat' (first | refine WK_go ?_ | refine W_seqL ?_ | refine W_seq ?_ | refine W_block ?_ | ((first | refine W_regL ?_ | refine W_skip ?_ | refine W_exit ?_); simp (maxSteps := 400000) (disch := omega) only [push_cast, ↓reduceIte, reduceCtorEq, Nat.reduceAdd, Nat.reduceSub, Nat.reduceEqDiff, Nat.reduceLeDiff, Nat.reduceLT, Nat.reduceBEq, Nat.reduceDiv, Nat.reduceMod, Nat.reducePow, Nat.reduceMul, Int.reduceToNat, Int.reduceLT, Int.reduceLE]) | refine And.intro (by omega) ?_ | refine And.intro (by intro hq; (try simp only [Bool.and_eq_true, Bool.or_eq_true, Bool.and_eq_false_iff, Bool.or_eq_false_iff, decide_eq_true_eq, decide_eq_false_iff_not, Bool.not_eq_true', Bool.not_eq_false', beq_iff_eq, beq_eq_false_iff_ne, ne_eq] at hq); omega) ?_ | fail)
  refine W_loopU (fun i : Nat => [(53, iv i)]) (fun i => []) (fun i => i ≤ b.sp.length ∧ ∀ j, j < i → spB b j = true) (fun i => b.sp.length - i) 0 ⟨by omega, fun j hj => by omega⟩ (by rfl) (by rfl) (fun i hi => ?_)
  obtain ⟨hi, hall⟩ := hi
  simp (maxSteps := 400000) (disch := omega) only [push_cast, ↓reduceIte, reduceCtorEq, Nat.reduceAdd, Nat.reduceSub, Nat.reduceEqDiff, Nat.reduceLeDiff, Nat.reduceLT, Nat.reduceBEq, Nat.reduceDiv, Nat.reduceMod, Nat.reducePow, Nat.reduceMul, Int.reduceToNat, Int.reduceLT, Int.reduceLE]
  repeat' (first | refine WK_go ?_ | refine W_seqL ?_ | refine W_seq ?_ | refine W_block ?_ | ((first | refine W_regL ?_ | refine W_skip ?_ | refine W_exit ?_); simp (maxSteps := 400000) (disch := omega) only [push_cast, ↓reduceIte, reduceCtorEq, Nat.reduceAdd, Nat.reduceSub, Nat.reduceEqDiff, Nat.reduceLeDiff, Nat.reduceLT, Nat.reduceBEq, Nat.reduceDiv, Nat.reduceMod, Nat.reducePow, Nat.reduceMul, Int.reduceToNat, Int.reduceLT, Int.reduceLE]) | refine And.intro (by omega) ?_ | refine And.intro (by intro hq; (try simp only [Bool.and_eq_true, Bool.or_eq_true, Bool.and_eq_false_iff, Bool.or_eq_false_iff, decide_eq_true_eq, decide_eq_false_iff_not, Bool.not_eq_true', Bool.not_eq_false', beq_iff_eq, beq_eq_false_iff_ne, ne_eq] at hq); omega) ?_ | fail)
  refine W_condD (by rfl) (fun h5 => ?_) (fun h5 => ?_)
  · have hlt : i < b.sp.length := by omega
    have hab : spB b i = (inR (gi b.sp i) 100 131072 && inR (gi b.mo i) 1 1073741824 && inR (gi b.sh i) 1 1073741824) := rfl
    have key : (!inR (gi b.sp i) 100 131072 || !inR (gi b.mo i) 1 1073741824 || !inR (gi b.sh i) 1 1073741824) = !spB b i := by rw [hab]; simp only [Bool.not_and]
    repeat' (first | refine WK_go ?_ | refine W_seqL ?_ | refine W_seq ?_ | refine W_block ?_ | ((first | refine W_regL ?_ | refine W_skip ?_ | refine W_exit ?_ | refine CallC.now (fn48 _ _ _) ?_ | refine CallC.go _ (fun _ => ⟨trivial, fn48 _ _ _⟩) rfl ?_); simp (maxSteps := 400000) (disch := omega) only [push_cast, ↓reduceIte, reduceCtorEq, Nat.reduceAdd, Nat.reduceSub, Nat.reduceEqDiff, Nat.reduceLeDiff, Nat.reduceLT, Nat.reduceBEq, Nat.reduceDiv, Nat.reduceMod, Nat.reducePow, Nat.reduceMul, Int.reduceToNat, Int.reduceLT, Int.reduceLE]) | refine And.intro (by omega) ?_ | refine And.intro (by intro hq; (try simp only [Bool.and_eq_true, Bool.or_eq_true, Bool.and_eq_false_iff, Bool.or_eq_false_iff, decide_eq_true_eq, decide_eq_false_iff_not, Bool.not_eq_true', Bool.not_eq_false', beq_iff_eq, beq_eq_false_iff_ne, ne_eq] at hq); omega) ?_ | fail)
    rw [key]
    refine W_cond (by rfl) (fun hb => ?_) (fun hb => ?_)
    · rw [show spOK b = false from all_no hlt (by simpa using hb), if_neg (by decide)]
      repeat' (first | refine WK_go ?_ | refine W_seqL ?_ | refine W_seq ?_ | refine W_block ?_ | ((first | refine W_regL ?_ | refine W_skip ?_ | refine W_exit ?_); simp (maxSteps := 400000) (disch := omega) only [push_cast, ↓reduceIte, reduceCtorEq, Nat.reduceAdd, Nat.reduceSub, Nat.reduceEqDiff, Nat.reduceLeDiff, Nat.reduceLT, Nat.reduceBEq, Nat.reduceDiv, Nat.reduceMod, Nat.reducePow, Nat.reduceMul, Int.reduceToNat, Int.reduceLT, Int.reduceLE]) | refine And.intro (by omega) ?_ | refine And.intro (by intro hq; (try simp only [Bool.and_eq_true, Bool.or_eq_true, Bool.and_eq_false_iff, Bool.or_eq_false_iff, decide_eq_true_eq, decide_eq_false_iff_not, Bool.not_eq_true', Bool.not_eq_false', beq_iff_eq, beq_eq_false_iff_ne, ne_eq] at hq); omega) ?_ | fail)
      exact W_ret ⟨[_], ⟨rfl, rfl⟩, rfl⟩
    · repeat' (first | refine WK_go ?_ | refine W_seqL ?_ | refine W_seq ?_ | refine W_block ?_ | ((first | refine W_regL ?_ | refine W_skip ?_ | refine W_exit ?_); simp (maxSteps := 400000) (disch := omega) only [push_cast, ↓reduceIte, reduceCtorEq, Nat.reduceAdd, Nat.reduceSub, Nat.reduceEqDiff, Nat.reduceLeDiff, Nat.reduceLT, Nat.reduceBEq, Nat.reduceDiv, Nat.reduceMod, Nat.reducePow, Nat.reduceMul, Int.reduceToNat, Int.reduceLT, Int.reduceLE]) | refine And.intro (by omega) ?_ | refine And.intro (by intro hq; (try simp only [Bool.and_eq_true, Bool.or_eq_true, Bool.and_eq_false_iff, Bool.or_eq_false_iff, decide_eq_true_eq, decide_eq_false_iff_not, Bool.not_eq_true', Bool.not_eq_false', beq_iff_eq, beq_eq_false_iff_ne, ne_eq] at hq); omega) ?_ | fail)
      refine ⟨i + 1, ⟨by omega, up_all hall (by simpa using hb)⟩, by omega, by rfl, ?_⟩
      simp (maxSteps := 400000) (disch := omega) only [push_cast, ↓reduceIte, reduceCtorEq, Nat.reduceAdd, Nat.reduceSub, Nat.reduceEqDiff, Nat.reduceLeDiff, Nat.reduceLT, Nat.reduceBEq, Nat.reduceDiv, Nat.reduceMod, Nat.reducePow, Nat.reduceMul, Int.reduceToNat, Int.reduceLT, Int.reduceLE, S.mk.injEq, List.cons.injEq, Prod.mk.injEq, AV.v.injEq, Value.int.injEq, Value.bool.injEq, Blk.cells.injEq]
  · rw [show spOK b = true from all_yes (fun j hj => hall j (by omega)), if_pos rfl]
    repeat' (first | refine WK_go ?_ | refine W_seqL ?_ | refine W_seq ?_ | refine W_block ?_ | ((first | refine W_regL ?_ | refine W_skip ?_ | refine W_exit ?_); simp (maxSteps := 400000) (disch := omega) only [push_cast, ↓reduceIte, reduceCtorEq, Nat.reduceAdd, Nat.reduceSub, Nat.reduceEqDiff, Nat.reduceLeDiff, Nat.reduceLT, Nat.reduceBEq, Nat.reduceDiv, Nat.reduceMod, Nat.reducePow, Nat.reduceMul, Int.reduceToNat, Int.reduceLT, Int.reduceLE]) | refine And.intro (by omega) ?_ | refine And.intro (by intro hq; (try simp only [Bool.and_eq_true, Bool.or_eq_true, Bool.and_eq_false_iff, Bool.or_eq_false_iff, decide_eq_true_eq, decide_eq_false_iff_not, Bool.not_eq_true', Bool.not_eq_false', beq_iff_eq, beq_eq_false_iff_ne, ne_eq] at hq); omega) ?_ | fail)
    exact W_ret ⟨[_], ⟨rfl, rfl⟩, rfl⟩
theorem fn30 (t : List Frc) (hl : t.length ≤ 140737488355328) : Sy.Fn Try.prog 30 [aT t] (iv (chkT t)) := by
  refine Fn_of_W mixed Xt30 rfl ?_
  unfold chkT
  repeat' (first | refine WK_go ?_ | refine W_seqL ?_ | refine W_seq ?_ | refine W_block ?_ | ((first | refine W_regL ?_ | refine W_skip ?_ | refine W_exit ?_); simp (maxSteps := 400000) (disch := omega) only [push_cast, ↓reduceIte, reduceCtorEq, Nat.reduceAdd, Nat.reduceSub, Nat.reduceEqDiff, Nat.reduceLeDiff, Nat.reduceLT, Nat.reduceBEq, Nat.reduceDiv, Nat.reduceMod, Nat.reducePow, Nat.reduceMul, Int.reduceToNat, Int.reduceLT, Int.reduceLE]) | refine And.intro (by omega) ?_ | refine And.intro (by intro hq; (try simp only [Bool.and_eq_true, Bool.or_eq_true, Bool.and_eq_false_iff, Bool.or_eq_false_iff, decide_eq_true_eq, decide_eq_false_iff_not, Bool.not_eq_true', Bool.not_eq_false', beq_iff_eq, beq_eq_false_iff_ne, ne_eq] at hq); omega) ?_ | fail)
  refine W_cond (by rfl) (fun h => ?_) (fun h => ?_)
  · rw [if_pos (by simp only [Bool.or_eq_true, decide_eq_true_eq] at h; omega)]
    repeat' (first | refine WK_go ?_ | refine W_seqL ?_ | refine W_seq ?_ | refine W_block ?_ | ((first | refine W_regL ?_ | refine W_skip ?_ | refine W_exit ?_); simp (maxSteps := 400000) (disch := omega) only [push_cast, ↓reduceIte, reduceCtorEq, Nat.reduceAdd, Nat.reduceSub, Nat.reduceEqDiff, Nat.reduceLeDiff, Nat.reduceLT, Nat.reduceBEq, Nat.reduceDiv, Nat.reduceMod, Nat.reducePow, Nat.reduceMul, Int.reduceToNat, Int.reduceLT, Int.reduceLE]) | refine And.intro (by omega) ?_ | refine And.intro (by intro hq; (try simp only [Bool.and_eq_true, Bool.or_eq_true, Bool.and_eq_false_iff, Bool.or_eq_false_iff, decide_eq_true_eq, decide_eq_false_iff_not, Bool.not_eq_true', Bool.not_eq_false', beq_iff_eq, beq_eq_false_iff_ne, ne_eq] at hq); omega) ?_ | fail)
    exact W_ret ⟨[_], ⟨rfl, rfl⟩, rfl⟩
  rw [if_neg (by simp only [Bool.or_eq_false_iff, decide_eq_false_iff_not] at h; omega)]
  repeat' (first | refine WK_go ?_ | refine W_seqL ?_ | refine W_seq ?_ | refine W_block ?_ | ((first | refine W_regL ?_ | refine W_skip ?_ | refine W_exit ?_); simp (maxSteps := 400000) (disch := omega) only [push_cast, ↓reduceIte, reduceCtorEq, Nat.reduceAdd, Nat.reduceSub, Nat.reduceEqDiff, Nat.reduceLeDiff, Nat.reduceLT, Nat.reduceBEq, Nat.reduceDiv, Nat.reduceMod, Nat.reducePow, Nat.reduceMul, Int.reduceToNat, Int.reduceLT, Int.reduceLE]) | refine And.intro (by omega) ?_ | refine And.intro (by intro hq; (try simp only [Bool.and_eq_true, Bool.or_eq_true, Bool.and_eq_false_iff, Bool.or_eq_false_iff, decide_eq_true_eq, decide_eq_false_iff_not, Bool.not_eq_true', Bool.not_eq_false', beq_iff_eq, beq_eq_false_iff_ne, ne_eq] at hq); omega) ?_ | fail)
  refine W_loopU (fun i : Nat => [(3, iv (lastF t i)), (16, iv i)]) (fun i => []) (fun i => i ≤ t.length ∧ ∀ j, j < i → frB t j = true) (fun i => t.length - i) 0 ⟨by omega, fun j hj => by omega⟩ (by rfl) (by rfl) (fun i hi => ?_)
  obtain ⟨hi, hall⟩ := hi
  simp (maxSteps := 400000) (disch := omega) only [push_cast, ↓reduceIte, reduceCtorEq, Nat.reduceAdd, Nat.reduceSub, Nat.reduceEqDiff, Nat.reduceLeDiff, Nat.reduceLT, Nat.reduceBEq, Nat.reduceDiv, Nat.reduceMod, Nat.reducePow, Nat.reduceMul, Int.reduceToNat, Int.reduceLT, Int.reduceLE]
  repeat' (first | refine WK_go ?_ | refine W_seqL ?_ | refine W_seq ?_ | refine W_block ?_ | ((first | refine W_regL ?_ | refine W_skip ?_ | refine W_exit ?_); simp (maxSteps := 400000) (disch := omega) only [push_cast, ↓reduceIte, reduceCtorEq, Nat.reduceAdd, Nat.reduceSub, Nat.reduceEqDiff, Nat.reduceLeDiff, Nat.reduceLT, Nat.reduceBEq, Nat.reduceDiv, Nat.reduceMod, Nat.reducePow, Nat.reduceMul, Int.reduceToNat, Int.reduceLT, Int.reduceLE]) | refine And.intro (by omega) ?_ | refine And.intro (by intro hq; (try simp only [Bool.and_eq_true, Bool.or_eq_true, Bool.and_eq_false_iff, Bool.or_eq_false_iff, decide_eq_true_eq, decide_eq_false_iff_not, Bool.not_eq_true', Bool.not_eq_false', beq_iff_eq, beq_eq_false_iff_ne, ne_eq] at hq); omega) ?_ | fail)
  refine W_condD (by rfl) (fun h5 => ?_) (fun h5 => ?_)
  · have hlt : i < t.length := by omega
    have hsp : t.getD i dF = sf t i := rfl
    have hls : lastF t (i + 1) = (sf t i).x := by unfold lastF; rw [if_neg (by omega), Nat.add_sub_cancel]
    have hab : frB t i = (decide (lastF t i ≤ (sf t i).x) && decide ((sf t i).x ≤ 262144) && (!decide (i = 0) || decide ((sf t i).x = 0)) && inR (sf t i).p 0 1048576) := rfl
    generalize hs : sf t i = a at *
    repeat' (first | refine WK_go ?_ | refine W_seqL ?_ | refine W_seq ?_ | refine W_block ?_ | ((first | refine W_regL ?_ | refine W_skip ?_ | refine W_exit ?_ | refine CallC.now (fn48 _ _ _) ?_ | refine CallC.go _ (fun _ => ⟨trivial, fn48 _ _ _⟩) rfl ?_); simp (maxSteps := 400000) (disch := omega) only [push_cast, ↓reduceIte, reduceCtorEq, Nat.reduceAdd, Nat.reduceSub, Nat.reduceEqDiff, Nat.reduceLeDiff, Nat.reduceLT, Nat.reduceBEq, Nat.reduceDiv, Nat.reduceMod, Nat.reducePow, Nat.reduceMul, Int.reduceToNat, Int.reduceLT, Int.reduceLE, hsp]) | refine And.intro (by omega) ?_ | refine And.intro (by intro hq; (try simp only [Bool.and_eq_true, Bool.or_eq_true, Bool.and_eq_false_iff, Bool.or_eq_false_iff, decide_eq_true_eq, decide_eq_false_iff_not, Bool.not_eq_true', Bool.not_eq_false', beq_iff_eq, beq_eq_false_iff_ne, ne_eq] at hq); omega) ?_ | fail)
    refine W_cond (by rfl) (fun hb => ?_) (fun hb => ?_)
    · have hno : frB t i = false := by
        rw [hab, ← Bool.not_eq_true]
        intro q
        simp only [inR, Bool.or_eq_true, Bool.and_eq_true, Bool.not_eq_true', Bool.and_eq_false_iff, decide_eq_true_eq, decide_eq_false_iff_not, beq_iff_eq, bne_iff_ne] at hb q
        omega
      rw [all_no hlt hno, if_neg (by decide)]
      repeat' (first | refine WK_go ?_ | refine W_seqL ?_ | refine W_seq ?_ | refine W_block ?_ | ((first | refine W_regL ?_ | refine W_skip ?_ | refine W_exit ?_); simp (maxSteps := 400000) (disch := omega) only [push_cast, ↓reduceIte, reduceCtorEq, Nat.reduceAdd, Nat.reduceSub, Nat.reduceEqDiff, Nat.reduceLeDiff, Nat.reduceLT, Nat.reduceBEq, Nat.reduceDiv, Nat.reduceMod, Nat.reducePow, Nat.reduceMul, Int.reduceToNat, Int.reduceLT, Int.reduceLE]) | refine And.intro (by omega) ?_ | refine And.intro (by intro hq; (try simp only [Bool.and_eq_true, Bool.or_eq_true, Bool.and_eq_false_iff, Bool.or_eq_false_iff, decide_eq_true_eq, decide_eq_false_iff_not, Bool.not_eq_true', Bool.not_eq_false', beq_iff_eq, beq_eq_false_iff_ne, ne_eq] at hq); omega) ?_ | fail)
      exact W_ret ⟨[_], ⟨rfl, rfl⟩, rfl⟩
    · have hyes : frB t i = true := by
        rw [hab]
        simp only [inR, Bool.or_eq_false_iff, Bool.or_eq_true, Bool.and_eq_true, Bool.not_eq_false', Bool.not_eq_true', Bool.and_eq_false_iff, decide_eq_true_eq, decide_eq_false_iff_not, beq_eq_false_iff_ne, bne_eq_false_iff_eq] at hb ⊢
        omega
      repeat' (first | refine WK_go ?_ | refine W_seqL ?_ | refine W_seq ?_ | refine W_block ?_ | ((first | refine W_regL ?_ | refine W_skip ?_ | refine W_exit ?_); simp (maxSteps := 400000) (disch := omega) only [push_cast, ↓reduceIte, reduceCtorEq, Nat.reduceAdd, Nat.reduceSub, Nat.reduceEqDiff, Nat.reduceLeDiff, Nat.reduceLT, Nat.reduceBEq, Nat.reduceDiv, Nat.reduceMod, Nat.reducePow, Nat.reduceMul, Int.reduceToNat, Int.reduceLT, Int.reduceLE]) | refine And.intro (by omega) ?_ | refine And.intro (by intro hq; (try simp only [Bool.and_eq_true, Bool.or_eq_true, Bool.and_eq_false_iff, Bool.or_eq_false_iff, decide_eq_true_eq, decide_eq_false_iff_not, Bool.not_eq_true', Bool.not_eq_false', beq_iff_eq, beq_eq_false_iff_ne, ne_eq] at hq); omega) ?_ | fail)
      refine ⟨i + 1, ⟨by omega, up_all hall hyes⟩, by omega, by rfl, ?_⟩
      rw [hls]
      simp (maxSteps := 400000) (disch := omega) only [push_cast, ↓reduceIte, reduceCtorEq, Nat.reduceAdd, Nat.reduceSub, Nat.reduceEqDiff, Nat.reduceLeDiff, Nat.reduceLT, Nat.reduceBEq, Nat.reduceDiv, Nat.reduceMod, Nat.reducePow, Nat.reduceMul, Int.reduceToNat, Int.reduceLT, Int.reduceLE, S.mk.injEq, List.cons.injEq, Prod.mk.injEq, AV.v.injEq, Value.int.injEq, Value.bool.injEq, Blk.cells.injEq]
  · rw [all_yes (fun j hj => hall j (by omega)), if_pos rfl]
    repeat' (first | refine WK_go ?_ | refine W_seqL ?_ | refine W_seq ?_ | refine W_block ?_ | ((first | refine W_regL ?_ | refine W_skip ?_ | refine W_exit ?_); simp (maxSteps := 400000) (disch := omega) only [push_cast, ↓reduceIte, reduceCtorEq, Nat.reduceAdd, Nat.reduceSub, Nat.reduceEqDiff, Nat.reduceLeDiff, Nat.reduceLT, Nat.reduceBEq, Nat.reduceDiv, Nat.reduceMod, Nat.reducePow, Nat.reduceMul, Int.reduceToNat, Int.reduceLT, Int.reduceLE]) | refine And.intro (by omega) ?_ | refine And.intro (by intro hq; (try simp only [Bool.and_eq_true, Bool.or_eq_true, Bool.and_eq_false_iff, Bool.or_eq_false_iff, decide_eq_true_eq, decide_eq_false_iff_not, Bool.not_eq_true', Bool.not_eq_false', beq_iff_eq, beq_eq_false_iff_ne, ne_eq] at hq); omega) ?_ | fail)
    exact W_ret ⟨[_], ⟨rfl, rfl⟩, rfl⟩
theorem frB_iff {t : List Frc} {i : Nat} : frB t i = true ↔ lastF t i ≤ (sf t i).x ∧ (sf t i).x ≤ 262144 ∧ (i = 0 → (sf t i).x = 0) ∧ 0 ≤ (sf t i).p ∧ (sf t i).p ≤ 1048576 := by
  unfold frB inR
  simp only [Bool.and_eq_true, Bool.or_eq_true, Bool.not_eq_true', decide_eq_true_eq, decide_eq_false_iff_not]
  omega
theorem last_nn {t : List Frc} : ∀ (i : Nat), (∀ j, j < i → frB t j = true) → 0 ≤ lastF t i
  | 0, _ => Int.le_refl _
  | i + 1, h => by
    have ih := last_nn i (fun j hj => h j (by omega))
    have h1 := (frB_iff.1 (h i (by omega))).1
    unfold lastF
    rw [if_neg (by omega), Nat.add_sub_cancel]
    omega
theorem fn60 (t : List Frc) (hl : t.length ≤ 140737488355328) : Sy.Fn Try.prog 60 [aT t] (iv (chkT t)) := by
  refine Fn_of_W mixed Xt60 rfl ?_
  unfold chkT
  repeat' (first | refine WK_go ?_ | refine W_seqL ?_ | refine W_seq ?_ | refine W_block ?_ | ((first | refine W_regL ?_ | refine W_skip ?_ | refine W_exit ?_); simp (maxSteps := 400000) (disch := omega) only [push_cast, ↓reduceIte, reduceCtorEq, Nat.reduceAdd, Nat.reduceSub, Nat.reduceEqDiff, Nat.reduceLeDiff, Nat.reduceLT, Nat.reduceBEq, Nat.reduceDiv, Nat.reduceMod, Nat.reducePow, Nat.reduceMul, Int.reduceToNat, Int.reduceLT, Int.reduceLE]) | refine And.intro (by omega) ?_ | refine And.intro (by intro hq; (try simp only [Bool.and_eq_true, Bool.or_eq_true, Bool.and_eq_false_iff, Bool.or_eq_false_iff, decide_eq_true_eq, decide_eq_false_iff_not, Bool.not_eq_true', Bool.not_eq_false', beq_iff_eq, beq_eq_false_iff_ne, ne_eq] at hq); omega) ?_ | fail)
  refine W_cond (by rfl) (fun h => ?_) (fun h => ?_)
  · rw [if_pos (by simp only [Bool.or_eq_true, decide_eq_true_eq] at h; omega)]
    repeat' (first | refine WK_go ?_ | refine W_seqL ?_ | refine W_seq ?_ | refine W_block ?_ | ((first | refine W_regL ?_ | refine W_skip ?_ | refine W_exit ?_); simp (maxSteps := 400000) (disch := omega) only [push_cast, ↓reduceIte, reduceCtorEq, Nat.reduceAdd, Nat.reduceSub, Nat.reduceEqDiff, Nat.reduceLeDiff, Nat.reduceLT, Nat.reduceBEq, Nat.reduceDiv, Nat.reduceMod, Nat.reducePow, Nat.reduceMul, Int.reduceToNat, Int.reduceLT, Int.reduceLE]) | refine And.intro (by omega) ?_ | refine And.intro (by intro hq; (try simp only [Bool.and_eq_true, Bool.or_eq_true, Bool.and_eq_false_iff, Bool.or_eq_false_iff, decide_eq_true_eq, decide_eq_false_iff_not, Bool.not_eq_true', Bool.not_eq_false', beq_iff_eq, beq_eq_false_iff_ne, ne_eq] at hq); omega) ?_ | fail)
    exact W_ret ⟨[_], ⟨rfl, rfl⟩, rfl⟩
  rw [if_neg (by simp only [Bool.or_eq_false_iff, decide_eq_false_iff_not] at h; omega)]
  repeat' (first | refine WK_go ?_ | refine W_seqL ?_ | refine W_seq ?_ | refine W_block ?_ | ((first | refine W_regL ?_ | refine W_skip ?_ | refine W_exit ?_); simp (maxSteps := 400000) (disch := omega) only [push_cast, ↓reduceIte, reduceCtorEq, Nat.reduceAdd, Nat.reduceSub, Nat.reduceEqDiff, Nat.reduceLeDiff, Nat.reduceLT, Nat.reduceBEq, Nat.reduceDiv, Nat.reduceMod, Nat.reducePow, Nat.reduceMul, Int.reduceToNat, Int.reduceLT, Int.reduceLE]) | refine And.intro (by omega) ?_ | refine And.intro (by intro hq; (try simp only [Bool.and_eq_true, Bool.or_eq_true, Bool.and_eq_false_iff, Bool.or_eq_false_iff, decide_eq_true_eq, decide_eq_false_iff_not, Bool.not_eq_true', Bool.not_eq_false', beq_iff_eq, beq_eq_false_iff_ne, ne_eq] at hq); omega) ?_ | fail)
  refine W_loopU (fun i : Nat => [(3, iv i)]) (fun i => []) (fun i => i ≤ t.length ∧ ∀ j, j < i → frB t j = true) (fun i => t.length - i) 0 ⟨by omega, fun j hj => by omega⟩ (by rfl) (by rfl) (fun i hi => ?_)
  obtain ⟨hi, hall⟩ := hi
  simp (maxSteps := 400000) (disch := omega) only [push_cast, ↓reduceIte, reduceCtorEq, Nat.reduceAdd, Nat.reduceSub, Nat.reduceEqDiff, Nat.reduceLeDiff, Nat.reduceLT, Nat.reduceBEq, Nat.reduceDiv, Nat.reduceMod, Nat.reducePow, Nat.reduceMul, Int.reduceToNat, Int.reduceLT, Int.reduceLE]
  repeat' (first | refine WK_go ?_ | refine W_seqL ?_ | refine W_seq ?_ | refine W_block ?_ | ((first | refine W_regL ?_ | refine W_skip ?_ | refine W_exit ?_); simp (maxSteps := 400000) (disch := omega) only [push_cast, ↓reduceIte, reduceCtorEq, Nat.reduceAdd, Nat.reduceSub, Nat.reduceEqDiff, Nat.reduceLeDiff, Nat.reduceLT, Nat.reduceBEq, Nat.reduceDiv, Nat.reduceMod, Nat.reducePow, Nat.reduceMul, Int.reduceToNat, Int.reduceLT, Int.reduceLE]) | refine And.intro (by omega) ?_ | refine And.intro (by intro hq; (try simp only [Bool.and_eq_true, Bool.or_eq_true, Bool.and_eq_false_iff, Bool.or_eq_false_iff, decide_eq_true_eq, decide_eq_false_iff_not, Bool.not_eq_true', Bool.not_eq_false', beq_iff_eq, beq_eq_false_iff_ne, ne_eq] at hq); omega) ?_ | fail)
  refine W_condD (by rfl) (fun h5 => ?_) (fun h5 => ?_)
  · have hlt : i < t.length := by omega
    have hsp : ∀ i, t.getD i dF = sf t i := fun i => rfl
    have hab : frB t i = (decide (lastF t i ≤ (sf t i).x) && decide ((sf t i).x ≤ 262144) && (!decide (i = 0) || decide ((sf t i).x = 0)) && inR (sf t i).p 0 1048576) := rfl
    repeat' (first | refine WK_go ?_ | refine W_seqL ?_ | refine W_seq ?_ | refine W_block ?_ | ((first | refine W_regL ?_ | refine W_skip ?_ | refine W_exit ?_ | refine CallC.now (fn61 _ _ _) ?_ | refine CallC.go _ (fun _ => ⟨trivial, fn61 _ _ _⟩) rfl ?_); simp (maxSteps := 400000) (disch := omega) only [push_cast, ↓reduceIte, reduceCtorEq, Nat.reduceAdd, Nat.reduceSub, Nat.reduceEqDiff, Nat.reduceLeDiff, Nat.reduceLT, Nat.reduceBEq, Nat.reduceDiv, Nat.reduceMod, Nat.reducePow, Nat.reduceMul, Int.reduceToNat, Int.reduceLT, Int.reduceLE, hsp]) | refine And.intro (by omega) ?_ | refine And.intro (by intro hq; (try simp only [Bool.and_eq_true, Bool.or_eq_true, Bool.and_eq_false_iff, Bool.or_eq_false_iff, decide_eq_true_eq, decide_eq_false_iff_not, Bool.not_eq_true', Bool.not_eq_false', beq_iff_eq, beq_eq_false_iff_ne, ne_eq] at hq); omega) ?_ | fail)
    have hln := last_nn i hall
    have e1 : ((i : Int) - 1).toNat = i - 1 := by omega
    rw [e1]
    have key : ((i : Int) == 0 && (sf t i).x != 0 || decide (0 < (i : Int)) && decide ((sf t i).x < (sf t (i - 1)).x) || !inR (sf t i).x 0 262144 || !inR (sf t i).p 0 1048576) = !frB t i := by
      have hfi := frB_iff (t := t) (i := i)
      rw [Bool.eq_iff_iff, Bool.not_eq_true', ← Bool.not_eq_true, hfi]
      unfold lastF at hln ⊢
      simp only [inR, Bool.or_eq_true, Bool.and_eq_true, Bool.not_eq_true', Bool.and_eq_false_iff, decide_eq_true_eq, decide_eq_false_iff_not, beq_iff_eq, bne_iff_ne]
      by_cases q : i = 0
      · rw [if_pos q] at hln ⊢; omega
      · rw [if_neg q] at hln ⊢; omega
    rw [key]
    refine W_cond (by rfl) (fun hb => ?_) (fun hb => ?_)
    · rw [all_no hlt (by simpa using hb), if_neg (by decide)]
      repeat' (first | refine WK_go ?_ | refine W_seqL ?_ | refine W_seq ?_ | refine W_block ?_ | ((first | refine W_regL ?_ | refine W_skip ?_ | refine W_exit ?_); simp (maxSteps := 400000) (disch := omega) only [push_cast, ↓reduceIte, reduceCtorEq, Nat.reduceAdd, Nat.reduceSub, Nat.reduceEqDiff, Nat.reduceLeDiff, Nat.reduceLT, Nat.reduceBEq, Nat.reduceDiv, Nat.reduceMod, Nat.reducePow, Nat.reduceMul, Int.reduceToNat, Int.reduceLT, Int.reduceLE]) | refine And.intro (by omega) ?_ | refine And.intro (by intro hq; (try simp only [Bool.and_eq_true, Bool.or_eq_true, Bool.and_eq_false_iff, Bool.or_eq_false_iff, decide_eq_true_eq, decide_eq_false_iff_not, Bool.not_eq_true', Bool.not_eq_false', beq_iff_eq, beq_eq_false_iff_ne, ne_eq] at hq); omega) ?_ | fail)
      exact W_ret ⟨[_], ⟨rfl, rfl⟩, rfl⟩
    · repeat' (first | refine WK_go ?_ | refine W_seqL ?_ | refine W_seq ?_ | refine W_block ?_ | ((first | refine W_regL ?_ | refine W_skip ?_ | refine W_exit ?_); simp (maxSteps := 400000) (disch := omega) only [push_cast, ↓reduceIte, reduceCtorEq, Nat.reduceAdd, Nat.reduceSub, Nat.reduceEqDiff, Nat.reduceLeDiff, Nat.reduceLT, Nat.reduceBEq, Nat.reduceDiv, Nat.reduceMod, Nat.reducePow, Nat.reduceMul, Int.reduceToNat, Int.reduceLT, Int.reduceLE]) | refine And.intro (by omega) ?_ | refine And.intro (by intro hq; (try simp only [Bool.and_eq_true, Bool.or_eq_true, Bool.and_eq_false_iff, Bool.or_eq_false_iff, decide_eq_true_eq, decide_eq_false_iff_not, Bool.not_eq_true', Bool.not_eq_false', beq_iff_eq, beq_eq_false_iff_ne, ne_eq] at hq); omega) ?_ | fail)
      refine ⟨i + 1, ⟨by omega, up_all hall (by simpa using hb)⟩, by omega, by rfl, ?_⟩
      simp (maxSteps := 400000) (disch := omega) only [push_cast, ↓reduceIte, reduceCtorEq, Nat.reduceAdd, Nat.reduceSub, Nat.reduceEqDiff, Nat.reduceLeDiff, Nat.reduceLT, Nat.reduceBEq, Nat.reduceDiv, Nat.reduceMod, Nat.reducePow, Nat.reduceMul, Int.reduceToNat, Int.reduceLT, Int.reduceLE, S.mk.injEq, List.cons.injEq, Prod.mk.injEq, AV.v.injEq, Value.int.injEq, Value.bool.injEq, Blk.cells.injEq]
  · rw [all_yes (fun j hj => hall j (by omega)), if_pos rfl]
    repeat' (first | refine WK_go ?_ | refine W_seqL ?_ | refine W_seq ?_ | refine W_block ?_ | ((first | refine W_regL ?_ | refine W_skip ?_ | refine W_exit ?_); simp (maxSteps := 400000) (disch := omega) only [push_cast, ↓reduceIte, reduceCtorEq, Nat.reduceAdd, Nat.reduceSub, Nat.reduceEqDiff, Nat.reduceLeDiff, Nat.reduceLT, Nat.reduceBEq, Nat.reduceDiv, Nat.reduceMod, Nat.reducePow, Nat.reduceMul, Int.reduceToNat, Int.reduceLT, Int.reduceLE]) | refine And.intro (by omega) ?_ | refine And.intro (by intro hq; (try simp only [Bool.and_eq_true, Bool.or_eq_true, Bool.and_eq_false_iff, Bool.or_eq_false_iff, decide_eq_true_eq, decide_eq_false_iff_not, Bool.not_eq_true', Bool.not_eq_false', beq_iff_eq, beq_eq_false_iff_ne, ne_eq] at hq); omega) ?_ | fail)
    exact W_ret ⟨[_], ⟨rfl, rfl⟩, rfl⟩
end Go.Proofs.Ytbdnnicodailcaa

/- Pavements: wear, damage, what is left. -/
namespace Go.Proofs.Ytbdnnicodailcaa
open Go Sy
set_option maxRecDepth 100000
set_option maxHeartbeats 4000000
set_option linter.unusedVariables false
set_option linter.unusedSimpArgs false
def pvP (p : Pav) : Prop := (1 ≤ p.load ∧ p.load ≤ 1048576) ∧ (1 ≤ p.life ∧ p.life ≤ 1048576) ∧ 1 ≤ p.power ∧ p.power ≤ 6
instance (p : Pav) : Decidable (pvP p) := by unfold pvP; infer_instance
def chkPv (p : Pav) : Int := if pvP p then 0 else 2
theorem chkPv_ok {p : Pav} (h : chkPv p = 0) : pvP p := by
  unfold chkPv at h
  split at h
  · assumption
  · omega
theorem fn25 (p : Pav) : Sy.Fn Try.prog 25 [.agg (cP p)] (iv (chkPv p)) := by
  refine Fn_of_W mixed Xt25 rfl ?_
  repeat' (first | refine WK_go ?_ | refine W_seqL ?_ | refine W_seq ?_ | refine W_block ?_ | ((first | refine W_regL ?_ | refine W_skip ?_ | refine W_exit ?_ | refine CallC.now (fn48 _ _ _) ?_ | refine CallC.go _ (fun _ => ⟨trivial, fn48 _ _ _⟩) rfl ?_); simp (maxSteps := 400000) (disch := omega) only [push_cast, ↓reduceIte, reduceCtorEq, Nat.reduceAdd, Nat.reduceSub, Nat.reduceEqDiff, Nat.reduceLeDiff, Nat.reduceLT, Nat.reduceBEq, Nat.reduceDiv, Nat.reduceMod, Nat.reducePow, Nat.reduceMul, Int.reduceToNat, Int.reduceLT, Int.reduceLE]) | refine And.intro (by omega) ?_ | refine And.intro (by intro hq; (try simp only [Bool.and_eq_true, Bool.or_eq_true, Bool.and_eq_false_iff, Bool.or_eq_false_iff, decide_eq_true_eq, decide_eq_false_iff_not, Bool.not_eq_true', Bool.not_eq_false', beq_iff_eq, beq_eq_false_iff_ne, ne_eq] at hq); omega) ?_ | fail)
  unfold chkPv
  refine W_cond (by rfl) (fun h => ?_) (fun h => ?_)
  · rw [if_neg (show ¬ pvP p by
      unfold pvP
      simp only [inR, Bool.or_eq_true, Bool.not_eq_true', Bool.and_eq_false_iff, decide_eq_true_eq, decide_eq_false_iff_not] at h
      omega)]
    repeat' (first | refine WK_go ?_ | refine W_seqL ?_ | refine W_seq ?_ | refine W_block ?_ | ((first | refine W_regL ?_ | refine W_skip ?_ | refine W_exit ?_); simp (maxSteps := 400000) (disch := omega) only [push_cast, ↓reduceIte, reduceCtorEq, Nat.reduceAdd, Nat.reduceSub, Nat.reduceEqDiff, Nat.reduceLeDiff, Nat.reduceLT, Nat.reduceBEq, Nat.reduceDiv, Nat.reduceMod, Nat.reducePow, Nat.reduceMul, Int.reduceToNat, Int.reduceLT, Int.reduceLE]) | refine And.intro (by omega) ?_ | refine And.intro (by intro hq; (try simp only [Bool.and_eq_true, Bool.or_eq_true, Bool.and_eq_false_iff, Bool.or_eq_false_iff, decide_eq_true_eq, decide_eq_false_iff_not, Bool.not_eq_true', Bool.not_eq_false', beq_iff_eq, beq_eq_false_iff_ne, ne_eq] at hq); omega) ?_ | fail)
    exact W_ret ⟨[_], ⟨rfl, rfl⟩, rfl⟩
  · rw [if_pos (show pvP p by
      unfold pvP
      simp only [inR, Bool.or_eq_false_iff, Bool.not_eq_false', Bool.and_eq_true, decide_eq_true_eq, decide_eq_false_iff_not] at h
      omega)]
    repeat' (first | refine WK_go ?_ | refine W_seqL ?_ | refine W_seq ?_ | refine W_block ?_ | ((first | refine W_regL ?_ | refine W_skip ?_ | refine W_exit ?_); simp (maxSteps := 400000) (disch := omega) only [push_cast, ↓reduceIte, reduceCtorEq, Nat.reduceAdd, Nat.reduceSub, Nat.reduceEqDiff, Nat.reduceLeDiff, Nat.reduceLT, Nat.reduceBEq, Nat.reduceDiv, Nat.reduceMod, Nat.reducePow, Nat.reduceMul, Int.reduceToNat, Int.reduceLT, Int.reduceLE]) | refine And.intro (by omega) ?_ | refine And.intro (by intro hq; (try simp only [Bool.and_eq_true, Bool.or_eq_true, Bool.and_eq_false_iff, Bool.or_eq_false_iff, decide_eq_true_eq, decide_eq_false_iff_not, Bool.not_eq_true', Bool.not_eq_false', beq_iff_eq, beq_eq_false_iff_ne, ne_eq] at hq); omega) ?_ | fail)
    exact W_ret ⟨[_], ⟨rfl, rfl⟩, rfl⟩
/-- the first that is not 0 -/
def orF : List Int → Int
  | [] => 0
  | x :: r => if x ≠ 0 then x else orF r
theorem orF_at : ∀ {l : List Int} {i : Nat}, i < l.length → (∀ j, j < i → gi l j = 0) → gi l i ≠ 0 → orF l = gi l i
  | [], i, h, _, _ => by simp at h
  | x :: r, 0, _, _, h => by
    have : x ≠ 0 := by simpa using h
    simp [orF, this]
  | x :: r, i + 1, h, hj, hp => by
    have h0 : x = 0 := by simpa using hj 0 (by omega)
    have := orF_at (l := r) (i := i) (by simpa using h) (fun j hlt => by simpa using hj (j + 1) (by omega)) (by simpa using hp)
    simp only [orF, h0, ne_eq, not_true, if_false, this]
    simp
theorem orF_none : ∀ {l : List Int}, (∀ j, j < l.length → gi l j = 0) → orF l = 0
  | [], _ => rfl
  | x :: r, h => by
    have h0 : x = 0 := by simpa using h 0 (by simp)
    have := orF_none (l := r) (fun j hlt => by simpa using h (j + 1) (by simpa using hlt))
    simp only [orF, h0, ne_eq, not_true, if_false, this]
theorem fn88 (l : List Int) (hl : l.length ≤ 1000000) : Sy.Fn Try.prog 88 [aI l] (iv (orF l)) := by
  refine Fn_of_W mixed Xt88 rfl ?_
  repeat' (first | refine WK_go ?_ | refine W_seqL ?_ | refine W_seq ?_ | refine W_block ?_ | ((first | refine W_regL ?_ | refine W_skip ?_ | refine W_exit ?_); simp (maxSteps := 400000) (disch := omega) only [push_cast, ↓reduceIte, reduceCtorEq, Nat.reduceAdd, Nat.reduceSub, Nat.reduceEqDiff, Nat.reduceLeDiff, Nat.reduceLT, Nat.reduceBEq, Nat.reduceDiv, Nat.reduceMod, Nat.reducePow, Nat.reduceMul, Int.reduceToNat, Int.reduceLT, Int.reduceLE]) | refine And.intro (by omega) ?_ | refine And.intro (by intro hq; (try simp only [Bool.and_eq_true, Bool.or_eq_true, Bool.and_eq_false_iff, Bool.or_eq_false_iff, decide_eq_true_eq, decide_eq_false_iff_not, Bool.not_eq_true', Bool.not_eq_false', beq_iff_eq, beq_eq_false_iff_ne, ne_eq] at hq); omega) ?_ | fail)
  refine W_loopU (fun i : Nat => [(8, iv i)]) (fun i => []) (fun i => i ≤ l.length ∧ ∀ j, j < i → gi l j = 0) (fun i => l.length - i) 0 ⟨by omega, fun j hj => by omega⟩ (by rfl) (by rfl) (fun i hi => ?_)
  obtain ⟨hi, hall⟩ := hi
  simp (maxSteps := 400000) (disch := omega) only [push_cast, ↓reduceIte, reduceCtorEq, Nat.reduceAdd, Nat.reduceSub, Nat.reduceEqDiff, Nat.reduceLeDiff, Nat.reduceLT, Nat.reduceBEq, Nat.reduceDiv, Nat.reduceMod, Nat.reducePow, Nat.reduceMul, Int.reduceToNat, Int.reduceLT, Int.reduceLE]
  repeat' (first | refine WK_go ?_ | refine W_seqL ?_ | refine W_seq ?_ | refine W_block ?_ | ((first | refine W_regL ?_ | refine W_skip ?_ | refine W_exit ?_); simp (maxSteps := 400000) (disch := omega) only [push_cast, ↓reduceIte, reduceCtorEq, Nat.reduceAdd, Nat.reduceSub, Nat.reduceEqDiff, Nat.reduceLeDiff, Nat.reduceLT, Nat.reduceBEq, Nat.reduceDiv, Nat.reduceMod, Nat.reducePow, Nat.reduceMul, Int.reduceToNat, Int.reduceLT, Int.reduceLE]) | refine And.intro (by omega) ?_ | refine And.intro (by intro hq; (try simp only [Bool.and_eq_true, Bool.or_eq_true, Bool.and_eq_false_iff, Bool.or_eq_false_iff, decide_eq_true_eq, decide_eq_false_iff_not, Bool.not_eq_true', Bool.not_eq_false', beq_iff_eq, beq_eq_false_iff_ne, ne_eq] at hq); omega) ?_ | fail)
  refine W_condD (by rfl) (fun h5 => ?_) (fun h5 => ?_)
  · have hlt : i < l.length := by omega
    repeat' (first | refine WK_go ?_ | refine W_seqL ?_ | refine W_seq ?_ | refine W_block ?_ | ((first | refine W_regL ?_ | refine W_skip ?_ | refine W_exit ?_); simp (maxSteps := 400000) (disch := omega) only [push_cast, ↓reduceIte, reduceCtorEq, Nat.reduceAdd, Nat.reduceSub, Nat.reduceEqDiff, Nat.reduceLeDiff, Nat.reduceLT, Nat.reduceBEq, Nat.reduceDiv, Nat.reduceMod, Nat.reducePow, Nat.reduceMul, Int.reduceToNat, Int.reduceLT, Int.reduceLE]) | refine And.intro (by omega) ?_ | refine And.intro (by intro hq; (try simp only [Bool.and_eq_true, Bool.or_eq_true, Bool.and_eq_false_iff, Bool.or_eq_false_iff, decide_eq_true_eq, decide_eq_false_iff_not, Bool.not_eq_true', Bool.not_eq_false', beq_iff_eq, beq_eq_false_iff_ne, ne_eq] at hq); omega) ?_ | fail)
    refine W_cond (by rfl) (fun hb => ?_) (fun hb => ?_)
    · rw [orF_at hlt hall (by simpa using hb)]
      repeat' (first | refine WK_go ?_ | refine W_seqL ?_ | refine W_seq ?_ | refine W_block ?_ | ((first | refine W_regL ?_ | refine W_skip ?_ | refine W_exit ?_); simp (maxSteps := 400000) (disch := omega) only [push_cast, ↓reduceIte, reduceCtorEq, Nat.reduceAdd, Nat.reduceSub, Nat.reduceEqDiff, Nat.reduceLeDiff, Nat.reduceLT, Nat.reduceBEq, Nat.reduceDiv, Nat.reduceMod, Nat.reducePow, Nat.reduceMul, Int.reduceToNat, Int.reduceLT, Int.reduceLE]) | refine And.intro (by omega) ?_ | refine And.intro (by intro hq; (try simp only [Bool.and_eq_true, Bool.or_eq_true, Bool.and_eq_false_iff, Bool.or_eq_false_iff, decide_eq_true_eq, decide_eq_false_iff_not, Bool.not_eq_true', Bool.not_eq_false', beq_iff_eq, beq_eq_false_iff_ne, ne_eq] at hq); omega) ?_ | fail)
      exact W_ret ⟨[_], ⟨rfl, rfl⟩, rfl⟩
    · repeat' (first | refine WK_go ?_ | refine W_seqL ?_ | refine W_seq ?_ | refine W_block ?_ | ((first | refine W_regL ?_ | refine W_skip ?_ | refine W_exit ?_); simp (maxSteps := 400000) (disch := omega) only [push_cast, ↓reduceIte, reduceCtorEq, Nat.reduceAdd, Nat.reduceSub, Nat.reduceEqDiff, Nat.reduceLeDiff, Nat.reduceLT, Nat.reduceBEq, Nat.reduceDiv, Nat.reduceMod, Nat.reducePow, Nat.reduceMul, Int.reduceToNat, Int.reduceLT, Int.reduceLE]) | refine And.intro (by omega) ?_ | refine And.intro (by intro hq; (try simp only [Bool.and_eq_true, Bool.or_eq_true, Bool.and_eq_false_iff, Bool.or_eq_false_iff, decide_eq_true_eq, decide_eq_false_iff_not, Bool.not_eq_true', Bool.not_eq_false', beq_iff_eq, beq_eq_false_iff_ne, ne_eq] at hq); omega) ?_ | fail)
      refine ⟨i + 1, ⟨by omega, up_all hall (by simpa using hb)⟩, by omega, by rfl, ?_⟩
      simp (maxSteps := 400000) (disch := omega) only [push_cast, ↓reduceIte, reduceCtorEq, Nat.reduceAdd, Nat.reduceSub, Nat.reduceEqDiff, Nat.reduceLeDiff, Nat.reduceLT, Nat.reduceBEq, Nat.reduceDiv, Nat.reduceMod, Nat.reducePow, Nat.reduceMul, Int.reduceToNat, Int.reduceLT, Int.reduceLE, S.mk.injEq, List.cons.injEq, Prod.mk.injEq, AV.v.injEq, Value.int.injEq, Value.bool.injEq, Blk.cells.injEq]
  · rw [orF_none (fun j hj => hall j (by omega))]
    repeat' (first | refine WK_go ?_ | refine W_seqL ?_ | refine W_seq ?_ | refine W_block ?_ | ((first | refine W_regL ?_ | refine W_skip ?_ | refine W_exit ?_); simp (maxSteps := 400000) (disch := omega) only [push_cast, ↓reduceIte, reduceCtorEq, Nat.reduceAdd, Nat.reduceSub, Nat.reduceEqDiff, Nat.reduceLeDiff, Nat.reduceLT, Nat.reduceBEq, Nat.reduceDiv, Nat.reduceMod, Nat.reducePow, Nat.reduceMul, Int.reduceToNat, Int.reduceLT, Int.reduceLE]) | refine And.intro (by omega) ?_ | refine And.intro (by intro hq; (try simp only [Bool.and_eq_true, Bool.or_eq_true, Bool.and_eq_false_iff, Bool.or_eq_false_iff, decide_eq_true_eq, decide_eq_false_iff_not, Bool.not_eq_true', Bool.not_eq_false', beq_iff_eq, beq_eq_false_iff_ne, ne_eq] at hq); omega) ?_ | fail)
    exact W_ret ⟨[_], ⟨rfl, rfl⟩, rfl⟩
theorem chkT_ok {t : List Frc} (h : chkT t = 0) : (1 ≤ t.length ∧ t.length ≤ 64) ∧ ∀ i, i < t.length → frB t i = true := by
  unfold chkT at h
  split at h
  · omega
  · split at h
    · rename_i h1 h2
      exact ⟨by omega, all_of h2⟩
    · omega
def wearE (p : Pav) (t : List Frc) : Int := if chkPv p ≠ 0 then chkPv p else if chkT t ≠ 0 then chkT t else if wOK p t = true then 0 else 4
def wearV (p : Pav) (t : List Frc) : Int := if wearE p t = 0 then wS p t t.length else 0
theorem wN_stay {r : Int} {k : Nat} (h : 1073741824 < wN r k) : ∀ n, wN r (k + n) = wN r k
  | 0 => rfl
  | n + 1 => by
    have ih := wN_stay h n
    show wN r (k + n + 1) = _
    simp only [wN]
    rw [if_neg (by omega), ih]
theorem wR_rng {p : Pav} {f : Frc} (hp : pvP p) (hf : 0 ≤ f.p ∧ f.p ≤ 1048576) : 0 ≤ wR p f ∧ wR p f ≤ 1048576000 := by
  unfold wR
  obtain ⟨h1, _⟩ := hp
  exact ⟨cdiv_nn (by omega) (by omega), cdiv_top (by omega) (by omega) (by omega) (by omega)⟩
theorem wA_rng {p : Pav} {f : Frc} (hp : pvP p) (hf : 0 ≤ f.p ∧ f.p ≤ 1048576) : 0 ≤ wA p f ∧ wA p f ≤ 1152921504606846976 := by
  have := wR_rng hp hf
  exact ⟨wN_nn this.1 _, wN_le ⟨this.1, by omega⟩ _⟩
theorem wOK_no {p : Pav} {t : List Frc} {i : Nat} (hi : i < t.length) (h : ¬ (wA p (sf t i) ≤ 1073741824 ∧ wS p t (i + 1) ≤ 1073741824)) : wOK p t = false := by
  rw [← Bool.not_eq_true]
  intro q
  exact h (wOK_iff.1 q i hi)
theorem fn55 (p : Pav) (t : List Frc) (hl : t.length ≤ 140737488355328) : Sy.Fn Try.prog 55 [.agg (cP p), aT t] (.tup [iv (wearV p t), iv (wearE p t)]) := by
  refine Fn_of_W mixed Xt55 rfl ?_
  have c88 := fn88 [chkPv p, chkT t] (Nat.le_of_ble_eq_true rfl)
  have c30 := fn30 t hl
  have c25 := fn25 p
  repeat' (first | refine WK_go ?_ | refine W_seqL ?_ | refine W_seq ?_ | refine W_block ?_ | ((first | refine W_regL ?_ | refine W_skip ?_ | refine W_exit ?_ | refine CallC.now (c25) ?_ | refine CallC.now (c30) ?_); simp (maxSteps := 400000) (disch := omega) only [push_cast, ↓reduceIte, reduceCtorEq, Nat.reduceAdd, Nat.reduceSub, Nat.reduceEqDiff, Nat.reduceLeDiff, Nat.reduceLT, Nat.reduceBEq, Nat.reduceDiv, Nat.reduceMod, Nat.reducePow, Nat.reduceMul, Int.reduceToNat, Int.reduceLT, Int.reduceLE]) | refine And.intro (by omega) ?_ | refine And.intro (by intro hq; (try simp only [Bool.and_eq_true, Bool.or_eq_true, Bool.and_eq_false_iff, Bool.or_eq_false_iff, decide_eq_true_eq, decide_eq_false_iff_not, Bool.not_eq_true', Bool.not_eq_false', beq_iff_eq, beq_eq_false_iff_ne, ne_eq] at hq); omega) ?_ | fail)
  refine ⟨rfl, trivial, Int, 0, cI, [chkPv p, chkT t], rfl, by omega, fun x _ => ⟨rfl, rfl⟩, rfl, ?_⟩
  simp (maxSteps := 400000) (disch := omega) only [push_cast, ↓reduceIte, reduceCtorEq, Nat.reduceAdd, Nat.reduceSub, Nat.reduceEqDiff, Nat.reduceLeDiff, Nat.reduceLT, Nat.reduceBEq, Nat.reduceDiv, Nat.reduceMod, Nat.reducePow, Nat.reduceMul, Int.reduceToNat, Int.reduceLT, Int.reduceLE]
  repeat' (first | refine WK_go ?_ | refine W_seqL ?_ | refine W_seq ?_ | refine W_block ?_ | ((first | refine W_regL ?_ | refine W_skip ?_ | refine W_exit ?_ | refine CallC.go _ (fun _ => ⟨trivial, c88⟩) rfl ?_); simp (maxSteps := 400000) (disch := omega) only [push_cast, ↓reduceIte, reduceCtorEq, Nat.reduceAdd, Nat.reduceSub, Nat.reduceEqDiff, Nat.reduceLeDiff, Nat.reduceLT, Nat.reduceBEq, Nat.reduceDiv, Nat.reduceMod, Nat.reducePow, Nat.reduceMul, Int.reduceToNat, Int.reduceLT, Int.reduceLE]) | refine And.intro (by omega) ?_ | refine And.intro (by intro hq; (try simp only [Bool.and_eq_true, Bool.or_eq_true, Bool.and_eq_false_iff, Bool.or_eq_false_iff, decide_eq_true_eq, decide_eq_false_iff_not, Bool.not_eq_true', Bool.not_eq_false', beq_iff_eq, beq_eq_false_iff_ne, ne_eq] at hq); omega) ?_ | fail)
  refine W_cond (by rfl) (fun h => ?_) (fun h => ?_)
  · have e : wearE p t = orF [chkPv p, chkT t] ∧ wearE p t ≠ 0 := by
      have h' : orF [chkPv p, chkT t] ≠ 0 := by simpa using h
      unfold wearE
      simp only [orF] at h' ⊢
      by_cases q : chkPv p ≠ 0
      · rw [if_pos q, if_pos q]; exact ⟨rfl, q⟩
      · rw [if_neg q, if_neg q] at *
        by_cases q2 : chkT t ≠ 0
        · rw [if_pos q2, if_pos q2]; exact ⟨rfl, q2⟩
        · rw [if_neg q2] at h'; exact absurd rfl h'
    have e2 : wearV p t = 0 := by unfold wearV; rw [if_neg e.2]
    rw [e2, e.1]
    repeat' (first | refine WK_go ?_ | refine W_seqL ?_ | refine W_seq ?_ | refine W_block ?_ | ((first | refine W_regL ?_ | refine W_skip ?_ | refine W_exit ?_); simp (maxSteps := 400000) (disch := omega) only [push_cast, ↓reduceIte, reduceCtorEq, Nat.reduceAdd, Nat.reduceSub, Nat.reduceEqDiff, Nat.reduceLeDiff, Nat.reduceLT, Nat.reduceBEq, Nat.reduceDiv, Nat.reduceMod, Nat.reducePow, Nat.reduceMul, Int.reduceToNat, Int.reduceLT, Int.reduceLE]) | refine And.intro (by omega) ?_ | refine And.intro (by intro hq; (try simp only [Bool.and_eq_true, Bool.or_eq_true, Bool.and_eq_false_iff, Bool.or_eq_false_iff, decide_eq_true_eq, decide_eq_false_iff_not, Bool.not_eq_true', Bool.not_eq_false', beq_iff_eq, beq_eq_false_iff_ne, ne_eq] at hq); omega) ?_ | fail)
    exact W_ret ⟨[_, _], ⟨rfl, rfl, rfl⟩, rfl⟩
  have h' : chkPv p = 0 ∧ chkT t = 0 := by
    have h' : orF [chkPv p, chkT t] = 0 := by simpa using h
    simp only [orF] at h'
    by_cases q : chkPv p ≠ 0
    · rw [if_pos q] at h'; exact absurd h' q
    · rw [if_neg q] at h'
      by_cases q2 : chkT t ≠ 0
      · rw [if_pos q2] at h'; exact absurd h' q2
      · exact ⟨by omega, by omega⟩
  have he0 : wearE p t = if wOK p t = true then 0 else 4 := by unfold wearE; rw [if_neg (by omega), if_neg (by omega)]
  obtain ⟨hn, hfr⟩ := chkT_ok h'.2
  have hpv := chkPv_ok h'.1
  obtain ⟨p1, p2, p3, p4⟩ := hpv
  have hf : ∀ i, i < t.length → 0 ≤ (sf t i).p ∧ (sf t i).p ≤ 1048576 := fun i hi => (frB_iff.1 (hfr i hi)).2.2.2
  repeat' (first | refine WK_go ?_ | refine W_seqL ?_ | refine W_seq ?_ | refine W_block ?_ | ((first | refine W_regL ?_ | refine W_skip ?_ | refine W_exit ?_); simp (maxSteps := 400000) (disch := omega) only [push_cast, ↓reduceIte, reduceCtorEq, Nat.reduceAdd, Nat.reduceSub, Nat.reduceEqDiff, Nat.reduceLeDiff, Nat.reduceLT, Nat.reduceBEq, Nat.reduceDiv, Nat.reduceMod, Nat.reducePow, Nat.reduceMul, Int.reduceToNat, Int.reduceLT, Int.reduceLE]) | refine And.intro (by omega) ?_ | refine And.intro (by intro hq; (try simp only [Bool.and_eq_true, Bool.or_eq_true, Bool.and_eq_false_iff, Bool.or_eq_false_iff, decide_eq_true_eq, decide_eq_false_iff_not, Bool.not_eq_true', Bool.not_eq_false', beq_iff_eq, beq_eq_false_iff_ne, ne_eq] at hq); omega) ?_ | fail)
  refine W_loopU (fun i : Nat => [(7, iv (wS p t i)), (24, iv i)]) (fun i => []) (fun i => i ≤ t.length ∧ 0 ≤ wS p t i ∧ ∀ j, j < i → wA p (sf t j) ≤ 1073741824 ∧ wS p t (j + 1) ≤ 1073741824) (fun i => t.length - i) 0 ⟨by omega, Int.le_refl _, fun j hj => by omega⟩ (by rfl) (by rfl) (fun i hi => ?_)
  obtain ⟨hi, hwn, hall⟩ := hi
  simp (maxSteps := 400000) (disch := omega) only [push_cast, ↓reduceIte, reduceCtorEq, Nat.reduceAdd, Nat.reduceSub, Nat.reduceEqDiff, Nat.reduceLeDiff, Nat.reduceLT, Nat.reduceBEq, Nat.reduceDiv, Nat.reduceMod, Nat.reducePow, Nat.reduceMul, Int.reduceToNat, Int.reduceLT, Int.reduceLE]
  repeat' (first | refine WK_go ?_ | refine W_seqL ?_ | refine W_seq ?_ | refine W_block ?_ | ((first | refine W_regL ?_ | refine W_skip ?_ | refine W_exit ?_); simp (maxSteps := 400000) (disch := omega) only [push_cast, ↓reduceIte, reduceCtorEq, Nat.reduceAdd, Nat.reduceSub, Nat.reduceEqDiff, Nat.reduceLeDiff, Nat.reduceLT, Nat.reduceBEq, Nat.reduceDiv, Nat.reduceMod, Nat.reducePow, Nat.reduceMul, Int.reduceToNat, Int.reduceLT, Int.reduceLE]) | refine And.intro (by omega) ?_ | refine And.intro (by intro hq; (try simp only [Bool.and_eq_true, Bool.or_eq_true, Bool.and_eq_false_iff, Bool.or_eq_false_iff, decide_eq_true_eq, decide_eq_false_iff_not, Bool.not_eq_true', Bool.not_eq_false', beq_iff_eq, beq_eq_false_iff_ne, ne_eq] at hq); omega) ?_ | fail)
  refine W_condD (by rfl) (fun h5 => ?_) (fun h5 => ?_)
  · have hlt : i < t.length := by omega
    have hsp : t.getD i dF = sf t i := rfl
    have hfi := hf i hlt
    have hwi : wS p t i ≤ 1073741824 := by
      by_cases q : i = 0
      · subst q; show (0 : Int) ≤ _; omega
      · have := (hall (i - 1) (by omega)).2
        rw [show i - 1 + 1 = i by omega] at this
        exact this
    have hwA := wA_rng (p := p) ⟨p1, p2, p3, p4⟩ hfi
    have hrr := wR_rng (p := p) ⟨p1, p2, p3, p4⟩ hfi
    have c59 := fn59 ((sf t i).p * 1000) p.load (by omega) (by omega)
    have hwS : wS p t (i + 1) = wS p t i + wA p (sf t i) := rfl
    change Sy.Fn Try.prog 59 [_, _] (iv (wR p (sf t i))) at c59
    repeat' (first | refine WK_go ?_ | refine W_seqL ?_ | refine W_seq ?_ | refine W_block ?_ | ((first | refine W_regL ?_ | refine W_skip ?_ | refine W_exit ?_ | refine CallC.now (c59) ?_); simp (maxSteps := 400000) (disch := omega) only [push_cast, ↓reduceIte, reduceCtorEq, Nat.reduceAdd, Nat.reduceSub, Nat.reduceEqDiff, Nat.reduceLeDiff, Nat.reduceLT, Nat.reduceBEq, Nat.reduceDiv, Nat.reduceMod, Nat.reducePow, Nat.reduceMul, Int.reduceToNat, Int.reduceLT, Int.reduceLE, hsp]) | refine And.intro (by omega) ?_ | refine And.intro (by intro hq; (try simp only [Bool.and_eq_true, Bool.or_eq_true, Bool.and_eq_false_iff, Bool.or_eq_false_iff, decide_eq_true_eq, decide_eq_false_iff_not, Bool.not_eq_true', Bool.not_eq_false', beq_iff_eq, beq_eq_false_iff_ne, ne_eq] at hq); omega) ?_ | fail)
    refine W_loopU (fun k : Nat => [(11, iv (wN (wR p (sf t i)) k)), (12, iv (k + 1 : Nat))]) (fun k => []) (fun k => (k : Int) ≤ p.power - 1) (fun k => (p.power - k).toNat) 0 (by omega) (by rfl) (by rfl) (fun k hk => ?_)
    have n0 := wN_nn hrr.1 k
    have n1 := wN_le ⟨hrr.1, by omega⟩ k
    simp (maxSteps := 400000) (disch := omega) only [push_cast, ↓reduceIte, reduceCtorEq, Nat.reduceAdd, Nat.reduceSub, Nat.reduceEqDiff, Nat.reduceLeDiff, Nat.reduceLT, Nat.reduceBEq, Nat.reduceDiv, Nat.reduceMod, Nat.reducePow, Nat.reduceMul, Int.reduceToNat, Int.reduceLT, Int.reduceLE]
    repeat' (first | refine WK_go ?_ | refine W_seqL ?_ | refine W_seq ?_ | refine W_block ?_ | ((first | refine W_regL ?_ | refine W_skip ?_ | refine W_exit ?_); simp (maxSteps := 400000) (disch := omega) only [push_cast, ↓reduceIte, reduceCtorEq, Nat.reduceAdd, Nat.reduceSub, Nat.reduceEqDiff, Nat.reduceLeDiff, Nat.reduceLT, Nat.reduceBEq, Nat.reduceDiv, Nat.reduceMod, Nat.reducePow, Nat.reduceMul, Int.reduceToNat, Int.reduceLT, Int.reduceLE]) | refine And.intro (by omega) ?_ | refine And.intro (by intro hq; (try simp only [Bool.and_eq_true, Bool.or_eq_true, Bool.and_eq_false_iff, Bool.or_eq_false_iff, decide_eq_true_eq, decide_eq_false_iff_not, Bool.not_eq_true', Bool.not_eq_false', beq_iff_eq, beq_eq_false_iff_ne, ne_eq] at hq); omega) ?_ | fail)
    refine W_cond (by rfl) (fun hc => ?_) (fun hc => ?_)
    · simp only [Bool.and_eq_true, decide_eq_true_eq] at hc
      have hm0 : 0 ≤ wN (wR p (sf t i)) k * wR p (sf t i) := Int.mul_nonneg n0 hrr.1
      have hm1 : wN (wR p (sf t i)) k * wR p (sf t i) ≤ 1073741824 * 1048576000 := Int.mul_le_mul hc.2 hrr.2 hrr.1 (by omega)
      have c59' := fn59 (wN (wR p (sf t i)) k * wR p (sf t i)) 1000 (by omega) (by omega)
      have hwk : cdiv (wN (wR p (sf t i)) k * wR p (sf t i)) 1000 = wN (wR p (sf t i)) (k + 1) := by simp only [wN]; rw [if_pos hc.2]
      rw [hwk] at c59'
      repeat' (first | refine WK_go ?_ | refine W_seqL ?_ | refine W_seq ?_ | refine W_block ?_ | ((first | refine W_regL ?_ | refine W_skip ?_ | refine W_exit ?_ | refine CallC.now (c59') ?_); simp (maxSteps := 400000) (disch := omega) only [push_cast, ↓reduceIte, reduceCtorEq, Nat.reduceAdd, Nat.reduceSub, Nat.reduceEqDiff, Nat.reduceLeDiff, Nat.reduceLT, Nat.reduceBEq, Nat.reduceDiv, Nat.reduceMod, Nat.reducePow, Nat.reduceMul, Int.reduceToNat, Int.reduceLT, Int.reduceLE]) | refine And.intro (by omega) ?_ | refine And.intro (by intro hq; (try simp only [Bool.and_eq_true, Bool.or_eq_true, Bool.and_eq_false_iff, Bool.or_eq_false_iff, decide_eq_true_eq, decide_eq_false_iff_not, Bool.not_eq_true', Bool.not_eq_false', beq_iff_eq, beq_eq_false_iff_ne, ne_eq] at hq); omega) ?_ | fail)
      refine ⟨k + 1, by omega, by omega, by rfl, ?_⟩
      simp (maxSteps := 400000) (disch := omega) only [push_cast, ↓reduceIte, reduceCtorEq, Nat.reduceAdd, Nat.reduceSub, Nat.reduceEqDiff, Nat.reduceLeDiff, Nat.reduceLT, Nat.reduceBEq, Nat.reduceDiv, Nat.reduceMod, Nat.reducePow, Nat.reduceMul, Int.reduceToNat, Int.reduceLT, Int.reduceLE, S.mk.injEq, List.cons.injEq, Prod.mk.injEq, AV.v.injEq, Value.int.injEq, Value.bool.injEq, Blk.cells.injEq]
    have hend : wN (wR p (sf t i)) k = wA p (sf t i) := by
      unfold wA
      simp only [Bool.and_eq_false_iff, decide_eq_false_iff_not] at hc
      by_cases q : (k : Int) + 1 < p.power
      · have hb : 1073741824 < wN (wR p (sf t i)) k := by omega
        have := wN_stay hb ((p.power - 1).toNat - k)
        rw [show k + ((p.power - 1).toNat - k) = (p.power - 1).toNat by omega] at this
        exact this.symm
      · rw [show (p.power - 1).toNat = k by omega]
    rw [hend]
    repeat' (first | refine WK_go ?_ | refine W_seqL ?_ | refine W_seq ?_ | refine W_block ?_ | ((first | refine W_regL ?_ | refine W_skip ?_ | refine W_exit ?_); simp (maxSteps := 400000) (disch := omega) only [push_cast, ↓reduceIte, reduceCtorEq, Nat.reduceAdd, Nat.reduceSub, Nat.reduceEqDiff, Nat.reduceLeDiff, Nat.reduceLT, Nat.reduceBEq, Nat.reduceDiv, Nat.reduceMod, Nat.reducePow, Nat.reduceMul, Int.reduceToNat, Int.reduceLT, Int.reduceLE, ← hwS]) | refine And.intro (by omega) ?_ | refine And.intro (by intro hq; (try simp only [Bool.and_eq_true, Bool.or_eq_true, Bool.and_eq_false_iff, Bool.or_eq_false_iff, decide_eq_true_eq, decide_eq_false_iff_not, Bool.not_eq_true', Bool.not_eq_false', beq_iff_eq, beq_eq_false_iff_ne, ne_eq] at hq); omega) ?_ | fail)
    refine W_cond (by rfl) (fun hb => ?_) (fun hb => ?_)
    · have hno : ¬ (wA p (sf t i) ≤ 1073741824 ∧ wS p t (i + 1) ≤ 1073741824) := by
        simp only [Bool.or_eq_true, decide_eq_true_eq] at hb
        omega
      have e : wearE p t = 4 := by rw [he0, wOK_no hlt hno, if_neg (by decide)]
      have e2 : wearV p t = 0 := by unfold wearV; rw [e]; rfl
      rw [e, e2]
      repeat' (first | refine WK_go ?_ | refine W_seqL ?_ | refine W_seq ?_ | refine W_block ?_ | ((first | refine W_regL ?_ | refine W_skip ?_ | refine W_exit ?_); simp (maxSteps := 400000) (disch := omega) only [push_cast, ↓reduceIte, reduceCtorEq, Nat.reduceAdd, Nat.reduceSub, Nat.reduceEqDiff, Nat.reduceLeDiff, Nat.reduceLT, Nat.reduceBEq, Nat.reduceDiv, Nat.reduceMod, Nat.reducePow, Nat.reduceMul, Int.reduceToNat, Int.reduceLT, Int.reduceLE]) | refine And.intro (by omega) ?_ | refine And.intro (by intro hq; (try simp only [Bool.and_eq_true, Bool.or_eq_true, Bool.and_eq_false_iff, Bool.or_eq_false_iff, decide_eq_true_eq, decide_eq_false_iff_not, Bool.not_eq_true', Bool.not_eq_false', beq_iff_eq, beq_eq_false_iff_ne, ne_eq] at hq); omega) ?_ | fail)
      exact W_ret ⟨[_, _], ⟨rfl, rfl, rfl⟩, rfl⟩
    · have hyes : wA p (sf t i) ≤ 1073741824 ∧ wS p t (i + 1) ≤ 1073741824 := by
        simp only [Bool.or_eq_false_iff, decide_eq_false_iff_not] at hb
        omega
      repeat' (first | refine WK_go ?_ | refine W_seqL ?_ | refine W_seq ?_ | refine W_block ?_ | ((first | refine W_regL ?_ | refine W_skip ?_ | refine W_exit ?_); simp (maxSteps := 400000) (disch := omega) only [push_cast, ↓reduceIte, reduceCtorEq, Nat.reduceAdd, Nat.reduceSub, Nat.reduceEqDiff, Nat.reduceLeDiff, Nat.reduceLT, Nat.reduceBEq, Nat.reduceDiv, Nat.reduceMod, Nat.reducePow, Nat.reduceMul, Int.reduceToNat, Int.reduceLT, Int.reduceLE]) | refine And.intro (by omega) ?_ | refine And.intro (by intro hq; (try simp only [Bool.and_eq_true, Bool.or_eq_true, Bool.and_eq_false_iff, Bool.or_eq_false_iff, decide_eq_true_eq, decide_eq_false_iff_not, Bool.not_eq_true', Bool.not_eq_false', beq_iff_eq, beq_eq_false_iff_ne, ne_eq] at hq); omega) ?_ | fail)
      refine ⟨i + 1, ⟨by omega, by omega, up_all hall hyes⟩, by omega, by rfl, ?_⟩
      simp (maxSteps := 400000) (disch := omega) only [push_cast, ↓reduceIte, reduceCtorEq, Nat.reduceAdd, Nat.reduceSub, Nat.reduceEqDiff, Nat.reduceLeDiff, Nat.reduceLT, Nat.reduceBEq, Nat.reduceDiv, Nat.reduceMod, Nat.reducePow, Nat.reduceMul, Int.reduceToNat, Int.reduceLT, Int.reduceLE, S.mk.injEq, List.cons.injEq, Prod.mk.injEq, AV.v.injEq, Value.int.injEq, Value.bool.injEq, Blk.cells.injEq]
  · obtain rfl : i = t.length := by omega
    have e : wearE p t = 0 := by rw [he0, if_pos (wOK_iff.2 hall)]
    have e2 : wearV p t = wS p t t.length := by unfold wearV; rw [if_pos e]
    rw [e, e2]
    repeat' (first | refine WK_go ?_ | refine W_seqL ?_ | refine W_seq ?_ | refine W_block ?_ | ((first | refine W_regL ?_ | refine W_skip ?_ | refine W_exit ?_); simp (maxSteps := 400000) (disch := omega) only [push_cast, ↓reduceIte, reduceCtorEq, Nat.reduceAdd, Nat.reduceSub, Nat.reduceEqDiff, Nat.reduceLeDiff, Nat.reduceLT, Nat.reduceBEq, Nat.reduceDiv, Nat.reduceMod, Nat.reducePow, Nat.reduceMul, Int.reduceToNat, Int.reduceLT, Int.reduceLE]) | refine And.intro (by omega) ?_ | refine And.intro (by intro hq; (try simp only [Bool.and_eq_true, Bool.or_eq_true, Bool.and_eq_false_iff, Bool.or_eq_false_iff, decide_eq_true_eq, decide_eq_false_iff_not, Bool.not_eq_true', Bool.not_eq_false', beq_iff_eq, beq_eq_false_iff_ne, ne_eq] at hq); omega) ?_ | fail)
    exact W_ret ⟨[_, _], ⟨rfl, rfl, rfl⟩, rfl⟩
end Go.Proofs.Ytbdnnicodailcaa

/- Search by halving: plain. -/
namespace Go.Proofs.Ytbdnnicodailcaa
set_option linter.unusedVariables false
/-- the damage of a sum of wears -/
def dmg (p : Pav) (all n : Int) : Int := cdiv (all * (1000 * n)) p.life
def over (p : Pav) (all d : Int) (n : Nat) : Bool := decide (1000000 < d + dmg p all (n + 1))
end Go.Proofs.Ytbdnnicodailcaa

/- Pavements: damage, what is left. -/
namespace Go.Proofs.Ytbdnnicodailcaa
open Go Sy
set_option maxRecDepth 100000
set_option maxHeartbeats 4000000
set_option linter.unusedVariables false
set_option linter.unusedSimpArgs false
theorem wS_rng {p : Pav} {t : List Frc} (h : wearE p t = 0) : (pvP p ∧ chkT t = 0 ∧ wOK p t = true) ∧ 0 ≤ wearV p t ∧ wearV p t ≤ 1073741824 ∧ wearV p t = wS p t t.length := by
  have e2 : wearV p t = wS p t t.length := by unfold wearV; rw [if_pos h]
  unfold wearE at h
  by_cases h1 : chkPv p ≠ 0
  · rw [if_pos h1] at h; omega
  rw [if_neg h1] at h
  by_cases h2 : chkT t ≠ 0
  · rw [if_pos h2] at h; omega
  rw [if_neg h2] at h
  by_cases h3 : wOK p t = true
  · have hpv := chkPv_ok (show chkPv p = 0 by omega)
    obtain ⟨hn, hfr⟩ := chkT_ok (show chkT t = 0 by omega)
    have hf : ∀ i, i < t.length → 0 ≤ wR p (sf t i) := fun i hi => (wR_rng hpv (frB_iff.1 (hfr i hi)).2.2.2).1
    have h5 := (wOK_iff.1 h3 (t.length - 1) (by omega)).2
    rw [show t.length - 1 + 1 = t.length by omega] at h5
    rw [e2]
    exact ⟨⟨hpv, by omega, h3⟩, wS_nn hf _ (Nat.le_refl _), h5, rfl⟩
  · rw [if_neg h3] at h; omega
theorem c56 (p : Pav) (all n : Int) (hpv : pvP p) (ha : 0 ≤ all ∧ all ≤ 1073741824) (hn : 0 ≤ n ∧ n ≤ 1048576) : Sy.Fn Try.prog 56 [iv all, iv (1000 * n), iv p.life] (iv (dmg p all n)) := by
  obtain ⟨p1, p2, p3, p4⟩ := hpv
  have h0 : 0 ≤ all * (1000 * n) := Int.mul_nonneg ha.1 (by omega)
  have h1 : all * (1000 * n) ≤ 1073741824 * 1048576000 := Int.mul_le_mul ha.2 (by omega) (by omega) (by omega)
  exact fn56 all (1000 * n) p.life (by omega) (by omega) (by omega) (by
    have := Int.mul_le_mul_of_nonneg_left p2.1 (show (0 : Int) ≤ 9223372036854775807 by omega)
    omega)
def damE (p : Pav) (t : List Frc) (n : Int) : Int := if wearE p t ≠ 0 ∧ wearE p t ≠ 4 then wearE p t else if inR n 0 1048576 = false then 3 else wearE p t
def damV (p : Pav) (t : List Frc) (n : Int) : Int := if damE p t n = 0 then dmg p (wearV p t) n else 0
theorem fn19 (p : Pav) (t : List Frc) (n : Int) (hl : t.length ≤ 140737488355328) : Sy.Fn Try.prog 19 [.agg (cP p), aT t, iv n] (.tup [iv (damV p t n), iv (damE p t n)]) := by
  refine Fn_of_W mixed Xt19 rfl ?_
  have c55 := fn55 p t hl
  repeat' (first | refine WK_go ?_ | refine W_seqL ?_ | refine W_seq ?_ | refine W_block ?_ | ((first | refine W_regL ?_ | refine W_skip ?_ | refine W_exit ?_ | refine CallC.now (c55) ?_); simp (maxSteps := 400000) (disch := omega) only [push_cast, ↓reduceIte, reduceCtorEq, Nat.reduceAdd, Nat.reduceSub, Nat.reduceEqDiff, Nat.reduceLeDiff, Nat.reduceLT, Nat.reduceBEq, Nat.reduceDiv, Nat.reduceMod, Nat.reducePow, Nat.reduceMul, Int.reduceToNat, Int.reduceLT, Int.reduceLE]) | refine And.intro (by omega) ?_ | refine And.intro (by intro hq; (try simp only [Bool.and_eq_true, Bool.or_eq_true, Bool.and_eq_false_iff, Bool.or_eq_false_iff, decide_eq_true_eq, decide_eq_false_iff_not, Bool.not_eq_true', Bool.not_eq_false', beq_iff_eq, beq_eq_false_iff_ne, ne_eq] at hq); omega) ?_ | fail)
  refine W_cond (by rfl) (fun h => ?_) (fun h => ?_)
  · have h' : wearE p t ≠ 0 ∧ wearE p t ≠ 4 := by simpa using h
    have e : damE p t n = wearE p t := by unfold damE; rw [if_pos h']
    have e2 : damV p t n = 0 := by unfold damV; rw [e, if_neg h'.1]
    rw [e, e2]
    repeat' (first | refine WK_go ?_ | refine W_seqL ?_ | refine W_seq ?_ | refine W_block ?_ | ((first | refine W_regL ?_ | refine W_skip ?_ | refine W_exit ?_); simp (maxSteps := 400000) (disch := omega) only [push_cast, ↓reduceIte, reduceCtorEq, Nat.reduceAdd, Nat.reduceSub, Nat.reduceEqDiff, Nat.reduceLeDiff, Nat.reduceLT, Nat.reduceBEq, Nat.reduceDiv, Nat.reduceMod, Nat.reducePow, Nat.reduceMul, Int.reduceToNat, Int.reduceLT, Int.reduceLE]) | refine And.intro (by omega) ?_ | refine And.intro (by intro hq; (try simp only [Bool.and_eq_true, Bool.or_eq_true, Bool.and_eq_false_iff, Bool.or_eq_false_iff, decide_eq_true_eq, decide_eq_false_iff_not, Bool.not_eq_true', Bool.not_eq_false', beq_iff_eq, beq_eq_false_iff_ne, ne_eq] at hq); omega) ?_ | fail)
    exact W_ret ⟨[_, _], ⟨rfl, rfl, rfl⟩, rfl⟩
  have h' : ¬ (wearE p t ≠ 0 ∧ wearE p t ≠ 4) := by simpa using h
  have e0 : damE p t n = if inR n 0 1048576 = false then 3 else wearE p t := by unfold damE; rw [if_neg h']
  repeat' (first | refine WK_go ?_ | refine W_seqL ?_ | refine W_seq ?_ | refine W_block ?_ | ((first | refine W_regL ?_ | refine W_skip ?_ | refine W_exit ?_ | refine CallC.now (fn48 _ _ _) ?_); simp (maxSteps := 400000) (disch := omega) only [push_cast, ↓reduceIte, reduceCtorEq, Nat.reduceAdd, Nat.reduceSub, Nat.reduceEqDiff, Nat.reduceLeDiff, Nat.reduceLT, Nat.reduceBEq, Nat.reduceDiv, Nat.reduceMod, Nat.reducePow, Nat.reduceMul, Int.reduceToNat, Int.reduceLT, Int.reduceLE]) | refine And.intro (by omega) ?_ | refine And.intro (by intro hq; (try simp only [Bool.and_eq_true, Bool.or_eq_true, Bool.and_eq_false_iff, Bool.or_eq_false_iff, decide_eq_true_eq, decide_eq_false_iff_not, Bool.not_eq_true', Bool.not_eq_false', beq_iff_eq, beq_eq_false_iff_ne, ne_eq] at hq); omega) ?_ | fail)
  refine W_cond (by rfl) (fun h2 => ?_) (fun h2 => ?_)
  · have e : damE p t n = 3 := by rw [e0, if_pos (by simpa using h2)]
    have e2 : damV p t n = 0 := by unfold damV; rw [e]; rfl
    rw [e, e2]
    repeat' (first | refine WK_go ?_ | refine W_seqL ?_ | refine W_seq ?_ | refine W_block ?_ | ((first | refine W_regL ?_ | refine W_skip ?_ | refine W_exit ?_); simp (maxSteps := 400000) (disch := omega) only [push_cast, ↓reduceIte, reduceCtorEq, Nat.reduceAdd, Nat.reduceSub, Nat.reduceEqDiff, Nat.reduceLeDiff, Nat.reduceLT, Nat.reduceBEq, Nat.reduceDiv, Nat.reduceMod, Nat.reducePow, Nat.reduceMul, Int.reduceToNat, Int.reduceLT, Int.reduceLE]) | refine And.intro (by omega) ?_ | refine And.intro (by intro hq; (try simp only [Bool.and_eq_true, Bool.or_eq_true, Bool.and_eq_false_iff, Bool.or_eq_false_iff, decide_eq_true_eq, decide_eq_false_iff_not, Bool.not_eq_true', Bool.not_eq_false', beq_iff_eq, beq_eq_false_iff_ne, ne_eq] at hq); omega) ?_ | fail)
    exact W_ret ⟨[_, _], ⟨rfl, rfl, rfl⟩, rfl⟩
  have e : damE p t n = wearE p t := by rw [e0, if_neg (by simpa using h2)]
  have hn := inR_iff.1 (show inR n 0 1048576 = true by simpa using h2)
  repeat' (first | refine WK_go ?_ | refine W_seqL ?_ | refine W_seq ?_ | refine W_block ?_ | ((first | refine W_regL ?_ | refine W_skip ?_ | refine W_exit ?_); simp (maxSteps := 400000) (disch := omega) only [push_cast, ↓reduceIte, reduceCtorEq, Nat.reduceAdd, Nat.reduceSub, Nat.reduceEqDiff, Nat.reduceLeDiff, Nat.reduceLT, Nat.reduceBEq, Nat.reduceDiv, Nat.reduceMod, Nat.reducePow, Nat.reduceMul, Int.reduceToNat, Int.reduceLT, Int.reduceLE]) | refine And.intro (by omega) ?_ | refine And.intro (by intro hq; (try simp only [Bool.and_eq_true, Bool.or_eq_true, Bool.and_eq_false_iff, Bool.or_eq_false_iff, decide_eq_true_eq, decide_eq_false_iff_not, Bool.not_eq_true', Bool.not_eq_false', beq_iff_eq, beq_eq_false_iff_ne, ne_eq] at hq); omega) ?_ | fail)
  refine W_cond (by rfl) (fun h3 => ?_) (fun h3 => ?_)
  · have e2 : damV p t n = 0 := by unfold damV; rw [e, if_neg (by simpa using h3)]
    rw [e, e2]
    repeat' (first | refine WK_go ?_ | refine W_seqL ?_ | refine W_seq ?_ | refine W_block ?_ | ((first | refine W_regL ?_ | refine W_skip ?_ | refine W_exit ?_); simp (maxSteps := 400000) (disch := omega) only [push_cast, ↓reduceIte, reduceCtorEq, Nat.reduceAdd, Nat.reduceSub, Nat.reduceEqDiff, Nat.reduceLeDiff, Nat.reduceLT, Nat.reduceBEq, Nat.reduceDiv, Nat.reduceMod, Nat.reducePow, Nat.reduceMul, Int.reduceToNat, Int.reduceLT, Int.reduceLE]) | refine And.intro (by omega) ?_ | refine And.intro (by intro hq; (try simp only [Bool.and_eq_true, Bool.or_eq_true, Bool.and_eq_false_iff, Bool.or_eq_false_iff, decide_eq_true_eq, decide_eq_false_iff_not, Bool.not_eq_true', Bool.not_eq_false', beq_iff_eq, beq_eq_false_iff_ne, ne_eq] at hq); omega) ?_ | fail)
    exact W_ret ⟨[_, _], ⟨rfl, rfl, rfl⟩, rfl⟩
  have h0 : wearE p t = 0 := by simpa using h3
  have e2 : damV p t n = dmg p (wearV p t) n := by unfold damV; rw [e, if_pos h0]
  obtain ⟨⟨q1, q2, q3⟩, q4, q5, q6⟩ := wS_rng h0
  have c := c56 p (wearV p t) n q1 ⟨q4, q5⟩ hn
  rw [e, e2, h0]
  repeat' (first | refine WK_go ?_ | refine W_seqL ?_ | refine W_seq ?_ | refine W_block ?_ | ((first | refine W_regL ?_ | refine W_skip ?_ | refine W_exit ?_ | refine CallC.now (c) ?_); simp (maxSteps := 400000) (disch := omega) only [push_cast, ↓reduceIte, reduceCtorEq, Nat.reduceAdd, Nat.reduceSub, Nat.reduceEqDiff, Nat.reduceLeDiff, Nat.reduceLT, Nat.reduceBEq, Nat.reduceDiv, Nat.reduceMod, Nat.reducePow, Nat.reduceMul, Int.reduceToNat, Int.reduceLT, Int.reduceLE]) | refine And.intro (by omega) ?_ | refine And.intro (by intro hq; (try simp only [Bool.and_eq_true, Bool.or_eq_true, Bool.and_eq_false_iff, Bool.or_eq_false_iff, decide_eq_true_eq, decide_eq_false_iff_not, Bool.not_eq_true', Bool.not_eq_false', beq_iff_eq, beq_eq_false_iff_ne, ne_eq] at hq); omega) ?_ | fail)
  exact W_ret ⟨[_, _], ⟨rfl, rfl, rfl⟩, rfl⟩
end Go.Proofs.Ytbdnnicodailcaa

/- Pavements: what is left. -/
namespace Go.Proofs.Ytbdnnicodailcaa
open Go Sy
set_option maxRecDepth 100000
set_option maxHeartbeats 4000000
set_option linter.unusedVariables false
set_option linter.unusedSimpArgs false
theorem shr1 (a : Int) : a.fdiv (2 ^ min 1 IntKind.u64.bits) = a / 2 := shrC a 1 _ (by decide) (by decide)
end Go.Proofs.Ytbdnnicodailcaa

/- The greatest load on a length: plain. -/
namespace Go.Proofs.Ytbdnnicodailcaa
set_option linter.unusedVariables false
def pre (t : List Frc) : Nat → Int
  | 0 => 0
  | n + 1 => pre t n + (sf t n).p
end Go.Proofs.Ytbdnnicodailcaa

/- The pressure over a culvert. -/
namespace Go.Proofs.Ytbdnnicodailcaa
open Go Sy
set_option maxRecDepth 100000
set_option maxHeartbeats 4000000
set_option linter.unusedVariables false
set_option linter.unusedSimpArgs false
end Go.Proofs.Ytbdnnicodailcaa

/- A span seen from its other end: plain. -/
namespace Go.Proofs.Ytbdnnicodailcaa
set_option linter.unusedVariables false
end Go.Proofs.Ytbdnnicodailcaa

/- Lines of influence: effects. -/
namespace Go.Proofs.Ytbdnnicodailcaa
open Go Sy
set_option maxRecDepth 100000
set_option maxHeartbeats 4000000
set_option linter.unusedVariables false
set_option linter.unusedSimpArgs false
theorem fn104 (x : Int) : Sy.Fn Try.prog 104 [iv x] (bv false) := by
  refine Fn_of_W mixed Xt104 rfl ?_
  repeat' (first | refine WK_go ?_ | refine W_seqL ?_ | refine W_seq ?_ | refine W_block ?_ | ((first | refine W_regL ?_ | refine W_skip ?_ | refine W_exit ?_); simp (maxSteps := 400000) (disch := omega) only [push_cast, ↓reduceIte, reduceCtorEq, Nat.reduceAdd, Nat.reduceSub, Nat.reduceEqDiff, Nat.reduceLeDiff, Nat.reduceLT, Nat.reduceBEq, Nat.reduceDiv, Nat.reduceMod, Nat.reducePow, Nat.reduceMul, Int.reduceToNat, Int.reduceLT, Int.reduceLE, bne_self_eq_false]) | refine And.intro (by omega) ?_ | refine And.intro (by intro hq; (try simp only [Bool.and_eq_true, Bool.or_eq_true, Bool.and_eq_false_iff, Bool.or_eq_false_iff, decide_eq_true_eq, decide_eq_false_iff_not, Bool.not_eq_true', Bool.not_eq_false', beq_iff_eq, beq_eq_false_iff_ne, ne_eq] at hq); omega) ?_ | fail)
  exact W_ret ⟨[_], ⟨rfl, rfl⟩, rfl⟩
def cmpI (a b : Int) : Int := if a < b then -1 else if b < a then 1 else 0
theorem cmpI_neg {x y : Int} : cmpI x y < 0 ↔ x < y := by
  unfold cmpI
  by_cases h : x < y
  · rw [if_pos h]; omega
  · rw [if_neg h]
    by_cases g : y < x
    · rw [if_pos g]; omega
    · rw [if_neg g]; omega
theorem cmpI_zero {x y : Int} : cmpI x y = 0 ↔ x = y := by
  unfold cmpI
  by_cases h : x < y
  · rw [if_pos h]; omega
  · rw [if_neg h]
    by_cases g : y < x
    · rw [if_pos g]; omega
    · rw [if_neg g]; omega
theorem fn79 (a b : Int) : Sy.Fn Try.prog 79 [iv a, iv b] (iv (cmpI a b)) := by
  refine Fn_of_W mixed Xt79 rfl ?_
  repeat' (first | refine WK_go ?_ | refine W_seqL ?_ | refine W_seq ?_ | refine W_block ?_ | ((first | refine W_regL ?_ | refine W_skip ?_ | refine W_exit ?_ | refine CallC.now (fn104 _) ?_); simp (maxSteps := 400000) (disch := omega) only [push_cast, ↓reduceIte, reduceCtorEq, Nat.reduceAdd, Nat.reduceSub, Nat.reduceEqDiff, Nat.reduceLeDiff, Nat.reduceLT, Nat.reduceBEq, Nat.reduceDiv, Nat.reduceMod, Nat.reducePow, Nat.reduceMul, Int.reduceToNat, Int.reduceLT, Int.reduceLE]) | refine And.intro (by omega) ?_ | refine And.intro (by intro hq; (try simp only [Bool.and_eq_true, Bool.or_eq_true, Bool.and_eq_false_iff, Bool.or_eq_false_iff, decide_eq_true_eq, decide_eq_false_iff_not, Bool.not_eq_true', Bool.not_eq_false', beq_iff_eq, beq_eq_false_iff_ne, ne_eq] at hq); omega) ?_ | fail)
  refine W_cond (by rfl) (fun h => by cases h) (fun _ => ?_)
  repeat' (first | refine WK_go ?_ | refine W_seqL ?_ | refine W_seq ?_ | refine W_block ?_ | ((first | refine W_regL ?_ | refine W_skip ?_ | refine W_exit ?_); simp (maxSteps := 400000) (disch := omega) only [push_cast, ↓reduceIte, reduceCtorEq, Nat.reduceAdd, Nat.reduceSub, Nat.reduceEqDiff, Nat.reduceLeDiff, Nat.reduceLT, Nat.reduceBEq, Nat.reduceDiv, Nat.reduceMod, Nat.reducePow, Nat.reduceMul, Int.reduceToNat, Int.reduceLT, Int.reduceLE]) | refine And.intro (by omega) ?_ | refine And.intro (by intro hq; (try simp only [Bool.and_eq_true, Bool.or_eq_true, Bool.and_eq_false_iff, Bool.or_eq_false_iff, decide_eq_true_eq, decide_eq_false_iff_not, Bool.not_eq_true', Bool.not_eq_false', beq_iff_eq, beq_eq_false_iff_ne, ne_eq] at hq); omega) ?_ | fail)
  refine W_cond (by rfl) (fun h => by cases h) (fun _ => ?_)
  repeat' (first | refine WK_go ?_ | refine W_seqL ?_ | refine W_seq ?_ | refine W_block ?_ | ((first | refine W_regL ?_ | refine W_skip ?_ | refine W_exit ?_); simp (maxSteps := 400000) (disch := omega) only [push_cast, ↓reduceIte, reduceCtorEq, Nat.reduceAdd, Nat.reduceSub, Nat.reduceEqDiff, Nat.reduceLeDiff, Nat.reduceLT, Nat.reduceBEq, Nat.reduceDiv, Nat.reduceMod, Nat.reducePow, Nat.reduceMul, Int.reduceToNat, Int.reduceLT, Int.reduceLE]) | refine And.intro (by omega) ?_ | refine And.intro (by intro hq; (try simp only [Bool.and_eq_true, Bool.or_eq_true, Bool.and_eq_false_iff, Bool.or_eq_false_iff, decide_eq_true_eq, decide_eq_false_iff_not, Bool.not_eq_true', Bool.not_eq_false', beq_iff_eq, beq_eq_false_iff_ne, ne_eq] at hq); omega) ?_ | fail)
  unfold cmpI
  refine W_condD (by rfl) (fun h => ?_) (fun h => ?_)
  · rw [if_pos h]
    repeat' (first | refine WK_go ?_ | refine W_seqL ?_ | refine W_seq ?_ | refine W_block ?_ | ((first | refine W_regL ?_ | refine W_skip ?_ | refine W_exit ?_); simp (maxSteps := 400000) (disch := omega) only [push_cast, ↓reduceIte, reduceCtorEq, Nat.reduceAdd, Nat.reduceSub, Nat.reduceEqDiff, Nat.reduceLeDiff, Nat.reduceLT, Nat.reduceBEq, Nat.reduceDiv, Nat.reduceMod, Nat.reducePow, Nat.reduceMul, Int.reduceToNat, Int.reduceLT, Int.reduceLE]) | refine And.intro (by omega) ?_ | refine And.intro (by intro hq; (try simp only [Bool.and_eq_true, Bool.or_eq_true, Bool.and_eq_false_iff, Bool.or_eq_false_iff, decide_eq_true_eq, decide_eq_false_iff_not, Bool.not_eq_true', Bool.not_eq_false', beq_iff_eq, beq_eq_false_iff_ne, ne_eq] at hq); omega) ?_ | fail)
    exact W_ret ⟨[_], ⟨rfl, rfl⟩, rfl⟩
  rw [if_neg h]
  repeat' (first | refine WK_go ?_ | refine W_seqL ?_ | refine W_seq ?_ | refine W_block ?_ | ((first | refine W_regL ?_ | refine W_skip ?_ | refine W_exit ?_); simp (maxSteps := 400000) (disch := omega) only [push_cast, ↓reduceIte, reduceCtorEq, Nat.reduceAdd, Nat.reduceSub, Nat.reduceEqDiff, Nat.reduceLeDiff, Nat.reduceLT, Nat.reduceBEq, Nat.reduceDiv, Nat.reduceMod, Nat.reducePow, Nat.reduceMul, Int.reduceToNat, Int.reduceLT, Int.reduceLE]) | refine And.intro (by omega) ?_ | refine And.intro (by intro hq; (try simp only [Bool.and_eq_true, Bool.or_eq_true, Bool.and_eq_false_iff, Bool.or_eq_false_iff, decide_eq_true_eq, decide_eq_false_iff_not, Bool.not_eq_true', Bool.not_eq_false', beq_iff_eq, beq_eq_false_iff_ne, ne_eq] at hq); omega) ?_ | fail)
  refine W_condD (by rfl) (fun h => ?_) (fun h => ?_)
  · rw [if_pos h]
    repeat' (first | refine WK_go ?_ | refine W_seqL ?_ | refine W_seq ?_ | refine W_block ?_ | ((first | refine W_regL ?_ | refine W_skip ?_ | refine W_exit ?_); simp (maxSteps := 400000) (disch := omega) only [push_cast, ↓reduceIte, reduceCtorEq, Nat.reduceAdd, Nat.reduceSub, Nat.reduceEqDiff, Nat.reduceLeDiff, Nat.reduceLT, Nat.reduceBEq, Nat.reduceDiv, Nat.reduceMod, Nat.reducePow, Nat.reduceMul, Int.reduceToNat, Int.reduceLT, Int.reduceLE]) | refine And.intro (by omega) ?_ | refine And.intro (by intro hq; (try simp only [Bool.and_eq_true, Bool.or_eq_true, Bool.and_eq_false_iff, Bool.or_eq_false_iff, decide_eq_true_eq, decide_eq_false_iff_not, Bool.not_eq_true', Bool.not_eq_false', beq_iff_eq, beq_eq_false_iff_ne, ne_eq] at hq); omega) ?_ | fail)
    exact W_ret ⟨[_], ⟨rfl, rfl⟩, rfl⟩
  · rw [if_neg h]
    repeat' (first | refine WK_go ?_ | refine W_seqL ?_ | refine W_seq ?_ | refine W_block ?_ | ((first | refine W_regL ?_ | refine W_skip ?_ | refine W_exit ?_); simp (maxSteps := 400000) (disch := omega) only [push_cast, ↓reduceIte, reduceCtorEq, Nat.reduceAdd, Nat.reduceSub, Nat.reduceEqDiff, Nat.reduceLeDiff, Nat.reduceLT, Nat.reduceBEq, Nat.reduceDiv, Nat.reduceMod, Nat.reducePow, Nat.reduceMul, Int.reduceToNat, Int.reduceLT, Int.reduceLE]) | refine And.intro (by omega) ?_ | refine And.intro (by intro hq; (try simp only [Bool.and_eq_true, Bool.or_eq_true, Bool.and_eq_false_iff, Bool.or_eq_false_iff, decide_eq_true_eq, decide_eq_false_iff_not, Bool.not_eq_true', Bool.not_eq_false', beq_iff_eq, beq_eq_false_iff_ne, ne_eq] at hq); omega) ?_ | fail)
    exact W_ret ⟨[_], ⟨rfl, rfl⟩, rfl⟩
theorem fn85 (l : List Int) (hl : l.length ≤ 1000000) : Sy.Fn Try.prog 85 [aI l] (iv (orF l)) := by
  refine Fn_of_W mixed Xt85 rfl ?_
  repeat' (first | refine WK_go ?_ | refine W_seqL ?_ | refine W_seq ?_ | refine W_block ?_ | ((first | refine W_regL ?_ | refine W_skip ?_ | refine W_exit ?_); simp (maxSteps := 400000) (disch := omega) only [push_cast, ↓reduceIte, reduceCtorEq, Nat.reduceAdd, Nat.reduceSub, Nat.reduceEqDiff, Nat.reduceLeDiff, Nat.reduceLT, Nat.reduceBEq, Nat.reduceDiv, Nat.reduceMod, Nat.reducePow, Nat.reduceMul, Int.reduceToNat, Int.reduceLT, Int.reduceLE]) | refine And.intro (by omega) ?_ | refine And.intro (by intro hq; (try simp only [Bool.and_eq_true, Bool.or_eq_true, Bool.and_eq_false_iff, Bool.or_eq_false_iff, decide_eq_true_eq, decide_eq_false_iff_not, Bool.not_eq_true', Bool.not_eq_false', beq_iff_eq, beq_eq_false_iff_ne, ne_eq] at hq); omega) ?_ | fail)
  refine W_loopU (fun i : Nat => [(8, iv i)]) (fun i => []) (fun i => i ≤ l.length ∧ ∀ j, j < i → gi l j = 0) (fun i => l.length - i) 0 ⟨by omega, fun j hj => by omega⟩ (by rfl) (by rfl) (fun i hi => ?_)
  obtain ⟨hi, hall⟩ := hi
  simp (maxSteps := 400000) (disch := omega) only [push_cast, ↓reduceIte, reduceCtorEq, Nat.reduceAdd, Nat.reduceSub, Nat.reduceEqDiff, Nat.reduceLeDiff, Nat.reduceLT, Nat.reduceBEq, Nat.reduceDiv, Nat.reduceMod, Nat.reducePow, Nat.reduceMul, Int.reduceToNat, Int.reduceLT, Int.reduceLE]
  repeat' (first | refine WK_go ?_ | refine W_seqL ?_ | refine W_seq ?_ | refine W_block ?_ | ((first | refine W_regL ?_ | refine W_skip ?_ | refine W_exit ?_); simp (maxSteps := 400000) (disch := omega) only [push_cast, ↓reduceIte, reduceCtorEq, Nat.reduceAdd, Nat.reduceSub, Nat.reduceEqDiff, Nat.reduceLeDiff, Nat.reduceLT, Nat.reduceBEq, Nat.reduceDiv, Nat.reduceMod, Nat.reducePow, Nat.reduceMul, Int.reduceToNat, Int.reduceLT, Int.reduceLE]) | refine And.intro (by omega) ?_ | refine And.intro (by intro hq; (try simp only [Bool.and_eq_true, Bool.or_eq_true, Bool.and_eq_false_iff, Bool.or_eq_false_iff, decide_eq_true_eq, decide_eq_false_iff_not, Bool.not_eq_true', Bool.not_eq_false', beq_iff_eq, beq_eq_false_iff_ne, ne_eq] at hq); omega) ?_ | fail)
  refine W_condD (by rfl) (fun h5 => ?_) (fun h5 => ?_)
  · have hlt : i < l.length := by omega
    repeat' (first | refine WK_go ?_ | refine W_seqL ?_ | refine W_seq ?_ | refine W_block ?_ | ((first | refine W_regL ?_ | refine W_skip ?_ | refine W_exit ?_); simp (maxSteps := 400000) (disch := omega) only [push_cast, ↓reduceIte, reduceCtorEq, Nat.reduceAdd, Nat.reduceSub, Nat.reduceEqDiff, Nat.reduceLeDiff, Nat.reduceLT, Nat.reduceBEq, Nat.reduceDiv, Nat.reduceMod, Nat.reducePow, Nat.reduceMul, Int.reduceToNat, Int.reduceLT, Int.reduceLE]) | refine And.intro (by omega) ?_ | refine And.intro (by intro hq; (try simp only [Bool.and_eq_true, Bool.or_eq_true, Bool.and_eq_false_iff, Bool.or_eq_false_iff, decide_eq_true_eq, decide_eq_false_iff_not, Bool.not_eq_true', Bool.not_eq_false', beq_iff_eq, beq_eq_false_iff_ne, ne_eq] at hq); omega) ?_ | fail)
    refine W_cond (by rfl) (fun hb => ?_) (fun hb => ?_)
    · rw [orF_at hlt hall (by simpa using hb)]
      repeat' (first | refine WK_go ?_ | refine W_seqL ?_ | refine W_seq ?_ | refine W_block ?_ | ((first | refine W_regL ?_ | refine W_skip ?_ | refine W_exit ?_); simp (maxSteps := 400000) (disch := omega) only [push_cast, ↓reduceIte, reduceCtorEq, Nat.reduceAdd, Nat.reduceSub, Nat.reduceEqDiff, Nat.reduceLeDiff, Nat.reduceLT, Nat.reduceBEq, Nat.reduceDiv, Nat.reduceMod, Nat.reducePow, Nat.reduceMul, Int.reduceToNat, Int.reduceLT, Int.reduceLE]) | refine And.intro (by omega) ?_ | refine And.intro (by intro hq; (try simp only [Bool.and_eq_true, Bool.or_eq_true, Bool.and_eq_false_iff, Bool.or_eq_false_iff, decide_eq_true_eq, decide_eq_false_iff_not, Bool.not_eq_true', Bool.not_eq_false', beq_iff_eq, beq_eq_false_iff_ne, ne_eq] at hq); omega) ?_ | fail)
      exact W_ret ⟨[_], ⟨rfl, rfl⟩, rfl⟩
    · repeat' (first | refine WK_go ?_ | refine W_seqL ?_ | refine W_seq ?_ | refine W_block ?_ | ((first | refine W_regL ?_ | refine W_skip ?_ | refine W_exit ?_); simp (maxSteps := 400000) (disch := omega) only [push_cast, ↓reduceIte, reduceCtorEq, Nat.reduceAdd, Nat.reduceSub, Nat.reduceEqDiff, Nat.reduceLeDiff, Nat.reduceLT, Nat.reduceBEq, Nat.reduceDiv, Nat.reduceMod, Nat.reducePow, Nat.reduceMul, Int.reduceToNat, Int.reduceLT, Int.reduceLE]) | refine And.intro (by omega) ?_ | refine And.intro (by intro hq; (try simp only [Bool.and_eq_true, Bool.or_eq_true, Bool.and_eq_false_iff, Bool.or_eq_false_iff, decide_eq_true_eq, decide_eq_false_iff_not, Bool.not_eq_true', Bool.not_eq_false', beq_iff_eq, beq_eq_false_iff_ne, ne_eq] at hq); omega) ?_ | fail)
      refine ⟨i + 1, ⟨by omega, up_all hall (by simpa using hb)⟩, by omega, by rfl, ?_⟩
      simp (maxSteps := 400000) (disch := omega) only [push_cast, ↓reduceIte, reduceCtorEq, Nat.reduceAdd, Nat.reduceSub, Nat.reduceEqDiff, Nat.reduceLeDiff, Nat.reduceLT, Nat.reduceBEq, Nat.reduceDiv, Nat.reduceMod, Nat.reducePow, Nat.reduceMul, Int.reduceToNat, Int.reduceLT, Int.reduceLE, S.mk.injEq, List.cons.injEq, Prod.mk.injEq, AV.v.injEq, Value.int.injEq, Value.bool.injEq, Blk.cells.injEq]
  · rw [orF_none (fun j hj => hall j (by omega))]
    repeat' (first | refine WK_go ?_ | refine W_seqL ?_ | refine W_seq ?_ | refine W_block ?_ | ((first | refine W_regL ?_ | refine W_skip ?_ | refine W_exit ?_); simp (maxSteps := 400000) (disch := omega) only [push_cast, ↓reduceIte, reduceCtorEq, Nat.reduceAdd, Nat.reduceSub, Nat.reduceEqDiff, Nat.reduceLeDiff, Nat.reduceLT, Nat.reduceBEq, Nat.reduceDiv, Nat.reduceMod, Nat.reducePow, Nat.reduceMul, Int.reduceToNat, Int.reduceLT, Int.reduceLE]) | refine And.intro (by omega) ?_ | refine And.intro (by intro hq; (try simp only [Bool.and_eq_true, Bool.or_eq_true, Bool.and_eq_false_iff, Bool.or_eq_false_iff, decide_eq_true_eq, decide_eq_false_iff_not, Bool.not_eq_true', Bool.not_eq_false', beq_iff_eq, beq_eq_false_iff_ne, ne_eq] at hq); omega) ?_ | fail)
    exact W_ret ⟨[_], ⟨rfl, rfl⟩, rfl⟩
structure Eff where
  v : Int
  sp : Int
  pt : Int
  at_ : Int
  deriving DecidableEq
def cE (e : Eff) : List AV := [iv e.v, iv e.sp, iv e.pt, iv e.at_]
theorem nE0 (e : Eff) : nth (cE e) 0 = iv e.v := rfl
theorem nE1 (e : Eff) : nth (cE e) 1 = iv e.sp := rfl
theorem nE2 (e : Eff) : nth (cE e) 2 = iv e.pt := rfl
theorem nE3 (e : Eff) : nth (cE e) 3 = iv e.at_ := rfl
theorem lE (e : Eff) : (cE e).length = 4 := rfl
theorem tE (e : Eff) : List.take 4 (cE e) = cE e := rfl
theorem frE (e : Eff) : frzAll (cE e) = true := rfl
theorem iE {m : Nat → Option Blk} {n : Nat} (s : Eff) : List.flatMap (ids m n) (cE s) = [] := flat_frz n _ (frE s)
attribute [push_cast] nE0 nE1 nE2 nE3 lE tE frE iE
def lessE (a b : Eff) : Bool := decide (a.v < b.v) || (decide (a.v = b.v) && decide (b.at_ < a.at_))
theorem fn84 (a b : Eff) : Sy.Fn Try.prog 84 [.agg (cE a), .agg (cE b)] (bv (lessE a b)) := by
  refine Fn_of_W mixed Xt84 rfl ?_
  have c85 := fn85 [cmpI a.v b.v, cmpI b.at_ a.at_] (Nat.le_of_ble_eq_true rfl)
  repeat' (first | refine WK_go ?_ | refine W_seqL ?_ | refine W_seq ?_ | refine W_block ?_ | ((first | refine W_regL ?_ | refine W_skip ?_ | refine W_exit ?_ | refine CallC.now (fn79 _ _) ?_); simp (maxSteps := 400000) (disch := omega) only [push_cast, ↓reduceIte, reduceCtorEq, Nat.reduceAdd, Nat.reduceSub, Nat.reduceEqDiff, Nat.reduceLeDiff, Nat.reduceLT, Nat.reduceBEq, Nat.reduceDiv, Nat.reduceMod, Nat.reducePow, Nat.reduceMul, Int.reduceToNat, Int.reduceLT, Int.reduceLE]) | refine And.intro (by omega) ?_ | refine And.intro (by intro hq; (try simp only [Bool.and_eq_true, Bool.or_eq_true, Bool.and_eq_false_iff, Bool.or_eq_false_iff, decide_eq_true_eq, decide_eq_false_iff_not, Bool.not_eq_true', Bool.not_eq_false', beq_iff_eq, beq_eq_false_iff_ne, ne_eq] at hq); omega) ?_ | fail)
  refine ⟨rfl, trivial, Int, 0, cI, [cmpI a.v b.v, cmpI b.at_ a.at_], rfl, by omega, fun x _ => ⟨rfl, rfl⟩, rfl, ?_⟩
  simp (maxSteps := 400000) (disch := omega) only [push_cast, ↓reduceIte, reduceCtorEq, Nat.reduceAdd, Nat.reduceSub, Nat.reduceEqDiff, Nat.reduceLeDiff, Nat.reduceLT, Nat.reduceBEq, Nat.reduceDiv, Nat.reduceMod, Nat.reducePow, Nat.reduceMul, Int.reduceToNat, Int.reduceLT, Int.reduceLE]
  repeat' (first | refine WK_go ?_ | refine W_seqL ?_ | refine W_seq ?_ | refine W_block ?_ | ((first | refine W_regL ?_ | refine W_skip ?_ | refine W_exit ?_ | refine CallC.go _ (fun _ => ⟨trivial, c85⟩) rfl ?_); simp (maxSteps := 400000) (disch := omega) only [push_cast, ↓reduceIte, reduceCtorEq, Nat.reduceAdd, Nat.reduceSub, Nat.reduceEqDiff, Nat.reduceLeDiff, Nat.reduceLT, Nat.reduceBEq, Nat.reduceDiv, Nat.reduceMod, Nat.reducePow, Nat.reduceMul, Int.reduceToNat, Int.reduceLT, Int.reduceLE]) | refine And.intro (by omega) ?_ | refine And.intro (by intro hq; (try simp only [Bool.and_eq_true, Bool.or_eq_true, Bool.and_eq_false_iff, Bool.or_eq_false_iff, decide_eq_true_eq, decide_eq_false_iff_not, Bool.not_eq_true', Bool.not_eq_false', beq_iff_eq, beq_eq_false_iff_ne, ne_eq] at hq); omega) ?_ | fail)
  have e : decide (orF [cmpI a.v b.v, cmpI b.at_ a.at_] < 0) = lessE a b := by
    unfold lessE
    rw [Bool.eq_iff_iff]
    simp only [Bool.or_eq_true, Bool.and_eq_true, decide_eq_true_eq]
    simp only [orF]
    have a1 := cmpI_neg (x := a.v) (y := b.v)
    have a2 := cmpI_zero (x := a.v) (y := b.v)
    have a3 := cmpI_neg (x := b.at_) (y := a.at_)
    have a4 := cmpI_zero (x := b.at_) (y := a.at_)
    by_cases q : cmpI a.v b.v ≠ 0
    · rw [if_pos q]; omega
    · rw [if_neg q]
      by_cases q2 : cmpI b.at_ a.at_ ≠ 0
      · rw [if_pos q2]; omega
      · rw [if_neg q2]; omega
  rw [e]
  exact W_ret ⟨[_], ⟨rfl, rfl⟩, rfl⟩
/-- where a span begins -/
def stB (l : List Int) : Nat → Int
  | 0 => 0
  | n + 1 => stB l n + gi l n
theorem stB_rng {l : List Int} (h : ∀ i, i < l.length → 0 ≤ gi l i ∧ gi l i ≤ 131072) : ∀ n, n ≤ l.length → 0 ≤ stB l n ∧ stB l n ≤ 131072 * n
  | 0, _ => by simp [stB]
  | n + 1, hn => by
    have := stB_rng h n (by omega)
    have := h n hn
    simp only [stB]; omega
theorem chkB_ok {b : Brg} (h : chkB b = 0) : (1 ≤ b.sp.length ∧ b.sp.length ≤ 6) ∧ b.mo.length = b.sp.length ∧ b.sh.length = b.sp.length ∧ hdP b ∧ ∀ i, i < b.sp.length → (100 ≤ gi b.sp i ∧ gi b.sp i ≤ 131072) ∧ (1 ≤ gi b.mo i ∧ gi b.mo i ≤ 1073741824) ∧ (1 ≤ gi b.sh i ∧ gi b.sh i ≤ 1073741824) := by
  unfold chkB at h
  split at h
  · omega
  · split at h
    · omega
    · split at h
      · rename_i h1 h2 h3
        rw [Bool.and_eq_true, decide_eq_true_eq] at h3
        refine ⟨by omega, by omega, by omega, h3.1, fun i hi => ?_⟩
        have := all_of h3.2 i hi
        unfold spB at this
        simp only [Bool.and_eq_true, inR_iff] at this
        omega
      · omega
theorem fn54 (b : Brg) (k : Nat) (hc : chkB b = 0) (hk : k ≤ b.sp.length) : Sy.Fn Try.prog 54 [.agg (cB b), iv k] (iv (stB b.sp k)) := by
  refine Fn_of_W mixed Xt54 rfl ?_
  obtain ⟨hn, hm, hs, hd, hi⟩ := chkB_ok hc
  have hr := stB_rng (fun i h => ⟨by have := (hi i h).1; omega, by have := (hi i h).1; omega⟩)
  have htl : (b.sp.take k).length = k := by rw [List.length_take]; omega
  repeat' (first | refine WK_go ?_ | refine W_seqL ?_ | refine W_seq ?_ | refine W_block ?_ | ((first | refine W_regL ?_ | refine W_skip ?_ | refine W_exit ?_); simp (maxSteps := 400000) (disch := omega) only [push_cast, ↓reduceIte, reduceCtorEq, Nat.reduceAdd, Nat.reduceSub, Nat.reduceEqDiff, Nat.reduceLeDiff, Nat.reduceLT, Nat.reduceBEq, Nat.reduceDiv, Nat.reduceMod, Nat.reducePow, Nat.reduceMul, Int.reduceToNat, Int.reduceLT, Int.reduceLE]) | refine And.intro (by omega) ?_ | refine And.intro (by intro hq; (try simp only [Bool.and_eq_true, Bool.or_eq_true, Bool.and_eq_false_iff, Bool.or_eq_false_iff, decide_eq_true_eq, decide_eq_false_iff_not, Bool.not_eq_true', Bool.not_eq_false', beq_iff_eq, beq_eq_false_iff_ne, ne_eq] at hq); omega) ?_ | fail)
  refine W_loopU (fun i : Nat => [(4, iv (stB b.sp i)), (12, iv i)]) (fun i => []) (fun i => i ≤ k) (fun i => k - i) 0 (by omega) (by rfl) (by rfl) (fun i hi2 => ?_)
  have r1 := hr i (by omega)
  simp (maxSteps := 400000) (disch := omega) only [push_cast, ↓reduceIte, reduceCtorEq, Nat.reduceAdd, Nat.reduceSub, Nat.reduceEqDiff, Nat.reduceLeDiff, Nat.reduceLT, Nat.reduceBEq, Nat.reduceDiv, Nat.reduceMod, Nat.reducePow, Nat.reduceMul, Int.reduceToNat, Int.reduceLT, Int.reduceLE]
  repeat' (first | refine WK_go ?_ | refine W_seqL ?_ | refine W_seq ?_ | refine W_block ?_ | ((first | refine W_regL ?_ | refine W_skip ?_ | refine W_exit ?_); simp (maxSteps := 400000) (disch := omega) only [push_cast, ↓reduceIte, reduceCtorEq, Nat.reduceAdd, Nat.reduceSub, Nat.reduceEqDiff, Nat.reduceLeDiff, Nat.reduceLT, Nat.reduceBEq, Nat.reduceDiv, Nat.reduceMod, Nat.reducePow, Nat.reduceMul, Int.reduceToNat, Int.reduceLT, Int.reduceLE]) | refine And.intro (by omega) ?_ | refine And.intro (by intro hq; (try simp only [Bool.and_eq_true, Bool.or_eq_true, Bool.and_eq_false_iff, Bool.or_eq_false_iff, decide_eq_true_eq, decide_eq_false_iff_not, Bool.not_eq_true', Bool.not_eq_false', beq_iff_eq, beq_eq_false_iff_ne, ne_eq] at hq); omega) ?_ | fail)
  refine W_condD (by rfl) (fun h5 => ?_) (fun h5 => ?_)
  · have hlt : i < k := by omega
    have e1 : (b.sp.take k).getD i 0 = gi b.sp i := by simp [List.getD, List.getElem?_take, hlt]
    have e2 : stB b.sp (i + 1) = stB b.sp i + gi b.sp i := rfl
    have r2 := hi i (by omega)
    repeat' (first | refine WK_go ?_ | refine W_seqL ?_ | refine W_seq ?_ | refine W_block ?_ | ((first | refine W_regL ?_ | refine W_skip ?_ | refine W_exit ?_); simp (maxSteps := 400000) (disch := omega) only [push_cast, ↓reduceIte, reduceCtorEq, Nat.reduceAdd, Nat.reduceSub, Nat.reduceEqDiff, Nat.reduceLeDiff, Nat.reduceLT, Nat.reduceBEq, Nat.reduceDiv, Nat.reduceMod, Nat.reducePow, Nat.reduceMul, Int.reduceToNat, Int.reduceLT, Int.reduceLE, e1]) | refine And.intro (by omega) ?_ | refine And.intro (by intro hq; (try simp only [Bool.and_eq_true, Bool.or_eq_true, Bool.and_eq_false_iff, Bool.or_eq_false_iff, decide_eq_true_eq, decide_eq_false_iff_not, Bool.not_eq_true', Bool.not_eq_false', beq_iff_eq, beq_eq_false_iff_ne, ne_eq] at hq); omega) ?_ | fail)
    refine ⟨i + 1, by omega, by omega, by rfl, ?_⟩
    rw [e2]
    simp (maxSteps := 400000) (disch := omega) only [push_cast, ↓reduceIte, reduceCtorEq, Nat.reduceAdd, Nat.reduceSub, Nat.reduceEqDiff, Nat.reduceLeDiff, Nat.reduceLT, Nat.reduceBEq, Nat.reduceDiv, Nat.reduceMod, Nat.reducePow, Nat.reduceMul, Int.reduceToNat, Int.reduceLT, Int.reduceLE, S.mk.injEq, List.cons.injEq, Prod.mk.injEq, AV.v.injEq, Value.int.injEq, Value.bool.injEq, Blk.cells.injEq]
  · obtain rfl : i = k := by omega
    repeat' (first | refine WK_go ?_ | refine W_seqL ?_ | refine W_seq ?_ | refine W_block ?_ | ((first | refine W_regL ?_ | refine W_skip ?_ | refine W_exit ?_); simp (maxSteps := 400000) (disch := omega) only [push_cast, ↓reduceIte, reduceCtorEq, Nat.reduceAdd, Nat.reduceSub, Nat.reduceEqDiff, Nat.reduceLeDiff, Nat.reduceLT, Nat.reduceBEq, Nat.reduceDiv, Nat.reduceMod, Nat.reducePow, Nat.reduceMul, Int.reduceToNat, Int.reduceLT, Int.reduceLE]) | refine And.intro (by omega) ?_ | refine And.intro (by intro hq; (try simp only [Bool.and_eq_true, Bool.or_eq_true, Bool.and_eq_false_iff, Bool.or_eq_false_iff, decide_eq_true_eq, decide_eq_false_iff_not, Bool.not_eq_true', Bool.not_eq_false', beq_iff_eq, beq_eq_false_iff_ne, ne_eq] at hq); omega) ?_ | fail)
    exact W_ret ⟨[_], ⟨rfl, rfl⟩, rfl⟩
theorem momF_rng {l x a : Int} (hx : 0 ≤ x ∧ x ≤ l) (hl : l ≤ 131072) : 0 ≤ momF l x a ∧ momF l x a ≤ 17179869184 := by
  unfold momF
  split
  · omega
  · split
    · exact ⟨Int.mul_nonneg (by omega) (by omega), mulP (by omega) (c := 131072) (d := 131072) (by omega) (by omega) (by omega)⟩
    · exact ⟨Int.mul_nonneg (by omega) (by omega), mulP (by omega) (c := 131072) (d := 131072) (by omega) (by omega) (by omega)⟩
theorem fn81 (f l x a : Int) (hf : 0 ≤ f ∧ f ≤ 1048576) (hx : 0 ≤ x ∧ x ≤ l) (hl : l ≤ 131072) (ha : -1073741824 ≤ a ∧ a ≤ 1073741824) : Sy.Fn Try.prog 81 [iv a, .fp [iv f] 0, .fp [iv l] 0, .fp [iv x] 0] (iv (momF l x (a - f))) := by
  refine Fn_of_W mixed Xt81 rfl ?_
  have hr := momF_rng (l := l) (x := x) (a := a - f) hx hl
  unfold momF at *
  repeat' (first | refine WK_go ?_ | refine W_seqL ?_ | refine W_seq ?_ | refine W_block ?_ | ((first | refine W_regL ?_ | refine W_skip ?_ | refine W_exit ?_); simp (maxSteps := 400000) (disch := omega) only [push_cast, ↓reduceIte, reduceCtorEq, Nat.reduceAdd, Nat.reduceSub, Nat.reduceEqDiff, Nat.reduceLeDiff, Nat.reduceLT, Nat.reduceBEq, Nat.reduceDiv, Nat.reduceMod, Nat.reducePow, Nat.reduceMul, Int.reduceToNat, Int.reduceLT, Int.reduceLE]) | refine And.intro (by omega) ?_ | refine And.intro (by intro hq; (try simp only [Bool.and_eq_true, Bool.or_eq_true, Bool.and_eq_false_iff, Bool.or_eq_false_iff, decide_eq_true_eq, decide_eq_false_iff_not, Bool.not_eq_true', Bool.not_eq_false', beq_iff_eq, beq_eq_false_iff_ne, ne_eq] at hq); omega) ?_ | fail)
  refine W_cond (by rfl) (fun h => ?_) (fun h => ?_)
  · rw [if_pos (by simp only [Bool.or_eq_true, decide_eq_true_eq] at h; omega)]
    repeat' (first | refine WK_go ?_ | refine W_seqL ?_ | refine W_seq ?_ | refine W_block ?_ | ((first | refine W_regL ?_ | refine W_skip ?_ | refine W_exit ?_); simp (maxSteps := 400000) (disch := omega) only [push_cast, ↓reduceIte, reduceCtorEq, Nat.reduceAdd, Nat.reduceSub, Nat.reduceEqDiff, Nat.reduceLeDiff, Nat.reduceLT, Nat.reduceBEq, Nat.reduceDiv, Nat.reduceMod, Nat.reducePow, Nat.reduceMul, Int.reduceToNat, Int.reduceLT, Int.reduceLE]) | refine And.intro (by omega) ?_ | refine And.intro (by intro hq; (try simp only [Bool.and_eq_true, Bool.or_eq_true, Bool.and_eq_false_iff, Bool.or_eq_false_iff, decide_eq_true_eq, decide_eq_false_iff_not, Bool.not_eq_true', Bool.not_eq_false', beq_iff_eq, beq_eq_false_iff_ne, ne_eq] at hq); omega) ?_ | fail)
    exact W_ret ⟨[_], ⟨rfl, rfl⟩, rfl⟩
  have h' : ¬ (a - f < 0 ∨ l < a - f) := by simp only [Bool.or_eq_false_iff, decide_eq_false_iff_not] at h; omega
  rw [if_neg h'] at hr ⊢
  repeat' (first | refine WK_go ?_ | refine W_seqL ?_ | refine W_seq ?_ | refine W_block ?_ | ((first | refine W_regL ?_ | refine W_skip ?_ | refine W_exit ?_); simp (maxSteps := 400000) (disch := omega) only [push_cast, ↓reduceIte, reduceCtorEq, Nat.reduceAdd, Nat.reduceSub, Nat.reduceEqDiff, Nat.reduceLeDiff, Nat.reduceLT, Nat.reduceBEq, Nat.reduceDiv, Nat.reduceMod, Nat.reducePow, Nat.reduceMul, Int.reduceToNat, Int.reduceLT, Int.reduceLE]) | refine And.intro (by omega) ?_ | refine And.intro (by intro hq; (try simp only [Bool.and_eq_true, Bool.or_eq_true, Bool.and_eq_false_iff, Bool.or_eq_false_iff, decide_eq_true_eq, decide_eq_false_iff_not, Bool.not_eq_true', Bool.not_eq_false', beq_iff_eq, beq_eq_false_iff_ne, ne_eq] at hq); omega) ?_ | fail)
  refine W_condD (by rfl) (fun h2 => ?_) (fun h2 => ?_)
  · rw [if_pos h2] at hr ⊢
    repeat' (first | refine WK_go ?_ | refine W_seqL ?_ | refine W_seq ?_ | refine W_block ?_ | ((first | refine W_regL ?_ | refine W_skip ?_ | refine W_exit ?_); simp (maxSteps := 400000) (disch := omega) only [push_cast, ↓reduceIte, reduceCtorEq, Nat.reduceAdd, Nat.reduceSub, Nat.reduceEqDiff, Nat.reduceLeDiff, Nat.reduceLT, Nat.reduceBEq, Nat.reduceDiv, Nat.reduceMod, Nat.reducePow, Nat.reduceMul, Int.reduceToNat, Int.reduceLT, Int.reduceLE]) | refine And.intro (by omega) ?_ | refine And.intro (by intro hq; (try simp only [Bool.and_eq_true, Bool.or_eq_true, Bool.and_eq_false_iff, Bool.or_eq_false_iff, decide_eq_true_eq, decide_eq_false_iff_not, Bool.not_eq_true', Bool.not_eq_false', beq_iff_eq, beq_eq_false_iff_ne, ne_eq] at hq); omega) ?_ | fail)
    exact W_ret ⟨[_], ⟨rfl, rfl⟩, rfl⟩
  · rw [if_neg h2] at hr ⊢
    repeat' (first | refine WK_go ?_ | refine W_seqL ?_ | refine W_seq ?_ | refine W_block ?_ | ((first | refine W_regL ?_ | refine W_skip ?_ | refine W_exit ?_); simp (maxSteps := 400000) (disch := omega) only [push_cast, ↓reduceIte, reduceCtorEq, Nat.reduceAdd, Nat.reduceSub, Nat.reduceEqDiff, Nat.reduceLeDiff, Nat.reduceLT, Nat.reduceBEq, Nat.reduceDiv, Nat.reduceMod, Nat.reducePow, Nat.reduceMul, Int.reduceToNat, Int.reduceLT, Int.reduceLE]) | refine And.intro (by omega) ?_ | refine And.intro (by intro hq; (try simp only [Bool.and_eq_true, Bool.or_eq_true, Bool.and_eq_false_iff, Bool.or_eq_false_iff, decide_eq_true_eq, decide_eq_false_iff_not, Bool.not_eq_true', Bool.not_eq_false', beq_iff_eq, beq_eq_false_iff_ne, ne_eq] at hq); omega) ?_ | fail)
    exact W_ret ⟨[_], ⟨rfl, rfl⟩, rfl⟩
theorem endF_rng {l a : Int} {r : Bool} (hl : 0 ≤ l ∧ l ≤ 131072) : 0 ≤ endF l r a ∧ endF l r a ≤ 17179869184 := by
  unfold endF
  split
  · omega
  · split <;> omega
theorem fn86 (f l : Int) (r : Bool) (a : Int) (hf : 0 ≤ f ∧ f ≤ 1048576) (hl : 0 ≤ l ∧ l ≤ 131072) (ha : -1073741824 ≤ a ∧ a ≤ 1073741824) : Sy.Fn Try.prog 86 [iv a, .fp [iv f] 0, .fp [iv l] 0, .fp [bv r] 0] (iv (endF l r (a - f))) := by
  refine Fn_of_W mixed Xt86 rfl ?_
  unfold endF
  repeat' (first | refine WK_go ?_ | refine W_seqL ?_ | refine W_seq ?_ | refine W_block ?_ | ((first | refine W_regL ?_ | refine W_skip ?_ | refine W_exit ?_); simp (maxSteps := 400000) (disch := omega) only [push_cast, ↓reduceIte, reduceCtorEq, Nat.reduceAdd, Nat.reduceSub, Nat.reduceEqDiff, Nat.reduceLeDiff, Nat.reduceLT, Nat.reduceBEq, Nat.reduceDiv, Nat.reduceMod, Nat.reducePow, Nat.reduceMul, Int.reduceToNat, Int.reduceLT, Int.reduceLE]) | refine And.intro (by omega) ?_ | refine And.intro (by intro hq; (try simp only [Bool.and_eq_true, Bool.or_eq_true, Bool.and_eq_false_iff, Bool.or_eq_false_iff, decide_eq_true_eq, decide_eq_false_iff_not, Bool.not_eq_true', Bool.not_eq_false', beq_iff_eq, beq_eq_false_iff_ne, ne_eq] at hq); omega) ?_ | fail)
  refine W_cond (by rfl) (fun h => ?_) (fun h => ?_)
  · rw [if_pos (by simp only [Bool.or_eq_true, decide_eq_true_eq] at h; omega)]
    repeat' (first | refine WK_go ?_ | refine W_seqL ?_ | refine W_seq ?_ | refine W_block ?_ | ((first | refine W_regL ?_ | refine W_skip ?_ | refine W_exit ?_); simp (maxSteps := 400000) (disch := omega) only [push_cast, ↓reduceIte, reduceCtorEq, Nat.reduceAdd, Nat.reduceSub, Nat.reduceEqDiff, Nat.reduceLeDiff, Nat.reduceLT, Nat.reduceBEq, Nat.reduceDiv, Nat.reduceMod, Nat.reducePow, Nat.reduceMul, Int.reduceToNat, Int.reduceLT, Int.reduceLE]) | refine And.intro (by omega) ?_ | refine And.intro (by intro hq; (try simp only [Bool.and_eq_true, Bool.or_eq_true, Bool.and_eq_false_iff, Bool.or_eq_false_iff, decide_eq_true_eq, decide_eq_false_iff_not, Bool.not_eq_true', Bool.not_eq_false', beq_iff_eq, beq_eq_false_iff_ne, ne_eq] at hq); omega) ?_ | fail)
    exact W_ret ⟨[_], ⟨rfl, rfl⟩, rfl⟩
  have h' : ¬ (a - f < 0 ∨ l < a - f) := by simp only [Bool.or_eq_false_iff, decide_eq_false_iff_not] at h; omega
  rw [if_neg h']
  repeat' (first | refine WK_go ?_ | refine W_seqL ?_ | refine W_seq ?_ | refine W_block ?_ | ((first | refine W_regL ?_ | refine W_skip ?_ | refine W_exit ?_); simp (maxSteps := 400000) (disch := omega) only [push_cast, ↓reduceIte, reduceCtorEq, Nat.reduceAdd, Nat.reduceSub, Nat.reduceEqDiff, Nat.reduceLeDiff, Nat.reduceLT, Nat.reduceBEq, Nat.reduceDiv, Nat.reduceMod, Nat.reducePow, Nat.reduceMul, Int.reduceToNat, Int.reduceLT, Int.reduceLE]) | refine And.intro (by omega) ?_ | refine And.intro (by intro hq; (try simp only [Bool.and_eq_true, Bool.or_eq_true, Bool.and_eq_false_iff, Bool.or_eq_false_iff, decide_eq_true_eq, decide_eq_false_iff_not, Bool.not_eq_true', Bool.not_eq_false', beq_iff_eq, beq_eq_false_iff_ne, ne_eq] at hq); omega) ?_ | fail)
  refine W_cond (by rfl) (fun h2 => ?_) (fun h2 => ?_)
  · rw [if_pos h2]
    repeat' (first | refine WK_go ?_ | refine W_seqL ?_ | refine W_seq ?_ | refine W_block ?_ | ((first | refine W_regL ?_ | refine W_skip ?_ | refine W_exit ?_); simp (maxSteps := 400000) (disch := omega) only [push_cast, ↓reduceIte, reduceCtorEq, Nat.reduceAdd, Nat.reduceSub, Nat.reduceEqDiff, Nat.reduceLeDiff, Nat.reduceLT, Nat.reduceBEq, Nat.reduceDiv, Nat.reduceMod, Nat.reducePow, Nat.reduceMul, Int.reduceToNat, Int.reduceLT, Int.reduceLE]) | refine And.intro (by omega) ?_ | refine And.intro (by intro hq; (try simp only [Bool.and_eq_true, Bool.or_eq_true, Bool.and_eq_false_iff, Bool.or_eq_false_iff, decide_eq_true_eq, decide_eq_false_iff_not, Bool.not_eq_true', Bool.not_eq_false', beq_iff_eq, beq_eq_false_iff_ne, ne_eq] at hq); omega) ?_ | fail)
    exact W_ret ⟨[_], ⟨rfl, rfl⟩, rfl⟩
  · rw [if_neg (by rw [h2]; decide)]
    repeat' (first | refine WK_go ?_ | refine W_seqL ?_ | refine W_seq ?_ | refine W_block ?_ | ((first | refine W_regL ?_ | refine W_skip ?_ | refine W_exit ?_); simp (maxSteps := 400000) (disch := omega) only [push_cast, ↓reduceIte, reduceCtorEq, Nat.reduceAdd, Nat.reduceSub, Nat.reduceEqDiff, Nat.reduceLeDiff, Nat.reduceLT, Nat.reduceBEq, Nat.reduceDiv, Nat.reduceMod, Nat.reducePow, Nat.reduceMul, Int.reduceToNat, Int.reduceLT, Int.reduceLE]) | refine And.intro (by omega) ?_ | refine And.intro (by intro hq; (try simp only [Bool.and_eq_true, Bool.or_eq_true, Bool.and_eq_false_iff, Bool.or_eq_false_iff, decide_eq_true_eq, decide_eq_false_iff_not, Bool.not_eq_true', Bool.not_eq_false', beq_iff_eq, beq_eq_false_iff_ne, ne_eq] at hq); omega) ?_ | fail)
    exact W_ret ⟨[_], ⟨rfl, rfl⟩, rfl⟩
def cN (g : Nat) (ca : List AV) (ks : List Int) : List AV := [.clo g [] ca, aI ks]
theorem nN0 (g : Nat) (ca : List AV) (ks : List Int) : nth (cN g ca ks) 0 = .clo g [] ca := rfl
theorem nN1 (g : Nat) (ca : List AV) (ks : List Int) : nth (cN g ca ks) 1 = .sl 1 0 cI ks := rfl
theorem lN (g : Nat) (ca : List AV) (ks : List Int) : (cN g ca ks).length = 2 := rfl
theorem tN (g : Nat) (ca : List AV) (ks : List Int) : List.take 2 (cN g ca ks) = cN g ca ks := rfl
attribute [push_cast] nN0 nN1 lN tN
def caM (f l x : Int) : List AV := [.fp [iv f] 0, .fp [iv l] 0, .fp [iv x] 0]
def caE (f l : Int) (r : Bool) : List AV := [.fp [iv f] 0, .fp [iv l] 0, .fp [bv r] 0]
theorem fn49 (b : Brg) (k : Nat) (x : Int) (hc : chkB b = 0) (hk : k < b.sp.length) (hx : 0 ≤ x ∧ x ≤ gi b.sp k) : Sy.Fn Try.prog 49 [.agg (cB b), iv k, iv x] (.agg (cN 81 (caM (stB b.sp k) (gi b.sp k) x) [stB b.sp k, stB b.sp k + x, stB b.sp k + gi b.sp k])) := by
  refine Fn_of_W mixed Xt49 rfl ?_
  obtain ⟨hn, hm, hs, hd, hi⟩ := chkB_ok hc
  have hr := stB_rng (fun i h => ⟨by have := (hi i h).1; omega, by have := (hi i h).1; omega⟩) k (by omega)
  have hl := (hi k hk).1
  have c54 := fn54 b k hc (by omega)
  have hgi : ∀ j, b.sp.getD j 0 = gi b.sp j := fun _ => rfl
  refine W_seq (W_regL ?_)
  simp (maxSteps := 400000) (disch := omega) only [push_cast, ↓reduceIte, reduceCtorEq, Nat.reduceAdd, Nat.reduceSub, Nat.reduceEqDiff, Nat.reduceLeDiff, Nat.reduceLT, Nat.reduceBEq, Nat.reduceDiv, Nat.reduceMod, Nat.reducePow, Nat.reduceMul, Int.reduceToNat, Int.reduceLT, Int.reduceLE]
  refine W_seq (W_regL ?_)
  simp (maxSteps := 400000) (disch := omega) only [push_cast, ↓reduceIte, reduceCtorEq, Nat.reduceAdd, Nat.reduceSub, Nat.reduceEqDiff, Nat.reduceLeDiff, Nat.reduceLT, Nat.reduceBEq, Nat.reduceDiv, Nat.reduceMod, Nat.reducePow, Nat.reduceMul, Int.reduceToNat, Int.reduceLT, Int.reduceLE]
  refine CallC.now c54 ?_
  simp (maxSteps := 400000) (disch := omega) only [push_cast, ↓reduceIte, reduceCtorEq, Nat.reduceAdd, Nat.reduceSub, Nat.reduceEqDiff, Nat.reduceLeDiff, Nat.reduceLT, Nat.reduceBEq, Nat.reduceDiv, Nat.reduceMod, Nat.reducePow, Nat.reduceMul, Int.reduceToNat, Int.reduceLT, Int.reduceLE, hgi]
  refine ⟨by omega, ?_⟩
  refine W_le (le_frz 7 [5, 6, 8] [2, 12] 15 11 0 [iv (stB b.sp k)] rfl rfl rfl rfl rfl) ?_
  simp (maxSteps := 400000) (disch := omega) only [push_cast, ↓reduceIte, reduceCtorEq, Nat.reduceAdd, Nat.reduceSub, Nat.reduceEqDiff, Nat.reduceLeDiff, Nat.reduceLT, Nat.reduceBEq, Nat.reduceDiv, Nat.reduceMod, Nat.reducePow, Nat.reduceMul, Int.reduceToNat, Int.reduceLT, Int.reduceLE]
  refine W_le (le_frz 8 [5, 6, 7] [2] 15 12 0 [iv (gi b.sp k)] rfl rfl rfl rfl rfl) ?_
  simp (maxSteps := 400000) (disch := omega) only [push_cast, ↓reduceIte, reduceCtorEq, Nat.reduceAdd, Nat.reduceSub, Nat.reduceEqDiff, Nat.reduceLeDiff, Nat.reduceLT, Nat.reduceBEq, Nat.reduceDiv, Nat.reduceMod, Nat.reducePow, Nat.reduceMul, Int.reduceToNat, Int.reduceLT, Int.reduceLE]
  repeat' (first | refine WK_go ?_ | refine W_seqL ?_ | refine W_seq ?_ | refine W_block ?_ | ((first | refine W_regL ?_ | refine W_skip ?_ | refine W_exit ?_); simp (maxSteps := 400000) (disch := omega) only [push_cast, ↓reduceIte, reduceCtorEq, Nat.reduceAdd, Nat.reduceSub, Nat.reduceEqDiff, Nat.reduceLeDiff, Nat.reduceLT, Nat.reduceBEq, Nat.reduceDiv, Nat.reduceMod, Nat.reducePow, Nat.reduceMul, Int.reduceToNat, Int.reduceLT, Int.reduceLE]) | refine And.intro (by omega) ?_ | refine And.intro (by intro hq; (try simp only [Bool.and_eq_true, Bool.or_eq_true, Bool.and_eq_false_iff, Bool.or_eq_false_iff, decide_eq_true_eq, decide_eq_false_iff_not, Bool.not_eq_true', Bool.not_eq_false', beq_iff_eq, beq_eq_false_iff_ne, ne_eq] at hq); omega) ?_ | fail)
  refine ⟨rfl, trivial, Int, 0, cI, [stB b.sp k, stB b.sp k + x, stB b.sp k + gi b.sp k], rfl, by omega, fun x _ => ⟨rfl, rfl⟩, rfl, ?_⟩
  simp (maxSteps := 400000) (disch := omega) only [push_cast, ↓reduceIte, reduceCtorEq, Nat.reduceAdd, Nat.reduceSub, Nat.reduceEqDiff, Nat.reduceLeDiff, Nat.reduceLT, Nat.reduceBEq, Nat.reduceDiv, Nat.reduceMod, Nat.reducePow, Nat.reduceMul, Int.reduceToNat, Int.reduceLT, Int.reduceLE]
  repeat' (first | refine WK_go ?_ | refine W_seqL ?_ | refine W_seq ?_ | refine W_block ?_ | ((first | refine W_regL ?_ | refine W_skip ?_ | refine W_exit ?_); simp (maxSteps := 400000) (disch := omega) only [push_cast, ↓reduceIte, reduceCtorEq, Nat.reduceAdd, Nat.reduceSub, Nat.reduceEqDiff, Nat.reduceLeDiff, Nat.reduceLT, Nat.reduceBEq, Nat.reduceDiv, Nat.reduceMod, Nat.reducePow, Nat.reduceMul, Int.reduceToNat, Int.reduceLT, Int.reduceLE]) | refine And.intro (by omega) ?_ | refine And.intro (by intro hq; (try simp only [Bool.and_eq_true, Bool.or_eq_true, Bool.and_eq_false_iff, Bool.or_eq_false_iff, decide_eq_true_eq, decide_eq_false_iff_not, Bool.not_eq_true', Bool.not_eq_false', beq_iff_eq, beq_eq_false_iff_ne, ne_eq] at hq); omega) ?_ | fail)
  exact W_ret ⟨[_], ⟨⟨by simp, rfl⟩, rfl⟩, rfl⟩
theorem fn51 (b : Brg) (k : Nat) (r : Bool) (hc : chkB b = 0) (hk : k < b.sp.length) : Sy.Fn Try.prog 51 [.agg (cB b), iv k, bv r] (.agg (cN 86 (caE (stB b.sp k) (gi b.sp k) r) [stB b.sp k, stB b.sp k + gi b.sp k])) := by
  refine Fn_of_W mixed Xt51 rfl ?_
  obtain ⟨hn, hm, hs, hd, hi⟩ := chkB_ok hc
  have hr := stB_rng (fun i h => ⟨by have := (hi i h).1; omega, by have := (hi i h).1; omega⟩) k (by omega)
  have hl := (hi k hk).1
  have c54 := fn54 b k hc (by omega)
  have hgi : ∀ j, b.sp.getD j 0 = gi b.sp j := fun _ => rfl
  refine W_seq (W_regL ?_)
  simp (maxSteps := 400000) (disch := omega) only [push_cast, ↓reduceIte, reduceCtorEq, Nat.reduceAdd, Nat.reduceSub, Nat.reduceEqDiff, Nat.reduceLeDiff, Nat.reduceLT, Nat.reduceBEq, Nat.reduceDiv, Nat.reduceMod, Nat.reducePow, Nat.reduceMul, Int.reduceToNat, Int.reduceLT, Int.reduceLE]
  refine W_seq (W_regL ?_)
  simp (maxSteps := 400000) (disch := omega) only [push_cast, ↓reduceIte, reduceCtorEq, Nat.reduceAdd, Nat.reduceSub, Nat.reduceEqDiff, Nat.reduceLeDiff, Nat.reduceLT, Nat.reduceBEq, Nat.reduceDiv, Nat.reduceMod, Nat.reducePow, Nat.reduceMul, Int.reduceToNat, Int.reduceLT, Int.reduceLE]
  refine CallC.now c54 ?_
  simp (maxSteps := 400000) (disch := omega) only [push_cast, ↓reduceIte, reduceCtorEq, Nat.reduceAdd, Nat.reduceSub, Nat.reduceEqDiff, Nat.reduceLeDiff, Nat.reduceLT, Nat.reduceBEq, Nat.reduceDiv, Nat.reduceMod, Nat.reducePow, Nat.reduceMul, Int.reduceToNat, Int.reduceLT, Int.reduceLE, hgi]
  refine ⟨by omega, ?_⟩
  refine W_le (le_frz 7 [5, 6, 8] [2, 12] 15 11 0 [iv (stB b.sp k)] rfl rfl rfl rfl rfl) ?_
  simp (maxSteps := 400000) (disch := omega) only [push_cast, ↓reduceIte, reduceCtorEq, Nat.reduceAdd, Nat.reduceSub, Nat.reduceEqDiff, Nat.reduceLeDiff, Nat.reduceLT, Nat.reduceBEq, Nat.reduceDiv, Nat.reduceMod, Nat.reducePow, Nat.reduceMul, Int.reduceToNat, Int.reduceLT, Int.reduceLE]
  refine W_le (le_frz 8 [5, 6, 7] [2] 15 12 0 [iv (gi b.sp k)] rfl rfl rfl rfl rfl) ?_
  simp (maxSteps := 400000) (disch := omega) only [push_cast, ↓reduceIte, reduceCtorEq, Nat.reduceAdd, Nat.reduceSub, Nat.reduceEqDiff, Nat.reduceLeDiff, Nat.reduceLT, Nat.reduceBEq, Nat.reduceDiv, Nat.reduceMod, Nat.reducePow, Nat.reduceMul, Int.reduceToNat, Int.reduceLT, Int.reduceLE]
  repeat' (first | refine WK_go ?_ | refine W_seqL ?_ | refine W_seq ?_ | refine W_block ?_ | ((first | refine W_regL ?_ | refine W_skip ?_ | refine W_exit ?_); simp (maxSteps := 400000) (disch := omega) only [push_cast, ↓reduceIte, reduceCtorEq, Nat.reduceAdd, Nat.reduceSub, Nat.reduceEqDiff, Nat.reduceLeDiff, Nat.reduceLT, Nat.reduceBEq, Nat.reduceDiv, Nat.reduceMod, Nat.reducePow, Nat.reduceMul, Int.reduceToNat, Int.reduceLT, Int.reduceLE]) | refine And.intro (by omega) ?_ | refine And.intro (by intro hq; (try simp only [Bool.and_eq_true, Bool.or_eq_true, Bool.and_eq_false_iff, Bool.or_eq_false_iff, decide_eq_true_eq, decide_eq_false_iff_not, Bool.not_eq_true', Bool.not_eq_false', beq_iff_eq, beq_eq_false_iff_ne, ne_eq] at hq); omega) ?_ | fail)
  refine ⟨rfl, trivial, Int, 0, cI, [stB b.sp k, stB b.sp k + gi b.sp k], rfl, by omega, fun x _ => ⟨rfl, rfl⟩, rfl, ?_⟩
  simp (maxSteps := 400000) (disch := omega) only [push_cast, ↓reduceIte, reduceCtorEq, Nat.reduceAdd, Nat.reduceSub, Nat.reduceEqDiff, Nat.reduceLeDiff, Nat.reduceLT, Nat.reduceBEq, Nat.reduceDiv, Nat.reduceMod, Nat.reducePow, Nat.reduceMul, Int.reduceToNat, Int.reduceLT, Int.reduceLE]
  repeat' (first | refine WK_go ?_ | refine W_seqL ?_ | refine W_seq ?_ | refine W_block ?_ | ((first | refine W_regL ?_ | refine W_skip ?_ | refine W_exit ?_); simp (maxSteps := 400000) (disch := omega) only [push_cast, ↓reduceIte, reduceCtorEq, Nat.reduceAdd, Nat.reduceSub, Nat.reduceEqDiff, Nat.reduceLeDiff, Nat.reduceLT, Nat.reduceBEq, Nat.reduceDiv, Nat.reduceMod, Nat.reducePow, Nat.reduceMul, Int.reduceToNat, Int.reduceLT, Int.reduceLE]) | refine And.intro (by omega) ?_ | refine And.intro (by intro hq; (try simp only [Bool.and_eq_true, Bool.or_eq_true, Bool.and_eq_false_iff, Bool.or_eq_false_iff, decide_eq_true_eq, decide_eq_false_iff_not, Bool.not_eq_true', Bool.not_eq_false', beq_iff_eq, beq_eq_false_iff_ne, ne_eq] at hq); omega) ?_ | fail)
  exact W_ret ⟨[_], ⟨⟨by simp, rfl⟩, rfl⟩, rfl⟩
theorem fn87 (l : List Int) (hl : l.length ≤ 1000000) (hb : ∀ n, n ≤ l.length → 0 ≤ stB l n ∧ stB l n ≤ 4611686018427387904) : Sy.Fn Try.prog 87 [aI l] (iv (stB l l.length)) := by
  refine Fn_of_W mixed Xt87 rfl ?_
  repeat' (first | refine WK_go ?_ | refine W_seqL ?_ | refine W_seq ?_ | refine W_block ?_ | ((first | refine W_regL ?_ | refine W_skip ?_ | refine W_exit ?_); simp (maxSteps := 400000) (disch := omega) only [push_cast, ↓reduceIte, reduceCtorEq, Nat.reduceAdd, Nat.reduceSub, Nat.reduceEqDiff, Nat.reduceLeDiff, Nat.reduceLT, Nat.reduceBEq, Nat.reduceDiv, Nat.reduceMod, Nat.reducePow, Nat.reduceMul, Int.reduceToNat, Int.reduceLT, Int.reduceLE]) | refine And.intro (by omega) ?_ | refine And.intro (by intro hq; (try simp only [Bool.and_eq_true, Bool.or_eq_true, Bool.and_eq_false_iff, Bool.or_eq_false_iff, decide_eq_true_eq, decide_eq_false_iff_not, Bool.not_eq_true', Bool.not_eq_false', beq_iff_eq, beq_eq_false_iff_ne, ne_eq] at hq); omega) ?_ | fail)
  refine W_loopU (fun i : Nat => [(2, iv (stB l i)), (7, iv i)]) (fun i => []) (fun i => i ≤ l.length) (fun i => l.length - i) 0 (by omega) (by rfl) (by rfl) (fun i hi => ?_)
  have hgi : ∀ j, l.getD j 0 = gi l j := fun _ => rfl
  have r1 := hb i hi
  simp (maxSteps := 400000) (disch := omega) only [push_cast, ↓reduceIte, reduceCtorEq, Nat.reduceAdd, Nat.reduceSub, Nat.reduceEqDiff, Nat.reduceLeDiff, Nat.reduceLT, Nat.reduceBEq, Nat.reduceDiv, Nat.reduceMod, Nat.reducePow, Nat.reduceMul, Int.reduceToNat, Int.reduceLT, Int.reduceLE]
  repeat' (first | refine WK_go ?_ | refine W_seqL ?_ | refine W_seq ?_ | refine W_block ?_ | ((first | refine W_regL ?_ | refine W_skip ?_ | refine W_exit ?_); simp (maxSteps := 400000) (disch := omega) only [push_cast, ↓reduceIte, reduceCtorEq, Nat.reduceAdd, Nat.reduceSub, Nat.reduceEqDiff, Nat.reduceLeDiff, Nat.reduceLT, Nat.reduceBEq, Nat.reduceDiv, Nat.reduceMod, Nat.reducePow, Nat.reduceMul, Int.reduceToNat, Int.reduceLT, Int.reduceLE]) | refine And.intro (by omega) ?_ | refine And.intro (by intro hq; (try simp only [Bool.and_eq_true, Bool.or_eq_true, Bool.and_eq_false_iff, Bool.or_eq_false_iff, decide_eq_true_eq, decide_eq_false_iff_not, Bool.not_eq_true', Bool.not_eq_false', beq_iff_eq, beq_eq_false_iff_ne, ne_eq] at hq); omega) ?_ | fail)
  refine W_condD (by rfl) (fun h5 => ?_) (fun h5 => ?_)
  · have hlt : i < l.length := by omega
    have r2 := hb (i + 1) (by omega)
    have e2 : stB l (i + 1) = stB l i + gi l i := rfl
    repeat' (first | refine WK_go ?_ | refine W_seqL ?_ | refine W_seq ?_ | refine W_block ?_ | ((first | refine W_regL ?_ | refine W_skip ?_ | refine W_exit ?_); simp (maxSteps := 400000) (disch := omega) only [push_cast, ↓reduceIte, reduceCtorEq, Nat.reduceAdd, Nat.reduceSub, Nat.reduceEqDiff, Nat.reduceLeDiff, Nat.reduceLT, Nat.reduceBEq, Nat.reduceDiv, Nat.reduceMod, Nat.reducePow, Nat.reduceMul, Int.reduceToNat, Int.reduceLT, Int.reduceLE, hgi, ← e2]) | refine And.intro (by omega) ?_ | refine And.intro (by intro hq; (try simp only [Bool.and_eq_true, Bool.or_eq_true, Bool.and_eq_false_iff, Bool.or_eq_false_iff, decide_eq_true_eq, decide_eq_false_iff_not, Bool.not_eq_true', Bool.not_eq_false', beq_iff_eq, beq_eq_false_iff_ne, ne_eq] at hq); omega) ?_ | fail)
    refine ⟨i + 1, by omega, by omega, by rfl, ?_⟩
    simp (maxSteps := 400000) (disch := omega) only [push_cast, ↓reduceIte, reduceCtorEq, Nat.reduceAdd, Nat.reduceSub, Nat.reduceEqDiff, Nat.reduceLeDiff, Nat.reduceLT, Nat.reduceBEq, Nat.reduceDiv, Nat.reduceMod, Nat.reducePow, Nat.reduceMul, Int.reduceToNat, Int.reduceLT, Int.reduceLE, S.mk.injEq, List.cons.injEq, Prod.mk.injEq, AV.v.injEq, Value.int.injEq, Value.bool.injEq, Blk.cells.injEq]
  · obtain rfl : i = l.length := by omega
    repeat' (first | refine WK_go ?_ | refine W_seqL ?_ | refine W_seq ?_ | refine W_block ?_ | ((first | refine W_regL ?_ | refine W_skip ?_ | refine W_exit ?_); simp (maxSteps := 400000) (disch := omega) only [push_cast, ↓reduceIte, reduceCtorEq, Nat.reduceAdd, Nat.reduceSub, Nat.reduceEqDiff, Nat.reduceLeDiff, Nat.reduceLT, Nat.reduceBEq, Nat.reduceDiv, Nat.reduceMod, Nat.reducePow, Nat.reduceMul, Int.reduceToNat, Int.reduceLT, Int.reduceLE]) | refine And.intro (by omega) ?_ | refine And.intro (by intro hq; (try simp only [Bool.and_eq_true, Bool.or_eq_true, Bool.and_eq_false_iff, Bool.or_eq_false_iff, decide_eq_true_eq, decide_eq_false_iff_not, Bool.not_eq_true', Bool.not_eq_false', beq_iff_eq, beq_eq_false_iff_ne, ne_eq] at hq); omega) ?_ | fail)
    exact W_ret ⟨[_], ⟨rfl, rfl⟩, rfl⟩
/-- what the axles do, one by one -/
def trm (f : Int → Int) (t : List Frc) (s : Int) (j : Nat) : Int := (sf t j).p * f (s - (sf t j).x)
def trmL (f : Int → Int) (t : List Frc) (s : Int) (i : Nat) : List Int := (List.range t.length).map (fun j => if j < i then trm f t s j else 0)
theorem trmL_zero (f : Int → Int) (t : List Frc) (s : Int) : trmL f t s 0 = List.replicate t.length 0 := by
  apply List.ext_getElem
  · simp [trmL]
  · intro j h1 h2
    simp [trmL]
theorem trmL_set (f : Int → Int) (t : List Frc) (s : Int) (i : Nat) : (trmL f t s i).set i (trm f t s i) = trmL f t s (i + 1) := by
  apply List.ext_getElem
  · simp [trmL]
  · intro j h1 h2
    simp only [trmL, List.getElem_set, List.getElem_map, List.getElem_range]
    by_cases e : i = j
    · subst e; rw [if_pos rfl, if_pos (by omega)]
    · rw [if_neg e]
      by_cases e2 : j < i
      · rw [if_pos e2, if_pos (by omega)]
      · rw [if_neg e2, if_neg (by omega)]
theorem trmL_skip (f : Int → Int) (t : List Frc) (s : Int) (i : Nat) (h : trm f t s i = 0) : trmL f t s (i + 1) = trmL f t s i := by
  unfold trmL
  apply List.map_congr_left
  intro j hj
  by_cases e : j = i
  · subst e; rw [if_pos (by omega), if_neg (by omega), h]
  · by_cases e2 : j < i
    · rw [if_pos e2, if_pos (by omega)]
    · rw [if_neg e2, if_neg (by omega)]
theorem trmL_sum (f : Int → Int) (t : List Frc) (s : Int) : ∀ n, n ≤ t.length → stB (trmL f t s t.length) n = effN f t s n
  | 0, _ => rfl
  | n + 1, hn => by
    simp only [stB, effN]
    rw [trmL_sum f t s n (by omega)]
    congr 1
    simp [trmL, List.getD, show n < t.length by omega, trm]
theorem effN_rng {f : Int → Int} {t : List Frc} {s : Int} (hf : ∀ a, 0 ≤ f a ∧ f a ≤ 17179869184) (h : ∀ i, i < t.length → 0 ≤ (sf t i).p ∧ (sf t i).p ≤ 1048576) : ∀ n, n ≤ t.length → 0 ≤ effN f t s n ∧ effN f t s n ≤ 18014398509481984 * n
  | 0, _ => by simp [effN]
  | n + 1, hn => by
    have h1 := effN_rng (s := s) hf h n (by omega)
    have h2 := h n hn
    have h3 := hf (s - (sf t n).x)
    have h4 : 0 ≤ (sf t n).p * f (s - (sf t n).x) := Int.mul_nonneg h2.1 h3.1
    have h5 : (sf t n).p * f (s - (sf t n).x) ≤ 1048576 * 17179869184 := Int.mul_le_mul h2.2 h3.2 h3.1 (by omega)
    simp only [effN]
    omega
theorem fn53 (g : Nat) (ca : List AV) (ks : List Int) (f : Int → Int) (t : List Frc) (s : Int) (hg : ∀ a, -1073741824 ≤ a → a ≤ 1073741824 → Sy.Fn Try.prog g (iv a :: ca) (iv (f a))) (hfz : frzAll (cN g ca ks) = true)
    (hf : ∀ a, 0 ≤ f a ∧ f a ≤ 17179869184) (ht : chkT t = 0) (hs : -1000000000 ≤ s ∧ s ≤ 1000000000) : Sy.Fn Try.prog 53 [.agg (cN g ca ks), aT t, iv s] (iv (eff f t s)) := by
  refine Fn_of_W mixed Xt53 rfl ?_
  obtain ⟨hn, hfr⟩ := chkT_ok ht
  have hp : ∀ i, i < t.length → 0 ≤ (sf t i).p ∧ (sf t i).p ≤ 1048576 := fun i hi => (frB_iff.1 (hfr i hi)).2.2.2
  have hx : ∀ i, i < t.length → 0 ≤ (sf t i).x ∧ (sf t i).x ≤ 262144 := fun i hi => by
    have h1 := frB_iff.1 (hfr i hi)
    have h2 := last_nn i (fun j hj => hfr j (by omega))
    omega
  have hl1 : (trmL f t s t.length).length = t.length := by simp [trmL]
  have c87 := fn87 (trmL f t s t.length) (by omega) (fun n hn => by
    rw [hl1] at hn
    rw [trmL_sum f t s n hn]
    have := effN_rng (s := s) hf hp n hn
    omega)
  rw [hl1, trmL_sum f t s _ (Nat.le_refl _)] at c87
  change Sy.Fn Try.prog 87 [_] (iv (eff f t s)) at c87
  repeat' (first | refine WK_go ?_ | refine W_seqL ?_ | refine W_seq ?_ | refine W_block ?_ | ((first | refine W_regL ?_ | refine W_skip ?_ | refine W_exit ?_); simp (maxSteps := 400000) (disch := omega) only [push_cast, ↓reduceIte, reduceCtorEq, Nat.reduceAdd, Nat.reduceSub, Nat.reduceEqDiff, Nat.reduceLeDiff, Nat.reduceLT, Nat.reduceBEq, Nat.reduceDiv, Nat.reduceMod, Nat.reducePow, Nat.reduceMul, Int.reduceToNat, Int.reduceLT, Int.reduceLE]) | refine And.intro (by omega) ?_ | refine And.intro (by intro hq; (try simp only [Bool.and_eq_true, Bool.or_eq_true, Bool.and_eq_false_iff, Bool.or_eq_false_iff, decide_eq_true_eq, decide_eq_false_iff_not, Bool.not_eq_true', Bool.not_eq_false', beq_iff_eq, beq_eq_false_iff_ne, ne_eq] at hq); omega) ?_ | fail)
  refine ⟨rfl, ⟨by omega, by omega, by omega⟩, Int, 0, cI, 0, rfl, rfl, by omega, rfl, ?_⟩
  simp (maxSteps := 400000) (disch := omega) only [push_cast, ↓reduceIte, reduceCtorEq, Nat.reduceAdd, Nat.reduceSub, Nat.reduceEqDiff, Nat.reduceLeDiff, Nat.reduceLT, Nat.reduceBEq, Nat.reduceDiv, Nat.reduceMod, Nat.reducePow, Nat.reduceMul, Int.reduceToNat, Int.reduceLT, Int.reduceLE, Int.toNat_natCast]
  repeat' (first | refine WK_go ?_ | refine W_seqL ?_ | refine W_seq ?_ | refine W_block ?_ | ((first | refine W_regL ?_ | refine W_skip ?_ | refine W_exit ?_); simp (maxSteps := 400000) (disch := omega) only [push_cast, ↓reduceIte, reduceCtorEq, Nat.reduceAdd, Nat.reduceSub, Nat.reduceEqDiff, Nat.reduceLeDiff, Nat.reduceLT, Nat.reduceBEq, Nat.reduceDiv, Nat.reduceMod, Nat.reducePow, Nat.reduceMul, Int.reduceToNat, Int.reduceLT, Int.reduceLE]) | refine And.intro (by omega) ?_ | refine And.intro (by intro hq; (try simp only [Bool.and_eq_true, Bool.or_eq_true, Bool.and_eq_false_iff, Bool.or_eq_false_iff, decide_eq_true_eq, decide_eq_false_iff_not, Bool.not_eq_true', Bool.not_eq_false', beq_iff_eq, beq_eq_false_iff_ne, ne_eq] at hq); omega) ?_ | fail)
  refine W_loopU (fun i : Nat => [(15, iv i)]) (fun i => [(4, .row 0 2 1 0 cI (trmL f t s i))]) (fun i => i ≤ t.length) (fun i => t.length - i) 0 (by omega) (by rfl) (by rw [trmL_zero]; rfl) (fun i hi => ?_)
  simp (maxSteps := 400000) (disch := omega) only [push_cast, ↓reduceIte, reduceCtorEq, Nat.reduceAdd, Nat.reduceSub, Nat.reduceEqDiff, Nat.reduceLeDiff, Nat.reduceLT, Nat.reduceBEq, Nat.reduceDiv, Nat.reduceMod, Nat.reducePow, Nat.reduceMul, Int.reduceToNat, Int.reduceLT, Int.reduceLE]
  repeat' (first | refine WK_go ?_ | refine W_seqL ?_ | refine W_seq ?_ | refine W_block ?_ | ((first | refine W_regL ?_ | refine W_skip ?_ | refine W_exit ?_); simp (maxSteps := 400000) (disch := omega) only [push_cast, ↓reduceIte, reduceCtorEq, Nat.reduceAdd, Nat.reduceSub, Nat.reduceEqDiff, Nat.reduceLeDiff, Nat.reduceLT, Nat.reduceBEq, Nat.reduceDiv, Nat.reduceMod, Nat.reducePow, Nat.reduceMul, Int.reduceToNat, Int.reduceLT, Int.reduceLE]) | refine And.intro (by omega) ?_ | refine And.intro (by intro hq; (try simp only [Bool.and_eq_true, Bool.or_eq_true, Bool.and_eq_false_iff, Bool.or_eq_false_iff, decide_eq_true_eq, decide_eq_false_iff_not, Bool.not_eq_true', Bool.not_eq_false', beq_iff_eq, beq_eq_false_iff_ne, ne_eq] at hq); omega) ?_ | fail)
  refine W_condD (by rfl) (fun h5 => ?_) (fun h5 => ?_)
  · have hlt : i < t.length := by omega
    have hsp : t.getD i dF = sf t i := rfl
    repeat' (first | refine WK_go ?_ | refine W_seqL ?_ | refine W_seq ?_ | refine W_block ?_ | ((first | refine W_regL ?_ | refine W_skip ?_ | refine W_exit ?_); simp (maxSteps := 400000) (disch := omega) only [push_cast, ↓reduceIte, reduceCtorEq, Nat.reduceAdd, Nat.reduceSub, Nat.reduceEqDiff, Nat.reduceLeDiff, Nat.reduceLT, Nat.reduceBEq, Nat.reduceDiv, Nat.reduceMod, Nat.reducePow, Nat.reduceMul, Int.reduceToNat, Int.reduceLT, Int.reduceLE, hsp]) | refine And.intro (by omega) ?_ | refine And.intro (by intro hq; (try simp only [Bool.and_eq_true, Bool.or_eq_true, Bool.and_eq_false_iff, Bool.or_eq_false_iff, decide_eq_true_eq, decide_eq_false_iff_not, Bool.not_eq_true', Bool.not_eq_false', beq_iff_eq, beq_eq_false_iff_ne, ne_eq] at hq); omega) ?_ | fail)
    have hxi := hx i hlt
    have hpi := hp i hlt
    have hli : (trmL f t s i).length = t.length := by simp [trmL]
    have hfi := hf (s - (sf t i).x)
    have cg := hg (s - (sf t i).x) (by omega) (by omega)
    have m0 : 0 ≤ (sf t i).p * f (s - (sf t i).x) := Int.mul_nonneg hpi.1 hfi.1
    have m1 : (sf t i).p * f (s - (sf t i).x) ≤ 1048576 * 17179869184 := Int.mul_le_mul hpi.2 hfi.2 hfi.1 (by omega)
    have hts := trmL_set f t s i
    refine W_meetB [] [(4, .row 0 2 1 0 cI (trmL f t s (i + 1)))] ?_ ?_
    · refine W_condD (by rfl) (fun hb => ?_) (fun hb => ?_)
      · repeat' (first | refine WK_go ?_ | refine W_seqL ?_ | refine W_seq ?_ | refine W_block ?_ | ((first | refine W_regL ?_ | refine W_skip ?_ | refine W_exit ?_ | refine CallC.go _ (fun _ => ⟨trivial, cg⟩) rfl ?_); simp (maxSteps := 400000) (disch := omega) only [push_cast, ↓reduceIte, reduceCtorEq, Nat.reduceAdd, Nat.reduceSub, Nat.reduceEqDiff, Nat.reduceLeDiff, Nat.reduceLT, Nat.reduceBEq, Nat.reduceDiv, Nat.reduceMod, Nat.reducePow, Nat.reduceMul, Int.reduceToNat, Int.reduceLT, Int.reduceLE, hsp, hli]) | refine And.intro (by omega) ?_ | refine And.intro (by intro hq; (try simp only [Bool.and_eq_true, Bool.or_eq_true, Bool.and_eq_false_iff, Bool.or_eq_false_iff, decide_eq_true_eq, decide_eq_false_iff_not, Bool.not_eq_true', Bool.not_eq_false', beq_iff_eq, beq_eq_false_iff_ne, ne_eq] at hq); omega) ?_ | fail)
        refine ⟨rfl, ⟨Nat.le_of_ble_eq_true rfl, rfl⟩, by omega, trm f t s i, rfl, rfl, ?_⟩
        rw [hts]
        simp (maxSteps := 400000) (disch := omega) only [push_cast, ↓reduceIte, reduceCtorEq, Nat.reduceAdd, Nat.reduceSub, Nat.reduceEqDiff, Nat.reduceLeDiff, Nat.reduceLT, Nat.reduceBEq, Nat.reduceDiv, Nat.reduceMod, Nat.reducePow, Nat.reduceMul, Int.reduceToNat, Int.reduceLT, Int.reduceLE]
        first | exact ⟨rfl, by rfl⟩ | rfl
      · rw [trmL_skip f t s i (by unfold trm; rw [show (sf t i).p = 0 by omega, Int.zero_mul])]
        repeat' (first | refine WK_go ?_ | refine W_seqL ?_ | refine W_seq ?_ | refine W_block ?_ | ((first | refine W_regL ?_ | refine W_skip ?_ | refine W_exit ?_); simp (maxSteps := 400000) (disch := omega) only [push_cast, ↓reduceIte, reduceCtorEq, Nat.reduceAdd, Nat.reduceSub, Nat.reduceEqDiff, Nat.reduceLeDiff, Nat.reduceLT, Nat.reduceBEq, Nat.reduceDiv, Nat.reduceMod, Nat.reducePow, Nat.reduceMul, Int.reduceToNat, Int.reduceLT, Int.reduceLE]) | refine And.intro (by omega) ?_ | refine And.intro (by intro hq; (try simp only [Bool.and_eq_true, Bool.or_eq_true, Bool.and_eq_false_iff, Bool.or_eq_false_iff, decide_eq_true_eq, decide_eq_false_iff_not, Bool.not_eq_true', Bool.not_eq_false', beq_iff_eq, beq_eq_false_iff_ne, ne_eq] at hq); omega) ?_ | fail)
        first | exact ⟨rfl, by rfl⟩ | rfl
    simp (maxSteps := 400000) (disch := omega) only [push_cast, ↓reduceIte, reduceCtorEq, Nat.reduceAdd, Nat.reduceSub, Nat.reduceEqDiff, Nat.reduceLeDiff, Nat.reduceLT, Nat.reduceBEq, Nat.reduceDiv, Nat.reduceMod, Nat.reducePow, Nat.reduceMul, Int.reduceToNat, Int.reduceLT, Int.reduceLE]
    repeat' (first | refine WK_go ?_ | refine W_seqL ?_ | refine W_seq ?_ | refine W_block ?_ | ((first | refine W_regL ?_ | refine W_skip ?_ | refine W_exit ?_); simp (maxSteps := 400000) (disch := omega) only [push_cast, ↓reduceIte, reduceCtorEq, Nat.reduceAdd, Nat.reduceSub, Nat.reduceEqDiff, Nat.reduceLeDiff, Nat.reduceLT, Nat.reduceBEq, Nat.reduceDiv, Nat.reduceMod, Nat.reducePow, Nat.reduceMul, Int.reduceToNat, Int.reduceLT, Int.reduceLE]) | refine And.intro (by omega) ?_ | refine And.intro (by intro hq; (try simp only [Bool.and_eq_true, Bool.or_eq_true, Bool.and_eq_false_iff, Bool.or_eq_false_iff, decide_eq_true_eq, decide_eq_false_iff_not, Bool.not_eq_true', Bool.not_eq_false', beq_iff_eq, beq_eq_false_iff_ne, ne_eq] at hq); omega) ?_ | fail)
    refine ⟨i + 1, by omega, by omega, by rfl, ?_⟩
    simp (maxSteps := 400000) (disch := omega) only [push_cast, ↓reduceIte, reduceCtorEq, Nat.reduceAdd, Nat.reduceSub, Nat.reduceEqDiff, Nat.reduceLeDiff, Nat.reduceLT, Nat.reduceBEq, Nat.reduceDiv, Nat.reduceMod, Nat.reducePow, Nat.reduceMul, Int.reduceToNat, Int.reduceLT, Int.reduceLE, S.mk.injEq, List.cons.injEq, Prod.mk.injEq, AV.v.injEq, Value.int.injEq, Value.bool.injEq, Blk.cells.injEq]
  · obtain rfl : i = t.length := by omega
    repeat' (first | refine WK_go ?_ | refine W_seqL ?_ | refine W_seq ?_ | refine W_block ?_ | ((first | refine W_regL ?_ | refine W_skip ?_ | refine W_exit ?_ | refine CallC.go _ (fun _ => ⟨trivial, c87⟩) rfl ?_); simp (maxSteps := 400000) (disch := omega) only [push_cast, ↓reduceIte, reduceCtorEq, Nat.reduceAdd, Nat.reduceSub, Nat.reduceEqDiff, Nat.reduceLeDiff, Nat.reduceLT, Nat.reduceBEq, Nat.reduceDiv, Nat.reduceMod, Nat.reducePow, Nat.reduceMul, Int.reduceToNat, Int.reduceLT, Int.reduceLE]) | refine And.intro (by omega) ?_ | refine And.intro (by intro hq; (try simp only [Bool.and_eq_true, Bool.or_eq_true, Bool.and_eq_false_iff, Bool.or_eq_false_iff, decide_eq_true_eq, decide_eq_false_iff_not, Bool.not_eq_true', Bool.not_eq_false', beq_iff_eq, beq_eq_false_iff_ne, ne_eq] at hq); omega) ?_ | fail)
    exact W_ret ⟨[_], ⟨rfl, rfl⟩, rfl⟩
theorem fn83 (g : Nat) (ca : List AV) (ks : List Int) (t : List Frc) (hfz : frzAll (cN g ca ks) = true) : Sy.Fn Try.prog 83 [.agg (cN g ca ks), aT t] (.clo 107 [] [.fp [aT t] 0, .fp (cN g ca ks) 0]) := by
  refine Fn_of_W mixed Xt83 rfl ?_
  repeat' (first | refine WK_go ?_ | refine W_seqL ?_ | refine W_seq ?_ | refine W_block ?_ | ((first | refine W_regL ?_ | refine W_skip ?_ | refine W_exit ?_); simp (maxSteps := 400000) (disch := omega) only [push_cast, ↓reduceIte, reduceCtorEq, Nat.reduceAdd, Nat.reduceSub, Nat.reduceEqDiff, Nat.reduceLeDiff, Nat.reduceLT, Nat.reduceBEq, Nat.reduceDiv, Nat.reduceMod, Nat.reducePow, Nat.reduceMul, Int.reduceToNat, Int.reduceLT, Int.reduceLE, hfz]) | refine And.intro (by omega) ?_ | refine And.intro (by intro hq; (try simp only [Bool.and_eq_true, Bool.or_eq_true, Bool.and_eq_false_iff, Bool.or_eq_false_iff, decide_eq_true_eq, decide_eq_false_iff_not, Bool.not_eq_true', Bool.not_eq_false', beq_iff_eq, beq_eq_false_iff_ne, ne_eq] at hq); omega) ?_ | fail)
  exact W_ret ⟨[_], ⟨rfl, rfl⟩, rfl⟩
end Go.Proofs.Ytbdnnicodailcaa

/- The worst effect: loops over functions. -/
namespace Go.Proofs.Ytbdnnicodailcaa
open Go Sy
set_option maxRecDepth 100000
set_option maxHeartbeats 4000000
set_option linter.unusedVariables false
set_option linter.unusedSimpArgs false
def wE (e : Int → Int) (k x : Int) : Option Int → Eff
  | none => ⟨0, 0, 0, 0⟩
  | some a => ⟨e a, k, x, a⟩
theorem cEwE (e : Int → Int) (k x a : Int) : cE (wE e k x (some a)) = [iv (e a), iv k, iv x, iv a] := rfl
theorem dE (e : Eff) : List.drop 4 (cE e) = [] := rfl
theorem best82 (g : Nat) (ca : List AV) (ks : List Int) (f : Int → Int) (t : List Frc) (k x : Int) (hg : ∀ a, -1073741824 ≤ a → a ≤ 1073741824 → Sy.Fn Try.prog g (iv a :: ca) (iv (f a))) (hfz : frzAll (cN g ca ks) = true)
    (hf : ∀ a, 0 ≤ f a ∧ f a ≤ 17179869184) (ht : chkT t = 0) (hk : ∀ j, j < ks.length → 0 ≤ gi ks j ∧ gi ks j ≤ 1048576) (hkl : ks.length ≤ 10) :
    Sy.Fn Try.prog 70 [.clo 82 [] [.fp (cN g ca ks) 0, .fp [aT t] 0, .fp [iv k] 0, .fp [iv x] 0], .clo 84 [] []] (.agg (cE (wE (eff f t) k x (wst (eff f t) t ks)))) := by
  refine Fn_of_W mixed Xt70 rfl ?_
  have c83 := fn83 g ca ks t hfz
  have vN : ∀ m n, List.map (view m n) (cN g ca ks) = cN g ca ks := fun m n => viewL_frz n _ hfz
  have iN : ∀ m n, List.flatMap (ids m n) (cN g ca ks) = [] := fun m n => flat_frz n _ hfz
  obtain ⟨hn, hfr⟩ := chkT_ok ht
  have hx : ∀ i, i < t.length → 0 ≤ (sf t i).x ∧ (sf t i).x ≤ 262144 := fun i hi => by
    have h1 := frB_iff.1 (hfr i hi)
    have h2 := last_nn i (fun j hj => hfr j (by omega))
    omega
  repeat' (first | refine WK_go ?_ | refine W_seqL ?_ | refine W_seq ?_ | refine W_block ?_ | ((first | refine W_regL ?_ | refine W_skip ?_ | refine W_exit ?_); simp (maxSteps := 400000) (disch := omega) only [push_cast, ↓reduceIte, reduceCtorEq, Nat.reduceAdd, Nat.reduceSub, Nat.reduceEqDiff, Nat.reduceLeDiff, Nat.reduceLT, Nat.reduceBEq, Nat.reduceDiv, Nat.reduceMod, Nat.reducePow, Nat.reduceMul, Int.reduceToNat, Int.reduceLT, Int.reduceLE]) | refine And.intro (by omega) ?_ | refine And.intro (by intro hq; (try simp only [Bool.and_eq_true, Bool.or_eq_true, Bool.and_eq_false_iff, Bool.or_eq_false_iff, decide_eq_true_eq, decide_eq_false_iff_not, Bool.not_eq_true', Bool.not_eq_false', beq_iff_eq, beq_eq_false_iff_ne, ne_eq] at hq); omega) ?_ | fail)
  refine W_rfn (.inl rfl) (fun lp R hR => Inl_of_W mixed Xt82 rfl (fun vs => ?_))
  simp (maxSteps := 400000) (disch := omega) only [push_cast, ↓reduceIte, reduceCtorEq, Nat.reduceAdd, Nat.reduceSub, Nat.reduceEqDiff, Nat.reduceLeDiff, Nat.reduceLT, Nat.reduceBEq, Nat.reduceDiv, Nat.reduceMod, Nat.reducePow, Nat.reduceMul, Int.reduceToNat, Int.reduceLT, Int.reduceLE]
  repeat' (first | refine WK_go ?_ | refine W_seqL ?_ | refine W_seq ?_ | refine W_block ?_ | ((first | refine W_regL ?_ | refine W_skip ?_ | refine W_exit ?_ | refine CallC.now (c83) ?_); simp (maxSteps := 400000) (disch := omega) only [push_cast, ↓reduceIte, reduceCtorEq, Nat.reduceAdd, Nat.reduceSub, Nat.reduceEqDiff, Nat.reduceLeDiff, Nat.reduceLT, Nat.reduceBEq, Nat.reduceDiv, Nat.reduceMod, Nat.reducePow, Nat.reduceMul, Int.reduceToNat, Int.reduceLT, Int.reduceLE, hfz]) | refine And.intro (by omega) ?_ | refine And.intro (by intro hq; (try simp only [Bool.and_eq_true, Bool.or_eq_true, Bool.and_eq_false_iff, Bool.or_eq_false_iff, decide_eq_true_eq, decide_eq_false_iff_not, Bool.not_eq_true', Bool.not_eq_false', beq_iff_eq, beq_eq_false_iff_ne, ne_eq] at hq); omega) ?_ | fail)
  refine W_rfn (.inl rfl) (fun lp2 R2 hR2 => Inl_of_W mixed Xt107 rfl (fun vs2 => ?_))
  simp (maxSteps := 400000) (disch := omega) only [push_cast, ↓reduceIte, reduceCtorEq, Nat.reduceAdd, Nat.reduceSub, Nat.reduceEqDiff, Nat.reduceLeDiff, Nat.reduceLT, Nat.reduceBEq, Nat.reduceDiv, Nat.reduceMod, Nat.reducePow, Nat.reduceMul, Int.reduceToNat, Int.reduceLT, Int.reduceLE]
  repeat' (first | refine WK_go ?_ | refine W_seqL ?_ | refine W_seq ?_ | refine W_block ?_ | ((first | refine W_regL ?_ | refine W_skip ?_ | refine W_exit ?_); simp (maxSteps := 400000) (disch := omega) only [push_cast, ↓reduceIte, reduceCtorEq, Nat.reduceAdd, Nat.reduceSub, Nat.reduceEqDiff, Nat.reduceLeDiff, Nat.reduceLT, Nat.reduceBEq, Nat.reduceDiv, Nat.reduceMod, Nat.reducePow, Nat.reduceMul, Int.reduceToNat, Int.reduceLT, Int.reduceLE]) | refine And.intro (by omega) ?_ | refine And.intro (by intro hq; (try simp only [Bool.and_eq_true, Bool.or_eq_true, Bool.and_eq_false_iff, Bool.or_eq_false_iff, decide_eq_true_eq, decide_eq_false_iff_not, Bool.not_eq_true', Bool.not_eq_false', beq_iff_eq, beq_eq_false_iff_ne, ne_eq] at hq); omega) ?_ | fail)
  refine W_loopU (fun i : Nat => [(10, iv i)]) (fun i => [(1, .cells (cE (wE (eff f t) k x (wI (eff f t) t ks i)))), (2, .cells [bv (wI (eff f t) t ks i).isNone])]) (fun i => i ≤ t.length) (fun i => t.length - i) 0 (by omega) (by rfl) (by rfl) (fun i hi => ?_)
  simp (maxSteps := 400000) (disch := omega) only [push_cast, ↓reduceIte, reduceCtorEq, Nat.reduceAdd, Nat.reduceSub, Nat.reduceEqDiff, Nat.reduceLeDiff, Nat.reduceLT, Nat.reduceBEq, Nat.reduceDiv, Nat.reduceMod, Nat.reducePow, Nat.reduceMul, Int.reduceToNat, Int.reduceLT, Int.reduceLE]
  repeat' (first | refine WK_go ?_ | refine W_seqL ?_ | refine W_seq ?_ | refine W_block ?_ | ((first | refine W_regL ?_ | refine W_skip ?_ | refine W_exit ?_); simp (maxSteps := 400000) (disch := omega) only [push_cast, ↓reduceIte, reduceCtorEq, Nat.reduceAdd, Nat.reduceSub, Nat.reduceEqDiff, Nat.reduceLeDiff, Nat.reduceLT, Nat.reduceBEq, Nat.reduceDiv, Nat.reduceMod, Nat.reducePow, Nat.reduceMul, Int.reduceToNat, Int.reduceLT, Int.reduceLE]) | refine And.intro (by omega) ?_ | refine And.intro (by intro hq; (try simp only [Bool.and_eq_true, Bool.or_eq_true, Bool.and_eq_false_iff, Bool.or_eq_false_iff, decide_eq_true_eq, decide_eq_false_iff_not, Bool.not_eq_true', Bool.not_eq_false', beq_iff_eq, beq_eq_false_iff_ne, ne_eq] at hq); omega) ?_ | fail)
  refine W_condD (by rfl) (fun h5 => ?_) (fun h5 => ?_)
  · have hlt : i < t.length := by omega
    have hsp : t.getD i dF = sf t i := rfl
    repeat' (first | refine WK_go ?_ | refine W_seqL ?_ | refine W_seq ?_ | refine W_block ?_ | ((first | refine W_regL ?_ | refine W_skip ?_ | refine W_exit ?_); simp (maxSteps := 400000) (disch := omega) only [push_cast, ↓reduceIte, reduceCtorEq, Nat.reduceAdd, Nat.reduceSub, Nat.reduceEqDiff, Nat.reduceLeDiff, Nat.reduceLT, Nat.reduceBEq, Nat.reduceDiv, Nat.reduceMod, Nat.reducePow, Nat.reduceMul, Int.reduceToNat, Int.reduceLT, Int.reduceLE, hsp]) | refine And.intro (by omega) ?_ | refine And.intro (by intro hq; (try simp only [Bool.and_eq_true, Bool.or_eq_true, Bool.and_eq_false_iff, Bool.or_eq_false_iff, decide_eq_true_eq, decide_eq_false_iff_not, Bool.not_eq_true', Bool.not_eq_false', beq_iff_eq, beq_eq_false_iff_ne, ne_eq] at hq); omega) ?_ | fail)
    refine W_loopU (fun j : Nat => [(17, iv j)]) (fun j => [(1, .cells (cE (wE (eff f t) k x (wJ (eff f t) t ks (wI (eff f t) t ks i) i j)))), (2, .cells [bv (wJ (eff f t) t ks (wI (eff f t) t ks i) i j).isNone])]) (fun j => j ≤ ks.length) (fun j => ks.length - j) 0 (by omega) (by rfl) (by rfl) (fun j hj => ?_)
    simp (maxSteps := 400000) (disch := omega) only [push_cast, ↓reduceIte, reduceCtorEq, Nat.reduceAdd, Nat.reduceSub, Nat.reduceEqDiff, Nat.reduceLeDiff, Nat.reduceLT, Nat.reduceBEq, Nat.reduceDiv, Nat.reduceMod, Nat.reducePow, Nat.reduceMul, Int.reduceToNat, Int.reduceLT, Int.reduceLE]
    repeat' (first | refine WK_go ?_ | refine W_seqL ?_ | refine W_seq ?_ | refine W_block ?_ | ((first | refine W_regL ?_ | refine W_skip ?_ | refine W_exit ?_); simp (maxSteps := 400000) (disch := omega) only [push_cast, ↓reduceIte, reduceCtorEq, Nat.reduceAdd, Nat.reduceSub, Nat.reduceEqDiff, Nat.reduceLeDiff, Nat.reduceLT, Nat.reduceBEq, Nat.reduceDiv, Nat.reduceMod, Nat.reducePow, Nat.reduceMul, Int.reduceToNat, Int.reduceLT, Int.reduceLE]) | refine And.intro (by omega) ?_ | refine And.intro (by intro hq; (try simp only [Bool.and_eq_true, Bool.or_eq_true, Bool.and_eq_false_iff, Bool.or_eq_false_iff, decide_eq_true_eq, decide_eq_false_iff_not, Bool.not_eq_true', Bool.not_eq_false', beq_iff_eq, beq_eq_false_iff_ne, ne_eq] at hq); omega) ?_ | fail)
    refine W_condD (by rfl) (fun h6 => ?_) (fun h6 => ?_)
    · have hjt : j < ks.length := by omega
      have hkj := hk j hjt
      have hgi : ∀ j, ks.getD j 0 = gi ks j := fun _ => rfl
      have hxi := hx i hlt
      obtain ⟨y, hy⟩ : ∃ y, y = gi ks j + (sf t i).x := ⟨_, rfl⟩
      have c53 := fn53 g ca ks f t y hg hfz hf ht (by omega)
      repeat' (first | refine WK_go ?_ | refine W_seqL ?_ | refine W_seq ?_ | refine W_block ?_ | ((first | refine W_regL ?_ | refine W_skip ?_ | refine W_exit ?_); simp (maxSteps := 400000) (disch := omega) only [push_cast, ↓reduceIte, reduceCtorEq, Nat.reduceAdd, Nat.reduceSub, Nat.reduceEqDiff, Nat.reduceLeDiff, Nat.reduceLT, Nat.reduceBEq, Nat.reduceDiv, Nat.reduceMod, Nat.reducePow, Nat.reduceMul, Int.reduceToNat, Int.reduceLT, Int.reduceLE, hgi, ← hy]) | refine And.intro (by omega) ?_ | refine And.intro (by intro hq; (try simp only [Bool.and_eq_true, Bool.or_eq_true, Bool.and_eq_false_iff, Bool.or_eq_false_iff, decide_eq_true_eq, decide_eq_false_iff_not, Bool.not_eq_true', Bool.not_eq_false', beq_iff_eq, beq_eq_false_iff_ne, ne_eq] at hq); omega) ?_ | fail)
      refine StopC.yld (fun hpc => ⟨trivial, Yl_of_W (k := 11) mixed hR2 rfl rfl rfl (fun vs3 => ?_)⟩) (fun hpc => absurd trivial hpc)
      simp (maxSteps := 400000) (disch := omega) only [push_cast, ↓reduceIte, reduceCtorEq, Nat.reduceAdd, Nat.reduceSub, Nat.reduceEqDiff, Nat.reduceLeDiff, Nat.reduceLT, Nat.reduceBEq, Nat.reduceDiv, Nat.reduceMod, Nat.reducePow, Nat.reduceMul, Int.reduceToNat, Int.reduceLT, Int.reduceLE]
      repeat' (first | refine WK_go ?_ | refine W_seqL ?_ | refine W_seq ?_ | refine W_block ?_ | ((first | refine W_regL ?_ | refine W_skip ?_ | refine W_exit ?_); simp (maxSteps := 400000) (disch := omega) only [push_cast, ↓reduceIte, reduceCtorEq, Nat.reduceAdd, Nat.reduceSub, Nat.reduceEqDiff, Nat.reduceLeDiff, Nat.reduceLT, Nat.reduceBEq, Nat.reduceDiv, Nat.reduceMod, Nat.reducePow, Nat.reduceMul, Int.reduceToNat, Int.reduceLT, Int.reduceLE]) | refine And.intro (by omega) ?_ | refine And.intro (by intro hq; (try simp only [Bool.and_eq_true, Bool.or_eq_true, Bool.and_eq_false_iff, Bool.or_eq_false_iff, decide_eq_true_eq, decide_eq_false_iff_not, Bool.not_eq_true', Bool.not_eq_false', beq_iff_eq, beq_eq_false_iff_ne, ne_eq] at hq); omega) ?_ | fail)
      refine ⟨_, rfl, ?_⟩
      simp (maxSteps := 400000) (disch := omega) only [push_cast, ↓reduceIte, reduceCtorEq, Nat.reduceAdd, Nat.reduceSub, Nat.reduceEqDiff, Nat.reduceLeDiff, Nat.reduceLT, Nat.reduceBEq, Nat.reduceDiv, Nat.reduceMod, Nat.reducePow, Nat.reduceMul, Int.reduceToNat, Int.reduceLT, Int.reduceLE]
      refine W_block (W_seq (W_regS 9 (by decide) (by decide) ?_))
      simp (maxSteps := 400000) (disch := omega) only [push_cast, ↓reduceIte, reduceCtorEq, Nat.reduceAdd, Nat.reduceSub, Nat.reduceEqDiff, Nat.reduceLeDiff, Nat.reduceLT, Nat.reduceBEq, Nat.reduceDiv, Nat.reduceMod, Nat.reducePow, Nat.reduceMul, Int.reduceToNat, Int.reduceLT, Int.reduceLE, hfz, iN, vN]
      repeat' (first | refine WK_go ?_ | refine W_seqL ?_ | refine W_seq ?_ | refine W_block ?_ | ((first | refine W_regL ?_ | refine W_skip ?_ | refine W_exit ?_ | refine CallC.now (c53) ?_); simp (maxSteps := 400000) (disch := omega) only [push_cast, ↓reduceIte, reduceCtorEq, Nat.reduceAdd, Nat.reduceSub, Nat.reduceEqDiff, Nat.reduceLeDiff, Nat.reduceLT, Nat.reduceBEq, Nat.reduceDiv, Nat.reduceMod, Nat.reducePow, Nat.reduceMul, Int.reduceToNat, Int.reduceLT, Int.reduceLE, hfz, iN, vN]) | refine And.intro (by omega) ?_ | refine And.intro (by intro hq; (try simp only [Bool.and_eq_true, Bool.or_eq_true, Bool.and_eq_false_iff, Bool.or_eq_false_iff, decide_eq_true_eq, decide_eq_false_iff_not, Bool.not_eq_true', Bool.not_eq_false', beq_iff_eq, beq_eq_false_iff_ne, ne_eq] at hq); omega) ?_ | fail)
      refine StopC.yld (fun hpc => ⟨trivial, Yl_of_W (k := 5) mixed hR rfl rfl rfl (fun vs4 => ?_)⟩) (fun hpc => absurd trivial hpc)
      simp (maxSteps := 400000) (disch := omega) only [push_cast, ↓reduceIte, reduceCtorEq, Nat.reduceAdd, Nat.reduceSub, Nat.reduceEqDiff, Nat.reduceLeDiff, Nat.reduceLT, Nat.reduceBEq, Nat.reduceDiv, Nat.reduceMod, Nat.reducePow, Nat.reduceMul, Int.reduceToNat, Int.reduceLT, Int.reduceLE]
      repeat' (first | refine WK_go ?_ | refine W_seqL ?_ | refine W_seq ?_ | refine W_block ?_ | ((first | refine W_regL ?_ | refine W_skip ?_ | refine W_exit ?_); simp (maxSteps := 400000) (disch := omega) only [push_cast, ↓reduceIte, reduceCtorEq, Nat.reduceAdd, Nat.reduceSub, Nat.reduceEqDiff, Nat.reduceLeDiff, Nat.reduceLT, Nat.reduceBEq, Nat.reduceDiv, Nat.reduceMod, Nat.reducePow, Nat.reduceMul, Int.reduceToNat, Int.reduceLT, Int.reduceLE]) | refine And.intro (by omega) ?_ | refine And.intro (by intro hq; (try simp only [Bool.and_eq_true, Bool.or_eq_true, Bool.and_eq_false_iff, Bool.or_eq_false_iff, decide_eq_true_eq, decide_eq_false_iff_not, Bool.not_eq_true', Bool.not_eq_false', beq_iff_eq, beq_eq_false_iff_ne, ne_eq] at hq); omega) ?_ | fail)
      refine ⟨_, rfl, ?_⟩
      obtain ⟨o, ho⟩ : ∃ o, o = wJ (eff f t) t ks (wI (eff f t) t ks i) i j := ⟨_, rfl⟩
      have hnx : wJ (eff f t) t ks (wI (eff f t) t ks i) i (j + 1) = wstep (eff f t) o y := by rw [ho, hy]; rfl
      rw [← ho]
      have c84 := fn84 (wE (eff f t) k x o) ⟨eff f t y, k, x, y⟩
      simp (maxSteps := 400000) (disch := omega) only [push_cast, ↓reduceIte, reduceCtorEq, Nat.reduceAdd, Nat.reduceSub, Nat.reduceEqDiff, Nat.reduceLeDiff, Nat.reduceLT, Nat.reduceBEq, Nat.reduceDiv, Nat.reduceMod, Nat.reducePow, Nat.reduceMul, Int.reduceToNat, Int.reduceLT, Int.reduceLE]
      repeat' (first | refine WK_go ?_ | refine W_seqL ?_ | refine W_seq ?_ | refine W_block ?_ | ((first | refine W_regL ?_ | refine W_skip ?_ | refine W_exit ?_ | refine CallC.go _ (fun _ => ⟨trivial, c84⟩) rfl ?_); simp (maxSteps := 400000) (disch := omega) only [push_cast, ↓reduceIte, reduceCtorEq, Nat.reduceAdd, Nat.reduceSub, Nat.reduceEqDiff, Nat.reduceLeDiff, Nat.reduceLT, Nat.reduceBEq, Nat.reduceDiv, Nat.reduceMod, Nat.reducePow, Nat.reduceMul, Int.reduceToNat, Int.reduceLT, Int.reduceLE]) | refine And.intro (by omega) ?_ | refine And.intro (by intro hq; (try simp only [Bool.and_eq_true, Bool.or_eq_true, Bool.and_eq_false_iff, Bool.or_eq_false_iff, decide_eq_true_eq, decide_eq_false_iff_not, Bool.not_eq_true', Bool.not_eq_false', beq_iff_eq, beq_eq_false_iff_ne, ne_eq] at hq); omega) ?_ | fail)
      refine W_cond (by rfl) (fun hb => ?_) (fun hb => ?_)
      · have hw : wstep (eff f t) o y = some y := by
          cases o with
          | none => rfl
          | some a =>
            have : lessE (wE (eff f t) k x (some a)) ⟨eff f t y, k, x, y⟩ = true := by simpa using hb
            unfold lessE wE at this
            simp only [Bool.or_eq_true, Bool.and_eq_true, decide_eq_true_eq] at this
            unfold wstep
            exact if_pos (by omega)
        repeat' (first | refine WK_go ?_ | refine W_seqL ?_ | refine W_seq ?_ | refine W_block ?_ | ((first | refine W_regL ?_ | refine W_skip ?_ | refine W_exit ?_); simp (maxSteps := 400000) (disch := omega) only [push_cast, ↓reduceIte, reduceCtorEq, Nat.reduceAdd, Nat.reduceSub, Nat.reduceEqDiff, Nat.reduceLeDiff, Nat.reduceLT, Nat.reduceBEq, Nat.reduceDiv, Nat.reduceMod, Nat.reducePow, Nat.reduceMul, Int.reduceToNat, Int.reduceLT, Int.reduceLE, dE]) | refine And.intro (by omega) ?_ | refine And.intro (by intro hq; (try simp only [Bool.and_eq_true, Bool.or_eq_true, Bool.and_eq_false_iff, Bool.or_eq_false_iff, decide_eq_true_eq, decide_eq_false_iff_not, Bool.not_eq_true', Bool.not_eq_false', beq_iff_eq, beq_eq_false_iff_ne, ne_eq] at hq); omega) ?_ | fail)
        refine ⟨_, _, rfl, rfl, ?_⟩
        simp (maxSteps := 400000) (disch := omega) only [push_cast, ↓reduceIte, reduceCtorEq, Nat.reduceAdd, Nat.reduceSub, Nat.reduceEqDiff, Nat.reduceLeDiff, Nat.reduceLT, Nat.reduceBEq, Nat.reduceDiv, Nat.reduceMod, Nat.reducePow, Nat.reduceMul, Int.reduceToNat, Int.reduceLT, Int.reduceLE]
        refine W_cond (by rfl) (fun h1 => by cases h1) (fun _ => ?_)
        repeat' (first | refine WK_go ?_ | refine W_seqL ?_ | refine W_seq ?_ | refine W_block ?_ | ((first | refine W_regL ?_ | refine W_skip ?_ | refine W_exit ?_); simp (maxSteps := 400000) (disch := omega) only [push_cast, ↓reduceIte, reduceCtorEq, Nat.reduceAdd, Nat.reduceSub, Nat.reduceEqDiff, Nat.reduceLeDiff, Nat.reduceLT, Nat.reduceBEq, Nat.reduceDiv, Nat.reduceMod, Nat.reducePow, Nat.reduceMul, Int.reduceToNat, Int.reduceLT, Int.reduceLE]) | refine And.intro (by omega) ?_ | refine And.intro (by intro hq; (try simp only [Bool.and_eq_true, Bool.or_eq_true, Bool.and_eq_false_iff, Bool.or_eq_false_iff, decide_eq_true_eq, decide_eq_false_iff_not, Bool.not_eq_true', Bool.not_eq_false', beq_iff_eq, beq_eq_false_iff_ne, ne_eq] at hq); omega) ?_ | fail)
        refine ⟨_, _, rfl, rfl, ?_⟩
        simp (maxSteps := 400000) (disch := omega) only [push_cast, ↓reduceIte, reduceCtorEq, Nat.reduceAdd, Nat.reduceSub, Nat.reduceEqDiff, Nat.reduceLeDiff, Nat.reduceLT, Nat.reduceBEq, Nat.reduceDiv, Nat.reduceMod, Nat.reducePow, Nat.reduceMul, Int.reduceToNat, Int.reduceLT, Int.reduceLE]
        refine W_cond (by rfl) (fun h1 => by cases h1) (fun _ => ?_)
        repeat' (first | refine WK_go ?_ | refine W_seqL ?_ | refine W_seq ?_ | refine W_block ?_ | ((first | refine W_regL ?_ | refine W_skip ?_ | refine W_exit ?_); simp (maxSteps := 400000) (disch := omega) only [push_cast, ↓reduceIte, reduceCtorEq, Nat.reduceAdd, Nat.reduceSub, Nat.reduceEqDiff, Nat.reduceLeDiff, Nat.reduceLT, Nat.reduceBEq, Nat.reduceDiv, Nat.reduceMod, Nat.reducePow, Nat.reduceMul, Int.reduceToNat, Int.reduceLT, Int.reduceLE]) | refine And.intro (by omega) ?_ | refine And.intro (by intro hq; (try simp only [Bool.and_eq_true, Bool.or_eq_true, Bool.and_eq_false_iff, Bool.or_eq_false_iff, decide_eq_true_eq, decide_eq_false_iff_not, Bool.not_eq_true', Bool.not_eq_false', beq_iff_eq, beq_eq_false_iff_ne, ne_eq] at hq); omega) ?_ | fail)
        refine ⟨j + 1, by omega, by omega, by rfl, ?_⟩
        rw [hnx, hw, cEwE]
        simp (maxSteps := 400000) (disch := omega) only [push_cast, ↓reduceIte, reduceCtorEq, Nat.reduceAdd, Nat.reduceSub, Nat.reduceEqDiff, Nat.reduceLeDiff, Nat.reduceLT, Nat.reduceBEq, Nat.reduceDiv, Nat.reduceMod, Nat.reducePow, Nat.reduceMul, Int.reduceToNat, Int.reduceLT, Int.reduceLE, S.mk.injEq, List.cons.injEq, Prod.mk.injEq, AV.v.injEq, Value.int.injEq, Value.bool.injEq, Blk.cells.injEq, Option.isNone_some]
      · have hw : wstep (eff f t) o y = o ∧ o.isNone = false := by
          cases o with
          | none => simp at hb
          | some a =>
            have : lessE (wE (eff f t) k x (some a)) ⟨eff f t y, k, x, y⟩ = false := by simpa using hb
            unfold lessE wE at this
            rw [← Bool.not_eq_true] at this
            simp only [Bool.or_eq_true, Bool.and_eq_true, decide_eq_true_eq] at this
            unfold wstep
            exact ⟨if_neg (by omega), rfl⟩
        repeat' (first | refine WK_go ?_ | refine W_seqL ?_ | refine W_seq ?_ | refine W_block ?_ | ((first | refine W_regL ?_ | refine W_skip ?_ | refine W_exit ?_); simp (maxSteps := 400000) (disch := omega) only [push_cast, ↓reduceIte, reduceCtorEq, Nat.reduceAdd, Nat.reduceSub, Nat.reduceEqDiff, Nat.reduceLeDiff, Nat.reduceLT, Nat.reduceBEq, Nat.reduceDiv, Nat.reduceMod, Nat.reducePow, Nat.reduceMul, Int.reduceToNat, Int.reduceLT, Int.reduceLE, dE]) | refine And.intro (by omega) ?_ | refine And.intro (by intro hq; (try simp only [Bool.and_eq_true, Bool.or_eq_true, Bool.and_eq_false_iff, Bool.or_eq_false_iff, decide_eq_true_eq, decide_eq_false_iff_not, Bool.not_eq_true', Bool.not_eq_false', beq_iff_eq, beq_eq_false_iff_ne, ne_eq] at hq); omega) ?_ | fail)
        refine ⟨_, _, rfl, rfl, ?_⟩
        simp (maxSteps := 400000) (disch := omega) only [push_cast, ↓reduceIte, reduceCtorEq, Nat.reduceAdd, Nat.reduceSub, Nat.reduceEqDiff, Nat.reduceLeDiff, Nat.reduceLT, Nat.reduceBEq, Nat.reduceDiv, Nat.reduceMod, Nat.reducePow, Nat.reduceMul, Int.reduceToNat, Int.reduceLT, Int.reduceLE]
        refine W_cond (by rfl) (fun h1 => by cases h1) (fun _ => ?_)
        repeat' (first | refine WK_go ?_ | refine W_seqL ?_ | refine W_seq ?_ | refine W_block ?_ | ((first | refine W_regL ?_ | refine W_skip ?_ | refine W_exit ?_); simp (maxSteps := 400000) (disch := omega) only [push_cast, ↓reduceIte, reduceCtorEq, Nat.reduceAdd, Nat.reduceSub, Nat.reduceEqDiff, Nat.reduceLeDiff, Nat.reduceLT, Nat.reduceBEq, Nat.reduceDiv, Nat.reduceMod, Nat.reducePow, Nat.reduceMul, Int.reduceToNat, Int.reduceLT, Int.reduceLE]) | refine And.intro (by omega) ?_ | refine And.intro (by intro hq; (try simp only [Bool.and_eq_true, Bool.or_eq_true, Bool.and_eq_false_iff, Bool.or_eq_false_iff, decide_eq_true_eq, decide_eq_false_iff_not, Bool.not_eq_true', Bool.not_eq_false', beq_iff_eq, beq_eq_false_iff_ne, ne_eq] at hq); omega) ?_ | fail)
        refine ⟨_, _, rfl, rfl, ?_⟩
        simp (maxSteps := 400000) (disch := omega) only [push_cast, ↓reduceIte, reduceCtorEq, Nat.reduceAdd, Nat.reduceSub, Nat.reduceEqDiff, Nat.reduceLeDiff, Nat.reduceLT, Nat.reduceBEq, Nat.reduceDiv, Nat.reduceMod, Nat.reducePow, Nat.reduceMul, Int.reduceToNat, Int.reduceLT, Int.reduceLE]
        refine W_cond (by rfl) (fun h1 => by cases h1) (fun _ => ?_)
        repeat' (first | refine WK_go ?_ | refine W_seqL ?_ | refine W_seq ?_ | refine W_block ?_ | ((first | refine W_regL ?_ | refine W_skip ?_ | refine W_exit ?_); simp (maxSteps := 400000) (disch := omega) only [push_cast, ↓reduceIte, reduceCtorEq, Nat.reduceAdd, Nat.reduceSub, Nat.reduceEqDiff, Nat.reduceLeDiff, Nat.reduceLT, Nat.reduceBEq, Nat.reduceDiv, Nat.reduceMod, Nat.reducePow, Nat.reduceMul, Int.reduceToNat, Int.reduceLT, Int.reduceLE]) | refine And.intro (by omega) ?_ | refine And.intro (by intro hq; (try simp only [Bool.and_eq_true, Bool.or_eq_true, Bool.and_eq_false_iff, Bool.or_eq_false_iff, decide_eq_true_eq, decide_eq_false_iff_not, Bool.not_eq_true', Bool.not_eq_false', beq_iff_eq, beq_eq_false_iff_ne, ne_eq] at hq); omega) ?_ | fail)
        refine ⟨j + 1, by omega, by omega, by rfl, ?_⟩
        rw [hnx, hw.1]
        simp (maxSteps := 400000) (disch := omega) only [push_cast, ↓reduceIte, reduceCtorEq, Nat.reduceAdd, Nat.reduceSub, Nat.reduceEqDiff, Nat.reduceLeDiff, Nat.reduceLT, Nat.reduceBEq, Nat.reduceDiv, Nat.reduceMod, Nat.reducePow, Nat.reduceMul, Int.reduceToNat, Int.reduceLT, Int.reduceLE, S.mk.injEq, List.cons.injEq, Prod.mk.injEq, AV.v.injEq, Value.int.injEq, Value.bool.injEq, Blk.cells.injEq]
    · have e : j = ks.length := by omega
      rw [e, show wJ (eff f t) t ks (wI (eff f t) t ks i) i ks.length = wI (eff f t) t ks (i + 1) from rfl]
      repeat' (first | refine WK_go ?_ | refine W_seqL ?_ | refine W_seq ?_ | refine W_block ?_ | ((first | refine W_regL ?_ | refine W_skip ?_ | refine W_exit ?_); simp (maxSteps := 400000) (disch := omega) only [push_cast, ↓reduceIte, reduceCtorEq, Nat.reduceAdd, Nat.reduceSub, Nat.reduceEqDiff, Nat.reduceLeDiff, Nat.reduceLT, Nat.reduceBEq, Nat.reduceDiv, Nat.reduceMod, Nat.reducePow, Nat.reduceMul, Int.reduceToNat, Int.reduceLT, Int.reduceLE]) | refine And.intro (by omega) ?_ | refine And.intro (by intro hq; (try simp only [Bool.and_eq_true, Bool.or_eq_true, Bool.and_eq_false_iff, Bool.or_eq_false_iff, decide_eq_true_eq, decide_eq_false_iff_not, Bool.not_eq_true', Bool.not_eq_false', beq_iff_eq, beq_eq_false_iff_ne, ne_eq] at hq); omega) ?_ | fail)
      refine ⟨i + 1, by omega, by omega, by rfl, ?_⟩
      simp (maxSteps := 400000) (disch := omega) only [push_cast, ↓reduceIte, reduceCtorEq, Nat.reduceAdd, Nat.reduceSub, Nat.reduceEqDiff, Nat.reduceLeDiff, Nat.reduceLT, Nat.reduceBEq, Nat.reduceDiv, Nat.reduceMod, Nat.reducePow, Nat.reduceMul, Int.reduceToNat, Int.reduceLT, Int.reduceLE, S.mk.injEq, List.cons.injEq, Prod.mk.injEq, AV.v.injEq, Value.int.injEq, Value.bool.injEq, Blk.cells.injEq]
  · have e : i = t.length := by omega
    rw [e, show wI (eff f t) t ks t.length = wst (eff f t) t ks from rfl]
    repeat' (first | refine WK_go ?_ | refine W_seqL ?_ | refine W_seq ?_ | refine W_block ?_ | ((first | refine W_regL ?_ | refine W_skip ?_ | refine W_exit ?_); simp (maxSteps := 400000) (disch := omega) only [push_cast, ↓reduceIte, reduceCtorEq, Nat.reduceAdd, Nat.reduceSub, Nat.reduceEqDiff, Nat.reduceLeDiff, Nat.reduceLT, Nat.reduceBEq, Nat.reduceDiv, Nat.reduceMod, Nat.reducePow, Nat.reduceMul, Int.reduceToNat, Int.reduceLT, Int.reduceLE]) | refine And.intro (by omega) ?_ | refine And.intro (by intro hq; (try simp only [Bool.and_eq_true, Bool.or_eq_true, Bool.and_eq_false_iff, Bool.or_eq_false_iff, decide_eq_true_eq, decide_eq_false_iff_not, Bool.not_eq_true', Bool.not_eq_false', beq_iff_eq, beq_eq_false_iff_ne, ne_eq] at hq); omega) ?_ | fail)
    refine ⟨_, _, rfl, rfl, ⟨_, _, rfl, by rw [hR2.st]; simp, ?_⟩⟩
    rw [hR2.pe]
    simp (maxSteps := 400000) (disch := omega) only [push_cast, ↓reduceIte, reduceCtorEq, Nat.reduceAdd, Nat.reduceSub, Nat.reduceEqDiff, Nat.reduceLeDiff, Nat.reduceLT, Nat.reduceBEq, Nat.reduceDiv, Nat.reduceMod, Nat.reducePow, Nat.reduceMul, Int.reduceToNat, Int.reduceLT, Int.reduceLE, EndP]
    repeat' (first | refine WK_go ?_ | refine W_seqL ?_ | refine W_seq ?_ | refine W_block ?_ | ((first | refine W_regL ?_ | refine W_skip ?_ | refine W_exit ?_); simp (maxSteps := 400000) (disch := omega) only [push_cast, ↓reduceIte, reduceCtorEq, Nat.reduceAdd, Nat.reduceSub, Nat.reduceEqDiff, Nat.reduceLeDiff, Nat.reduceLT, Nat.reduceBEq, Nat.reduceDiv, Nat.reduceMod, Nat.reducePow, Nat.reduceMul, Int.reduceToNat, Int.reduceLT, Int.reduceLE]) | refine And.intro (by omega) ?_ | refine And.intro (by intro hq; (try simp only [Bool.and_eq_true, Bool.or_eq_true, Bool.and_eq_false_iff, Bool.or_eq_false_iff, decide_eq_true_eq, decide_eq_false_iff_not, Bool.not_eq_true', Bool.not_eq_false', beq_iff_eq, beq_eq_false_iff_ne, ne_eq] at hq); omega) ?_ | fail)
    refine ⟨_, _, rfl, rfl, ⟨_, _, rfl, by rw [hR.st]; simp, ?_⟩⟩
    rw [hR.pe]
    simp (maxSteps := 400000) (disch := omega) only [push_cast, ↓reduceIte, reduceCtorEq, Nat.reduceAdd, Nat.reduceSub, Nat.reduceEqDiff, Nat.reduceLeDiff, Nat.reduceLT, Nat.reduceBEq, Nat.reduceDiv, Nat.reduceMod, Nat.reducePow, Nat.reduceMul, Int.reduceToNat, Int.reduceLT, Int.reduceLE, EndP]
    repeat' (first | refine WK_go ?_ | refine W_seqL ?_ | refine W_seq ?_ | refine W_block ?_ | ((first | refine W_regL ?_ | refine W_skip ?_ | refine W_exit ?_); simp (maxSteps := 400000) (disch := omega) only [push_cast, ↓reduceIte, reduceCtorEq, Nat.reduceAdd, Nat.reduceSub, Nat.reduceEqDiff, Nat.reduceLeDiff, Nat.reduceLT, Nat.reduceBEq, Nat.reduceDiv, Nat.reduceMod, Nat.reducePow, Nat.reduceMul, Int.reduceToNat, Int.reduceLT, Int.reduceLE, dE]) | refine And.intro (by omega) ?_ | refine And.intro (by intro hq; (try simp only [Bool.and_eq_true, Bool.or_eq_true, Bool.and_eq_false_iff, Bool.or_eq_false_iff, decide_eq_true_eq, decide_eq_false_iff_not, Bool.not_eq_true', Bool.not_eq_false', beq_iff_eq, beq_eq_false_iff_ne, ne_eq] at hq); omega) ?_ | fail)
    exact W_ret ⟨[_], ⟨⟨by simp [cE], rfl⟩, rfl⟩, rfl⟩
/-- the worst effect -/
theorem fn50 (g : Nat) (ca : List AV) (ks : List Int) (f : Int → Int) (t : List Frc) (k x : Int) (hg : ∀ a, -1073741824 ≤ a → a ≤ 1073741824 → Sy.Fn Try.prog g (iv a :: ca) (iv (f a))) (hfz : frzAll (cN g ca ks) = true)
    (hf : ∀ a, 0 ≤ f a ∧ f a ≤ 17179869184) (ht : chkT t = 0) (hk : ∀ j, j < ks.length → 0 ≤ gi ks j ∧ gi ks j ≤ 1048576) (hkl : ks.length ≤ 10) :
    Sy.Fn Try.prog 50 [.agg (cN g ca ks), aT t, iv k, iv x] (.agg (cE (wE (eff f t) k x (wst (eff f t) t ks)))) := by
  refine Fn_of_W mixed Xt50 rfl ?_
  have c70 := best82 g ca ks f t k x hg hfz hf ht hk hkl
  have vN : ∀ m n, List.map (view m n) (cN g ca ks) = cN g ca ks := fun m n => viewL_frz n _ hfz
  repeat' (first | refine WK_go ?_ | refine W_seqL ?_ | refine W_seq ?_ | refine W_block ?_ | ((first | refine W_regL ?_ | refine W_skip ?_ | refine W_exit ?_ | refine CallC.now (c70) ?_); simp (maxSteps := 400000) (disch := omega) only [push_cast, ↓reduceIte, reduceCtorEq, Nat.reduceAdd, Nat.reduceSub, Nat.reduceEqDiff, Nat.reduceLeDiff, Nat.reduceLT, Nat.reduceBEq, Nat.reduceDiv, Nat.reduceMod, Nat.reducePow, Nat.reduceMul, Int.reduceToNat, Int.reduceLT, Int.reduceLE, hfz, vN]) | refine And.intro (by omega) ?_ | refine And.intro (by intro hq; (try simp only [Bool.and_eq_true, Bool.or_eq_true, Bool.and_eq_false_iff, Bool.or_eq_false_iff, decide_eq_true_eq, decide_eq_false_iff_not, Bool.not_eq_true', Bool.not_eq_false', beq_iff_eq, beq_eq_false_iff_ne, ne_eq] at hq); omega) ?_ | fail)
  exact W_ret ⟨[_], ⟨⟨by simp [cE], rfl⟩, rfl⟩, rfl⟩
end Go.Proofs.Ytbdnnicodailcaa

/- Effects at a place, the worst ones: what is exported. -/
namespace Go.Proofs.Ytbdnnicodailcaa
open Go Sy
set_option maxRecDepth 100000
set_option maxHeartbeats 4000000
set_option linter.unusedVariables false
set_option linter.unusedSimpArgs false
structure OkL (b : Brg) (t : List Frc) : Prop where
  sp : b.sp.length ≤ 140737488355328
  mo : b.mo.length ≤ 140737488355328
  sh : b.sh.length ≤ 140737488355328
  t : t.length ≤ 140737488355328
def bothE (b : Brg) (t : List Frc) : Int := orF [chkB b, chkT t]
theorem bothE_ok {b : Brg} {t : List Frc} (h : bothE b t = 0) : chkB b = 0 ∧ chkT t = 0 := by
  unfold bothE at h
  simp only [orF] at h
  by_cases q : chkB b ≠ 0
  · rw [if_pos q] at h; exact absurd h q
  · rw [if_neg q] at h
    by_cases q2 : chkT t ≠ 0
    · rw [if_pos q2] at h; exact absurd h q2
    · exact ⟨by omega, by omega⟩
theorem fn65 (b : Brg) (t : List Frc) (h : OkL b t) : Sy.Fn Try.prog 65 [.agg (cB b), aT t] (iv (bothE b t)) := by
  refine Fn_of_W mixed Xt65 rfl ?_
  have c29 := fn29 b h.sp h.mo h.sh
  have c30 := fn30 t h.t
  have c88 := fn88 [chkB b, chkT t] (Nat.le_of_ble_eq_true rfl)
  repeat' (first | refine WK_go ?_ | refine W_seqL ?_ | refine W_seq ?_ | refine W_block ?_ | ((first | refine W_regL ?_ | refine W_skip ?_ | refine W_exit ?_ | refine CallC.now (c29) ?_ | refine CallC.now (c30) ?_); simp (maxSteps := 400000) (disch := omega) only [push_cast, ↓reduceIte, reduceCtorEq, Nat.reduceAdd, Nat.reduceSub, Nat.reduceEqDiff, Nat.reduceLeDiff, Nat.reduceLT, Nat.reduceBEq, Nat.reduceDiv, Nat.reduceMod, Nat.reducePow, Nat.reduceMul, Int.reduceToNat, Int.reduceLT, Int.reduceLE]) | refine And.intro (by omega) ?_ | refine And.intro (by intro hq; (try simp only [Bool.and_eq_true, Bool.or_eq_true, Bool.and_eq_false_iff, Bool.or_eq_false_iff, decide_eq_true_eq, decide_eq_false_iff_not, Bool.not_eq_true', Bool.not_eq_false', beq_iff_eq, beq_eq_false_iff_ne, ne_eq] at hq); omega) ?_ | fail)
  refine ⟨rfl, trivial, Int, 0, cI, [chkB b, chkT t], rfl, by omega, fun x _ => ⟨rfl, rfl⟩, rfl, ?_⟩
  simp (maxSteps := 400000) (disch := omega) only [push_cast, ↓reduceIte, reduceCtorEq, Nat.reduceAdd, Nat.reduceSub, Nat.reduceEqDiff, Nat.reduceLeDiff, Nat.reduceLT, Nat.reduceBEq, Nat.reduceDiv, Nat.reduceMod, Nat.reducePow, Nat.reduceMul, Int.reduceToNat, Int.reduceLT, Int.reduceLE]
  repeat' (first | refine WK_go ?_ | refine W_seqL ?_ | refine W_seq ?_ | refine W_block ?_ | ((first | refine W_regL ?_ | refine W_skip ?_ | refine W_exit ?_ | refine CallC.go _ (fun _ => ⟨trivial, c88⟩) rfl ?_); simp (maxSteps := 400000) (disch := omega) only [push_cast, ↓reduceIte, reduceCtorEq, Nat.reduceAdd, Nat.reduceSub, Nat.reduceEqDiff, Nat.reduceLeDiff, Nat.reduceLT, Nat.reduceBEq, Nat.reduceDiv, Nat.reduceMod, Nat.reducePow, Nat.reduceMul, Int.reduceToNat, Int.reduceLT, Int.reduceLE]) | refine And.intro (by omega) ?_ | refine And.intro (by intro hq; (try simp only [Bool.and_eq_true, Bool.or_eq_true, Bool.and_eq_false_iff, Bool.or_eq_false_iff, decide_eq_true_eq, decide_eq_false_iff_not, Bool.not_eq_true', Bool.not_eq_false', beq_iff_eq, beq_eq_false_iff_ne, ne_eq] at hq); omega) ?_ | fail)
  exact W_ret ⟨[_], ⟨rfl, rfl⟩, rfl⟩
def spanE (b : Brg) (t : List Frc) (k : Int) : Int := if bothE b t ≠ 0 then bothE b t else if k < 0 ∨ (b.sp.length : Int) ≤ k then 5 else 0
theorem spanE_ok {b : Brg} {t : List Frc} {k : Int} (h : spanE b t k = 0) : chkB b = 0 ∧ chkT t = 0 ∧ 0 ≤ k ∧ k < b.sp.length := by
  unfold spanE at h
  by_cases q : bothE b t ≠ 0
  · rw [if_pos q] at h; exact absurd h q
  · rw [if_neg q] at h
    have := bothE_ok (b := b) (t := t) (by omega)
    split at h
    · omega
    · exact ⟨this.1, this.2, by omega, by omega⟩
theorem fn47 (b : Brg) (t : List Frc) (k : Int) (h : OkL b t) : Sy.Fn Try.prog 47 [.agg (cB b), aT t, iv k] (iv (spanE b t k)) := by
  refine Fn_of_W mixed Xt47 rfl ?_
  have c65 := fn65 b t h
  have hsp := h.sp
  unfold spanE
  repeat' (first | refine WK_go ?_ | refine W_seqL ?_ | refine W_seq ?_ | refine W_block ?_ | ((first | refine W_regL ?_ | refine W_skip ?_ | refine W_exit ?_ | refine CallC.now (c65) ?_); simp (maxSteps := 400000) (disch := omega) only [push_cast, ↓reduceIte, reduceCtorEq, Nat.reduceAdd, Nat.reduceSub, Nat.reduceEqDiff, Nat.reduceLeDiff, Nat.reduceLT, Nat.reduceBEq, Nat.reduceDiv, Nat.reduceMod, Nat.reducePow, Nat.reduceMul, Int.reduceToNat, Int.reduceLT, Int.reduceLE]) | refine And.intro (by omega) ?_ | refine And.intro (by intro hq; (try simp only [Bool.and_eq_true, Bool.or_eq_true, Bool.and_eq_false_iff, Bool.or_eq_false_iff, decide_eq_true_eq, decide_eq_false_iff_not, Bool.not_eq_true', Bool.not_eq_false', beq_iff_eq, beq_eq_false_iff_ne, ne_eq] at hq); omega) ?_ | fail)
  refine W_cond (by rfl) (fun q => ?_) (fun q => ?_)
  · rw [if_pos (by simpa using q)]
    repeat' (first | refine WK_go ?_ | refine W_seqL ?_ | refine W_seq ?_ | refine W_block ?_ | ((first | refine W_regL ?_ | refine W_skip ?_ | refine W_exit ?_); simp (maxSteps := 400000) (disch := omega) only [push_cast, ↓reduceIte, reduceCtorEq, Nat.reduceAdd, Nat.reduceSub, Nat.reduceEqDiff, Nat.reduceLeDiff, Nat.reduceLT, Nat.reduceBEq, Nat.reduceDiv, Nat.reduceMod, Nat.reducePow, Nat.reduceMul, Int.reduceToNat, Int.reduceLT, Int.reduceLE]) | refine And.intro (by omega) ?_ | refine And.intro (by intro hq; (try simp only [Bool.and_eq_true, Bool.or_eq_true, Bool.and_eq_false_iff, Bool.or_eq_false_iff, decide_eq_true_eq, decide_eq_false_iff_not, Bool.not_eq_true', Bool.not_eq_false', beq_iff_eq, beq_eq_false_iff_ne, ne_eq] at hq); omega) ?_ | fail)
    exact W_ret ⟨[_], ⟨rfl, rfl⟩, rfl⟩
  rw [if_neg (by simpa using q)]
  repeat' (first | refine WK_go ?_ | refine W_seqL ?_ | refine W_seq ?_ | refine W_block ?_ | ((first | refine W_regL ?_ | refine W_skip ?_ | refine W_exit ?_); simp (maxSteps := 400000) (disch := omega) only [push_cast, ↓reduceIte, reduceCtorEq, Nat.reduceAdd, Nat.reduceSub, Nat.reduceEqDiff, Nat.reduceLeDiff, Nat.reduceLT, Nat.reduceBEq, Nat.reduceDiv, Nat.reduceMod, Nat.reducePow, Nat.reduceMul, Int.reduceToNat, Int.reduceLT, Int.reduceLE]) | refine And.intro (by omega) ?_ | refine And.intro (by intro hq; (try simp only [Bool.and_eq_true, Bool.or_eq_true, Bool.and_eq_false_iff, Bool.or_eq_false_iff, decide_eq_true_eq, decide_eq_false_iff_not, Bool.not_eq_true', Bool.not_eq_false', beq_iff_eq, beq_eq_false_iff_ne, ne_eq] at hq); omega) ?_ | fail)
  refine W_cond (by rfl) (fun q => ?_) (fun q => ?_)
  · rw [if_pos (by simpa only [Bool.or_eq_true, decide_eq_true_eq] using q)]
    repeat' (first | refine WK_go ?_ | refine W_seqL ?_ | refine W_seq ?_ | refine W_block ?_ | ((first | refine W_regL ?_ | refine W_skip ?_ | refine W_exit ?_); simp (maxSteps := 400000) (disch := omega) only [push_cast, ↓reduceIte, reduceCtorEq, Nat.reduceAdd, Nat.reduceSub, Nat.reduceEqDiff, Nat.reduceLeDiff, Nat.reduceLT, Nat.reduceBEq, Nat.reduceDiv, Nat.reduceMod, Nat.reducePow, Nat.reduceMul, Int.reduceToNat, Int.reduceLT, Int.reduceLE]) | refine And.intro (by omega) ?_ | refine And.intro (by intro hq; (try simp only [Bool.and_eq_true, Bool.or_eq_true, Bool.and_eq_false_iff, Bool.or_eq_false_iff, decide_eq_true_eq, decide_eq_false_iff_not, Bool.not_eq_true', Bool.not_eq_false', beq_iff_eq, beq_eq_false_iff_ne, ne_eq] at hq); omega) ?_ | fail)
    exact W_ret ⟨[_], ⟨rfl, rfl⟩, rfl⟩
  · rw [if_neg (by simp only [Bool.or_eq_false_iff, decide_eq_false_iff_not] at q; omega)]
    repeat' (first | refine WK_go ?_ | refine W_seqL ?_ | refine W_seq ?_ | refine W_block ?_ | ((first | refine W_regL ?_ | refine W_skip ?_ | refine W_exit ?_); simp (maxSteps := 400000) (disch := omega) only [push_cast, ↓reduceIte, reduceCtorEq, Nat.reduceAdd, Nat.reduceSub, Nat.reduceEqDiff, Nat.reduceLeDiff, Nat.reduceLT, Nat.reduceBEq, Nat.reduceDiv, Nat.reduceMod, Nat.reducePow, Nat.reduceMul, Int.reduceToNat, Int.reduceLT, Int.reduceLE]) | refine And.intro (by omega) ?_ | refine And.intro (by intro hq; (try simp only [Bool.and_eq_true, Bool.or_eq_true, Bool.and_eq_false_iff, Bool.or_eq_false_iff, decide_eq_true_eq, decide_eq_false_iff_not, Bool.not_eq_true', Bool.not_eq_false', beq_iff_eq, beq_eq_false_iff_ne, ne_eq] at hq); omega) ?_ | fail)
    exact W_ret ⟨[_], ⟨rfl, rfl⟩, rfl⟩
abbrev frm (b : Brg) (k : Int) : Int := stB b.sp k.toNat
abbrev lng (b : Brg) (k : Int) : Int := gi b.sp k.toNat
def fM (b : Brg) (k x : Int) : Int → Int := fun a => momF (lng b k) x (a - frm b k)
def fE (b : Brg) (k : Int) (r : Bool) : Int → Int := fun a => endF (lng b k) r (a - frm b k)
def kM (b : Brg) (k x : Int) : List Int := [frm b k, frm b k + x, frm b k + lng b k]
def kE (b : Brg) (k : Int) : List Int := [frm b k, frm b k + lng b k]
theorem geo {b : Brg} {k : Int} (hc : chkB b = 0) (hk : 0 ≤ k ∧ k < b.sp.length) : (0 ≤ frm b k ∧ frm b k ≤ 786432) ∧ 100 ≤ lng b k ∧ lng b k ≤ 131072 := by
  obtain ⟨hn, hm, hs, hd, hi⟩ := chkB_ok hc
  have hr := stB_rng (fun i h => ⟨by have := (hi i h).1; omega, by have := (hi i h).1; omega⟩) k.toNat (by omega)
  have hl := (hi k.toNat (by omega)).1
  unfold frm lng
  exact ⟨by omega, hl⟩
theorem c49 (b : Brg) (k x : Int) (hc : chkB b = 0) (hk : 0 ≤ k ∧ k < b.sp.length) (hx : 0 ≤ x ∧ x ≤ lng b k) : Sy.Fn Try.prog 49 [.agg (cB b), iv k, iv x] (.agg (cN 81 (caM (frm b k) (lng b k) x) (kM b k x))) := by
  have := fn49 b k.toNat x hc (by omega) hx
  rwa [show ((k.toNat : Nat) : Int) = k by omega] at this
theorem c51 (b : Brg) (k : Int) (r : Bool) (hc : chkB b = 0) (hk : 0 ≤ k ∧ k < b.sp.length) : Sy.Fn Try.prog 51 [.agg (cB b), iv k, bv r] (.agg (cN 86 (caE (frm b k) (lng b k) r) (kE b k))) := by
  have := fn51 b k.toNat r hc (by omega)
  rwa [show ((k.toNat : Nat) : Int) = k by omega] at this
theorem c54 (b : Brg) (k : Int) (hc : chkB b = 0) (hk : 0 ≤ k ∧ k < b.sp.length) : Sy.Fn Try.prog 54 [.agg (cB b), iv k] (iv (frm b k)) := by
  have := fn54 b k.toNat hc (by omega)
  rwa [show ((k.toNat : Nat) : Int) = k by omega] at this
theorem c81 (b : Brg) (k x : Int) (hc : chkB b = 0) (hk : 0 ≤ k ∧ k < b.sp.length) (hx : 0 ≤ x ∧ x ≤ lng b k) (a : Int) (h1 : -1073741824 ≤ a) (h2 : a ≤ 1073741824) : Sy.Fn Try.prog 81 (iv a :: caM (frm b k) (lng b k) x) (iv (fM b k x a)) := by
  have g := geo hc hk
  exact fn81 (frm b k) (lng b k) x a (by omega) hx (by omega) ⟨h1, h2⟩
theorem c86 (b : Brg) (k : Int) (r : Bool) (hc : chkB b = 0) (hk : 0 ≤ k ∧ k < b.sp.length) (a : Int) (h1 : -1073741824 ≤ a) (h2 : a ≤ 1073741824) : Sy.Fn Try.prog 86 (iv a :: caE (frm b k) (lng b k) r) (iv (fE b k r a)) := by
  have g := geo hc hk
  exact fn86 (frm b k) (lng b k) r a (by omega) (by omega) ⟨h1, h2⟩
theorem fM_rng {b : Brg} {k x : Int} (hc : chkB b = 0) (hk : 0 ≤ k ∧ k < b.sp.length) (hx : 0 ≤ x ∧ x ≤ lng b k) (a : Int) : 0 ≤ fM b k x a ∧ fM b k x a ≤ 17179869184 := momF_rng hx (geo hc hk).2.2
theorem fE_rng {b : Brg} {k : Int} {r : Bool} (hc : chkB b = 0) (hk : 0 ≤ k ∧ k < b.sp.length) (a : Int) : 0 ≤ fE b k r a ∧ fE b k r a ≤ 17179869184 := endF_rng ⟨by have := geo hc hk; omega, (geo hc hk).2.2⟩
theorem kM_rng {b : Brg} {k x : Int} (hc : chkB b = 0) (hk : 0 ≤ k ∧ k < b.sp.length) (hx : 0 ≤ x ∧ x ≤ lng b k) : ∀ j, j < (kM b k x).length → 0 ≤ gi (kM b k x) j ∧ gi (kM b k x) j ≤ 1048576 := fun j hj => by
  have g := geo hc hk
  rcases j with _ | _ | _ | j
  · show 0 ≤ frm b k ∧ frm b k ≤ 1048576; omega
  · show 0 ≤ frm b k + x ∧ frm b k + x ≤ 1048576; omega
  · show 0 ≤ frm b k + lng b k ∧ frm b k + lng b k ≤ 1048576; omega
  · exfalso; simp [kM] at hj; omega
theorem kE_rng {b : Brg} {k : Int} (hc : chkB b = 0) (hk : 0 ≤ k ∧ k < b.sp.length) : ∀ j, j < (kE b k).length → 0 ≤ gi (kE b k) j ∧ gi (kE b k) j ≤ 1048576 := fun j hj => by
  have g := geo hc hk
  rcases j with _ | _ | j
  · show 0 ≤ frm b k ∧ frm b k ≤ 1048576; omega
  · show 0 ≤ frm b k + lng b k ∧ frm b k + lng b k ≤ 1048576; omega
  · exfalso; simp [kE] at hj; omega
/-- the worst moment, the worst end -/
def wM (b : Brg) (t : List Frc) (k x : Int) : Eff := wE (eff (fM b k x) t) k x (wst (eff (fM b k x) t) t (kM b k x))
def wEn (b : Brg) (t : List Frc) (k : Int) (r : Bool) (pt : Int) : Eff := wE (eff (fE b k r) t) k pt (wst (eff (fE b k r) t) t (kE b k))
theorem c50M (b : Brg) (t : List Frc) (k x : Int) (hc : chkB b = 0) (ht : chkT t = 0) (hk : 0 ≤ k ∧ k < b.sp.length) (hx : 0 ≤ x ∧ x ≤ lng b k) : Sy.Fn Try.prog 50 [.agg (cN 81 (caM (frm b k) (lng b k) x) (kM b k x)), aT t, iv k, iv x] (.agg (cE (wM b t k x))) :=
  fn50 81 _ _ (fM b k x) t k x (c81 b k x hc hk hx) rfl (fM_rng hc hk hx) ht (kM_rng hc hk hx) (Nat.le_of_ble_eq_true rfl)
theorem c50E (b : Brg) (t : List Frc) (k : Int) (r : Bool) (pt : Int) (hc : chkB b = 0) (ht : chkT t = 0) (hk : 0 ≤ k ∧ k < b.sp.length) : Sy.Fn Try.prog 50 [.agg (cN 86 (caE (frm b k) (lng b k) r) (kE b k)), aT t, iv k, iv pt] (.agg (cE (wEn b t k r pt))) :=
  fn50 86 _ _ (fE b k r) t k pt (c86 b k r hc hk) rfl (fE_rng hc hk) ht (kE_rng hc hk) (Nat.le_of_ble_eq_true rfl)
def wmE (b : Brg) (t : List Frc) (k x : Int) : Int := if spanE b t k ≠ 0 then spanE b t k else if inR x 0 (lng b k) = false then 3 else 0
def zE : Eff := ⟨0, 0, 0, 0⟩
def wmV (b : Brg) (t : List Frc) (k x : Int) : Eff := if wmE b t k x = 0 then wM b t k x else zE
theorem fn14 (b : Brg) (t : List Frc) (k x : Int) (h : OkL b t) : Sy.Fn Try.prog 14 [.agg (cB b), aT t, iv k, iv x] (.tup [.agg (cE (wmV b t k x)), iv (wmE b t k x)]) := by
  refine Fn_of_W mixed Xt14 rfl ?_
  have c47 := fn47 b t k h
  repeat' (first | refine WK_go ?_ | refine W_seqL ?_ | refine W_seq ?_ | refine W_block ?_ | ((first | refine W_regL ?_ | refine W_skip ?_ | refine W_exit ?_ | refine CallC.now (c47) ?_); simp (maxSteps := 400000) (disch := omega) only [push_cast, ↓reduceIte, reduceCtorEq, Nat.reduceAdd, Nat.reduceSub, Nat.reduceEqDiff, Nat.reduceLeDiff, Nat.reduceLT, Nat.reduceBEq, Nat.reduceDiv, Nat.reduceMod, Nat.reducePow, Nat.reduceMul, Int.reduceToNat, Int.reduceLT, Int.reduceLE]) | refine And.intro (by omega) ?_ | refine And.intro (by intro hq; (try simp only [Bool.and_eq_true, Bool.or_eq_true, Bool.and_eq_false_iff, Bool.or_eq_false_iff, decide_eq_true_eq, decide_eq_false_iff_not, Bool.not_eq_true', Bool.not_eq_false', beq_iff_eq, beq_eq_false_iff_ne, ne_eq] at hq); omega) ?_ | fail)
  refine W_cond (by rfl) (fun q => ?_) (fun q => ?_)
  · have q' : spanE b t k ≠ 0 := by simpa using q
    have e : wmE b t k x = spanE b t k := by unfold wmE; rw [if_pos q']
    have e2 : wmV b t k x = zE := by unfold wmV; rw [e, if_neg q']
    rw [e, e2]
    repeat' (first | refine WK_go ?_ | refine W_seqL ?_ | refine W_seq ?_ | refine W_block ?_ | ((first | refine W_regL ?_ | refine W_skip ?_ | refine W_exit ?_); simp (maxSteps := 400000) (disch := omega) only [push_cast, ↓reduceIte, reduceCtorEq, Nat.reduceAdd, Nat.reduceSub, Nat.reduceEqDiff, Nat.reduceLeDiff, Nat.reduceLT, Nat.reduceBEq, Nat.reduceDiv, Nat.reduceMod, Nat.reducePow, Nat.reduceMul, Int.reduceToNat, Int.reduceLT, Int.reduceLE]) | refine And.intro (by omega) ?_ | refine And.intro (by intro hq; (try simp only [Bool.and_eq_true, Bool.or_eq_true, Bool.and_eq_false_iff, Bool.or_eq_false_iff, decide_eq_true_eq, decide_eq_false_iff_not, Bool.not_eq_true', Bool.not_eq_false', beq_iff_eq, beq_eq_false_iff_ne, ne_eq] at hq); omega) ?_ | fail)
    exact W_ret ⟨[_, _], ⟨⟨by simp, rfl⟩, rfl, rfl⟩, rfl⟩
  have q' : spanE b t k = 0 := by simpa using q
  obtain ⟨hc, ht, hk⟩ := spanE_ok q'
  have e0 : wmE b t k x = if inR x 0 (lng b k) = false then 3 else 0 := by unfold wmE; rw [if_neg (by omega)]
  have hgi : b.sp.getD k.toNat 0 = lng b k := rfl
  repeat' (first | refine WK_go ?_ | refine W_seqL ?_ | refine W_seq ?_ | refine W_block ?_ | ((first | refine W_regL ?_ | refine W_skip ?_ | refine W_exit ?_ | refine CallC.now (fn48 _ _ _) ?_); simp (maxSteps := 400000) (disch := omega) only [push_cast, ↓reduceIte, reduceCtorEq, Nat.reduceAdd, Nat.reduceSub, Nat.reduceEqDiff, Nat.reduceLeDiff, Nat.reduceLT, Nat.reduceBEq, Nat.reduceDiv, Nat.reduceMod, Nat.reducePow, Nat.reduceMul, Int.reduceToNat, Int.reduceLT, Int.reduceLE, hgi]) | refine And.intro (by omega) ?_ | refine And.intro (by intro hq; (try simp only [Bool.and_eq_true, Bool.or_eq_true, Bool.and_eq_false_iff, Bool.or_eq_false_iff, decide_eq_true_eq, decide_eq_false_iff_not, Bool.not_eq_true', Bool.not_eq_false', beq_iff_eq, beq_eq_false_iff_ne, ne_eq] at hq); omega) ?_ | fail)
  refine W_cond (by rfl) (fun q => ?_) (fun q => ?_)
  · have e : wmE b t k x = 3 := by rw [e0, if_pos (by simpa using q)]
    have e2 : wmV b t k x = zE := by unfold wmV; rw [e]; rfl
    rw [e, e2]
    repeat' (first | refine WK_go ?_ | refine W_seqL ?_ | refine W_seq ?_ | refine W_block ?_ | ((first | refine W_regL ?_ | refine W_skip ?_ | refine W_exit ?_); simp (maxSteps := 400000) (disch := omega) only [push_cast, ↓reduceIte, reduceCtorEq, Nat.reduceAdd, Nat.reduceSub, Nat.reduceEqDiff, Nat.reduceLeDiff, Nat.reduceLT, Nat.reduceBEq, Nat.reduceDiv, Nat.reduceMod, Nat.reducePow, Nat.reduceMul, Int.reduceToNat, Int.reduceLT, Int.reduceLE]) | refine And.intro (by omega) ?_ | refine And.intro (by intro hq; (try simp only [Bool.and_eq_true, Bool.or_eq_true, Bool.and_eq_false_iff, Bool.or_eq_false_iff, decide_eq_true_eq, decide_eq_false_iff_not, Bool.not_eq_true', Bool.not_eq_false', beq_iff_eq, beq_eq_false_iff_ne, ne_eq] at hq); omega) ?_ | fail)
    exact W_ret ⟨[_, _], ⟨⟨by simp, rfl⟩, rfl, rfl⟩, rfl⟩
  have e : wmE b t k x = 0 := by rw [e0, if_neg (by simpa using q)]
  have e2 : wmV b t k x = wM b t k x := by unfold wmV; rw [if_pos e]
  have hx := inR_iff.1 (show inR x 0 (lng b k) = true by simpa using q)
  have d49 := c49 b k x hc hk hx
  have d50 := c50M b t k x hc ht hk hx
  rw [e, e2]
  repeat' (first | refine WK_go ?_ | refine W_seqL ?_ | refine W_seq ?_ | refine W_block ?_ | ((first | refine W_regL ?_ | refine W_skip ?_ | refine W_exit ?_ | refine CallC.now (d49) ?_ | refine CallC.now (d50) ?_); simp (maxSteps := 400000) (disch := omega) only [push_cast, ↓reduceIte, reduceCtorEq, Nat.reduceAdd, Nat.reduceSub, Nat.reduceEqDiff, Nat.reduceLeDiff, Nat.reduceLT, Nat.reduceBEq, Nat.reduceDiv, Nat.reduceMod, Nat.reducePow, Nat.reduceMul, Int.reduceToNat, Int.reduceLT, Int.reduceLE]) | refine And.intro (by omega) ?_ | refine And.intro (by intro hq; (try simp only [Bool.and_eq_true, Bool.or_eq_true, Bool.and_eq_false_iff, Bool.or_eq_false_iff, decide_eq_true_eq, decide_eq_false_iff_not, Bool.not_eq_true', Bool.not_eq_false', beq_iff_eq, beq_eq_false_iff_ne, ne_eq] at hq); omega) ?_ | fail)
  exact W_ret ⟨[_, _], ⟨⟨by simp [cE], rfl⟩, rfl, rfl⟩, rfl⟩
def wePt (b : Brg) (k : Int) (r : Bool) : Int := if r = true then lng b k else 0
def weV (b : Brg) (t : List Frc) (k : Int) (r : Bool) : Eff := if spanE b t k = 0 then wEn b t k r (wePt b k r) else zE
theorem fn15 (b : Brg) (t : List Frc) (k : Int) (r : Bool) (h : OkL b t) : Sy.Fn Try.prog 15 [.agg (cB b), aT t, iv k, bv r] (.tup [.agg (cE (weV b t k r)), iv (spanE b t k)]) := by
  refine Fn_of_W mixed Xt15 rfl ?_
  have c47 := fn47 b t k h
  repeat' (first | refine WK_go ?_ | refine W_seqL ?_ | refine W_seq ?_ | refine W_block ?_ | ((first | refine W_regL ?_ | refine W_skip ?_ | refine W_exit ?_ | refine CallC.now (c47) ?_); simp (maxSteps := 400000) (disch := omega) only [push_cast, ↓reduceIte, reduceCtorEq, Nat.reduceAdd, Nat.reduceSub, Nat.reduceEqDiff, Nat.reduceLeDiff, Nat.reduceLT, Nat.reduceBEq, Nat.reduceDiv, Nat.reduceMod, Nat.reducePow, Nat.reduceMul, Int.reduceToNat, Int.reduceLT, Int.reduceLE]) | refine And.intro (by omega) ?_ | refine And.intro (by intro hq; (try simp only [Bool.and_eq_true, Bool.or_eq_true, Bool.and_eq_false_iff, Bool.or_eq_false_iff, decide_eq_true_eq, decide_eq_false_iff_not, Bool.not_eq_true', Bool.not_eq_false', beq_iff_eq, beq_eq_false_iff_ne, ne_eq] at hq); omega) ?_ | fail)
  refine W_cond (by rfl) (fun q => ?_) (fun q => ?_)
  · have q' : spanE b t k ≠ 0 := by simpa using q
    have e2 : weV b t k r = zE := by unfold weV; rw [if_neg q']
    rw [e2]
    repeat' (first | refine WK_go ?_ | refine W_seqL ?_ | refine W_seq ?_ | refine W_block ?_ | ((first | refine W_regL ?_ | refine W_skip ?_ | refine W_exit ?_); simp (maxSteps := 400000) (disch := omega) only [push_cast, ↓reduceIte, reduceCtorEq, Nat.reduceAdd, Nat.reduceSub, Nat.reduceEqDiff, Nat.reduceLeDiff, Nat.reduceLT, Nat.reduceBEq, Nat.reduceDiv, Nat.reduceMod, Nat.reducePow, Nat.reduceMul, Int.reduceToNat, Int.reduceLT, Int.reduceLE]) | refine And.intro (by omega) ?_ | refine And.intro (by intro hq; (try simp only [Bool.and_eq_true, Bool.or_eq_true, Bool.and_eq_false_iff, Bool.or_eq_false_iff, decide_eq_true_eq, decide_eq_false_iff_not, Bool.not_eq_true', Bool.not_eq_false', beq_iff_eq, beq_eq_false_iff_ne, ne_eq] at hq); omega) ?_ | fail)
    exact W_ret ⟨[_, _], ⟨⟨by simp, rfl⟩, rfl, rfl⟩, rfl⟩
  have q' : spanE b t k = 0 := by simpa using q
  obtain ⟨hc, ht, hk⟩ := spanE_ok q'
  have e2 : weV b t k r = wEn b t k r (wePt b k r) := by unfold weV; rw [if_pos q']
  have hgi : b.sp.getD k.toNat 0 = lng b k := rfl
  have d51 := c51 b k r hc hk
  have d50 := c50E b t k r (wePt b k r) hc ht hk
  rw [e2, q']
  repeat' (first | refine WK_go ?_ | refine W_seqL ?_ | refine W_seq ?_ | refine W_block ?_ | ((first | refine W_regL ?_ | refine W_skip ?_ | refine W_exit ?_); simp (maxSteps := 400000) (disch := omega) only [push_cast, ↓reduceIte, reduceCtorEq, Nat.reduceAdd, Nat.reduceSub, Nat.reduceEqDiff, Nat.reduceLeDiff, Nat.reduceLT, Nat.reduceBEq, Nat.reduceDiv, Nat.reduceMod, Nat.reducePow, Nat.reduceMul, Int.reduceToNat, Int.reduceLT, Int.reduceLE]) | refine And.intro (by omega) ?_ | refine And.intro (by intro hq; (try simp only [Bool.and_eq_true, Bool.or_eq_true, Bool.and_eq_false_iff, Bool.or_eq_false_iff, decide_eq_true_eq, decide_eq_false_iff_not, Bool.not_eq_true', Bool.not_eq_false', beq_iff_eq, beq_eq_false_iff_ne, ne_eq] at hq); omega) ?_ | fail)
  refine W_meet [(11, iv (wePt b k r))] [] ?_ ?_
  · refine W_cond (by rfl) (fun q => ?_) (fun q => ?_)
    · unfold wePt
      rw [if_pos q]
      repeat' (first | refine WK_go ?_ | refine W_seqL ?_ | refine W_seq ?_ | refine W_block ?_ | ((first | refine W_regL ?_ | refine W_skip ?_ | refine W_exit ?_); simp (maxSteps := 400000) (disch := omega) only [push_cast, ↓reduceIte, reduceCtorEq, Nat.reduceAdd, Nat.reduceSub, Nat.reduceEqDiff, Nat.reduceLeDiff, Nat.reduceLT, Nat.reduceBEq, Nat.reduceDiv, Nat.reduceMod, Nat.reducePow, Nat.reduceMul, Int.reduceToNat, Int.reduceLT, Int.reduceLE, hgi]) | refine And.intro (by omega) ?_ | refine And.intro (by intro hq; (try simp only [Bool.and_eq_true, Bool.or_eq_true, Bool.and_eq_false_iff, Bool.or_eq_false_iff, decide_eq_true_eq, decide_eq_false_iff_not, Bool.not_eq_true', Bool.not_eq_false', beq_iff_eq, beq_eq_false_iff_ne, ne_eq] at hq); omega) ?_ | fail)
      first | exact ⟨rfl, rfl⟩ | rfl
    · unfold wePt
      rw [if_neg (by rw [q]; decide)]
      repeat' (first | refine WK_go ?_ | refine W_seqL ?_ | refine W_seq ?_ | refine W_block ?_ | ((first | refine W_regL ?_ | refine W_skip ?_ | refine W_exit ?_); simp (maxSteps := 400000) (disch := omega) only [push_cast, ↓reduceIte, reduceCtorEq, Nat.reduceAdd, Nat.reduceSub, Nat.reduceEqDiff, Nat.reduceLeDiff, Nat.reduceLT, Nat.reduceBEq, Nat.reduceDiv, Nat.reduceMod, Nat.reducePow, Nat.reduceMul, Int.reduceToNat, Int.reduceLT, Int.reduceLE]) | refine And.intro (by omega) ?_ | refine And.intro (by intro hq; (try simp only [Bool.and_eq_true, Bool.or_eq_true, Bool.and_eq_false_iff, Bool.or_eq_false_iff, decide_eq_true_eq, decide_eq_false_iff_not, Bool.not_eq_true', Bool.not_eq_false', beq_iff_eq, beq_eq_false_iff_ne, ne_eq] at hq); omega) ?_ | fail)
      first | exact ⟨rfl, rfl⟩ | rfl
  simp (maxSteps := 400000) (disch := omega) only [push_cast, ↓reduceIte, reduceCtorEq, Nat.reduceAdd, Nat.reduceSub, Nat.reduceEqDiff, Nat.reduceLeDiff, Nat.reduceLT, Nat.reduceBEq, Nat.reduceDiv, Nat.reduceMod, Nat.reducePow, Nat.reduceMul, Int.reduceToNat, Int.reduceLT, Int.reduceLE]
  repeat' (first | refine WK_go ?_ | refine W_seqL ?_ | refine W_seq ?_ | refine W_block ?_ | ((first | refine W_regL ?_ | refine W_skip ?_ | refine W_exit ?_ | refine CallC.now (d51) ?_ | refine CallC.now (d50) ?_); simp (maxSteps := 400000) (disch := omega) only [push_cast, ↓reduceIte, reduceCtorEq, Nat.reduceAdd, Nat.reduceSub, Nat.reduceEqDiff, Nat.reduceLeDiff, Nat.reduceLT, Nat.reduceBEq, Nat.reduceDiv, Nat.reduceMod, Nat.reducePow, Nat.reduceMul, Int.reduceToNat, Int.reduceLT, Int.reduceLE]) | refine And.intro (by omega) ?_ | refine And.intro (by intro hq; (try simp only [Bool.and_eq_true, Bool.or_eq_true, Bool.and_eq_false_iff, Bool.or_eq_false_iff, decide_eq_true_eq, decide_eq_false_iff_not, Bool.not_eq_true', Bool.not_eq_false', beq_iff_eq, beq_eq_false_iff_ne, ne_eq] at hq); omega) ?_ | fail)
  exact W_ret ⟨[_, _], ⟨⟨by simp [cE], rfl⟩, rfl, rfl⟩, rfl⟩
end Go.Proofs.Ytbdnnicodailcaa

/- The examples; pressure, damage, what is left: the first laws. -/
namespace Go.Proofs.Ytbdnnicodailcaa
open Go Sy
set_option maxRecDepth 100000
set_option maxHeartbeats 4000000
set_option linter.unusedVariables false
set_option linter.unusedSimpArgs false
def exB : Brg := ⟨[20000, 10000], [200000, 100000], [60000, 50000], 200, 2, 500⟩
def exT : List Frc := [⟨0, 12000⟩, ⟨2000, 12000⟩]
theorem fn42 : Sy.Fn Try.prog 42 [] (.agg (cB exB)) := by
  refine Fn_of_W mixed Xt42 rfl ?_
  repeat' (first | refine WK_go ?_ | refine W_seqL ?_ | refine W_seq ?_ | refine W_block ?_ | ((first | refine W_regL ?_ | refine W_skip ?_ | refine W_exit ?_); simp (maxSteps := 400000) (disch := omega) only [push_cast, ↓reduceIte, reduceCtorEq, Nat.reduceAdd, Nat.reduceSub, Nat.reduceEqDiff, Nat.reduceLeDiff, Nat.reduceLT, Nat.reduceBEq, Nat.reduceDiv, Nat.reduceMod, Nat.reducePow, Nat.reduceMul, Int.reduceToNat, Int.reduceLT, Int.reduceLE]) | refine And.intro (by omega) ?_ | refine And.intro (by intro hq; (try simp only [Bool.and_eq_true, Bool.or_eq_true, Bool.and_eq_false_iff, Bool.or_eq_false_iff, decide_eq_true_eq, decide_eq_false_iff_not, Bool.not_eq_true', Bool.not_eq_false', beq_iff_eq, beq_eq_false_iff_ne, ne_eq] at hq); omega) ?_ | fail)
  refine ⟨rfl, trivial, Int, 0, cI, [(20000 : Int), 10000], rfl, by omega, fun x _ => ⟨rfl, rfl⟩, rfl, ?_⟩
  simp (maxSteps := 400000) (disch := omega) only [push_cast, ↓reduceIte, reduceCtorEq, Nat.reduceAdd, Nat.reduceSub, Nat.reduceEqDiff, Nat.reduceLeDiff, Nat.reduceLT, Nat.reduceBEq, Nat.reduceDiv, Nat.reduceMod, Nat.reducePow, Nat.reduceMul, Int.reduceToNat, Int.reduceLT, Int.reduceLE]
  refine ⟨rfl, trivial, Int, 0, cI, [(200000 : Int), 100000], rfl, by omega, fun x _ => ⟨rfl, rfl⟩, rfl, ?_⟩
  simp (maxSteps := 400000) (disch := omega) only [push_cast, ↓reduceIte, reduceCtorEq, Nat.reduceAdd, Nat.reduceSub, Nat.reduceEqDiff, Nat.reduceLeDiff, Nat.reduceLT, Nat.reduceBEq, Nat.reduceDiv, Nat.reduceMod, Nat.reducePow, Nat.reduceMul, Int.reduceToNat, Int.reduceLT, Int.reduceLE]
  refine ⟨rfl, trivial, Int, 0, cI, [(60000 : Int), 50000], rfl, by omega, fun x _ => ⟨rfl, rfl⟩, rfl, ?_⟩
  simp (maxSteps := 400000) (disch := omega) only [push_cast, ↓reduceIte, reduceCtorEq, Nat.reduceAdd, Nat.reduceSub, Nat.reduceEqDiff, Nat.reduceLeDiff, Nat.reduceLT, Nat.reduceBEq, Nat.reduceDiv, Nat.reduceMod, Nat.reducePow, Nat.reduceMul, Int.reduceToNat, Int.reduceLT, Int.reduceLE]
  repeat' (first | refine WK_go ?_ | refine W_seqL ?_ | refine W_seq ?_ | refine W_block ?_ | ((first | refine W_regL ?_ | refine W_skip ?_ | refine W_exit ?_); simp (maxSteps := 400000) (disch := omega) only [push_cast, ↓reduceIte, reduceCtorEq, Nat.reduceAdd, Nat.reduceSub, Nat.reduceEqDiff, Nat.reduceLeDiff, Nat.reduceLT, Nat.reduceBEq, Nat.reduceDiv, Nat.reduceMod, Nat.reducePow, Nat.reduceMul, Int.reduceToNat, Int.reduceLT, Int.reduceLE]) | refine And.intro (by omega) ?_ | refine And.intro (by intro hq; (try simp only [Bool.and_eq_true, Bool.or_eq_true, Bool.and_eq_false_iff, Bool.or_eq_false_iff, decide_eq_true_eq, decide_eq_false_iff_not, Bool.not_eq_true', Bool.not_eq_false', beq_iff_eq, beq_eq_false_iff_ne, ne_eq] at hq); omega) ?_ | fail)
  exact W_ret ⟨[_], ⟨⟨by simp, rfl⟩, rfl⟩, rfl⟩
theorem fn43 : Sy.Fn Try.prog 43 [] (aT exT) := by
  refine Fn_of_W mixed Xt43 rfl ?_
  repeat' (first | refine WK_go ?_ | refine W_seqL ?_ | refine W_seq ?_ | refine W_block ?_ | ((first | refine W_regL ?_ | refine W_skip ?_ | refine W_exit ?_); simp (maxSteps := 400000) (disch := omega) only [push_cast, ↓reduceIte, reduceCtorEq, Nat.reduceAdd, Nat.reduceSub, Nat.reduceEqDiff, Nat.reduceLeDiff, Nat.reduceLT, Nat.reduceBEq, Nat.reduceDiv, Nat.reduceMod, Nat.reducePow, Nat.reduceMul, Int.reduceToNat, Int.reduceLT, Int.reduceLE]) | refine And.intro (by omega) ?_ | refine And.intro (by intro hq; (try simp only [Bool.and_eq_true, Bool.or_eq_true, Bool.and_eq_false_iff, Bool.or_eq_false_iff, decide_eq_true_eq, decide_eq_false_iff_not, Bool.not_eq_true', Bool.not_eq_false', beq_iff_eq, beq_eq_false_iff_ne, ne_eq] at hq); omega) ?_ | fail)
  refine ⟨rfl, trivial, Frc, dF, cF, exT, rfl, by omega, fun x _ => ⟨rfl, rfl⟩, rfl, ?_⟩
  simp (maxSteps := 400000) (disch := omega) only [push_cast, ↓reduceIte, reduceCtorEq, Nat.reduceAdd, Nat.reduceSub, Nat.reduceEqDiff, Nat.reduceLeDiff, Nat.reduceLT, Nat.reduceBEq, Nat.reduceDiv, Nat.reduceMod, Nat.reducePow, Nat.reduceMul, Int.reduceToNat, Int.reduceLT, Int.reduceLE]
  repeat' (first | refine WK_go ?_ | refine W_seqL ?_ | refine W_seq ?_ | refine W_block ?_ | ((first | refine W_regL ?_ | refine W_skip ?_ | refine W_exit ?_); simp (maxSteps := 400000) (disch := omega) only [push_cast, ↓reduceIte, reduceCtorEq, Nat.reduceAdd, Nat.reduceSub, Nat.reduceEqDiff, Nat.reduceLeDiff, Nat.reduceLT, Nat.reduceBEq, Nat.reduceDiv, Nat.reduceMod, Nat.reducePow, Nat.reduceMul, Int.reduceToNat, Int.reduceLT, Int.reduceLE]) | refine And.intro (by omega) ?_ | refine And.intro (by intro hq; (try simp only [Bool.and_eq_true, Bool.or_eq_true, Bool.and_eq_false_iff, Bool.or_eq_false_iff, decide_eq_true_eq, decide_eq_false_iff_not, Bool.not_eq_true', Bool.not_eq_false', beq_iff_eq, beq_eq_false_iff_ne, ne_eq] at hq); omega) ?_ | fail)
  exact W_ret ⟨[_], ⟨rfl, rfl⟩, rfl⟩
theorem exL : OkL exB exT := ⟨Nat.le_of_ble_eq_true rfl, Nat.le_of_ble_eq_true rfl, Nat.le_of_ble_eq_true rfl, Nat.le_of_ble_eq_true rfl⟩
def ppP : Pav := ⟨10000, 1000, 4⟩
theorem ex_dam : damE ppP exT 1 = 0 ∧ damV ppP exT 1 = 4148 := by decide +kernel
theorem ex_sp : spanE exB exT 0 = 0 := by decide +kernel
theorem ex_wm : wmE exB exT 0 10000 = 0 := by decide +kernel
theorem ex_wv : wmV exB exT 0 10000 = ⟨2160000000000, 0, 10000, 10000⟩ := by decide +kernel
theorem ex_we : weV exB exT 0 false = ⟨456000000, 0, 0, 2000⟩ := by decide +kernel
theorem fn13 : Sy.Fn Try.prog 13 [] (bv true) := by
  refine Fn_of_W mixed Xt13 rfl ?_
  have c14 := fn14 exB exT 0 10000 exL
  have c15 := fn15 exB exT 0 false exL
  have c19 := fn19 ppP exT 1 exL.t
  rw [ex_wm, ex_wv] at c14
  rw [ex_sp, ex_we] at c15
  rw [ex_dam.1, ex_dam.2] at c19
  repeat' (first | refine WK_go ?_ | refine W_seqL ?_ | refine W_seq ?_ | refine W_block ?_ | ((first | refine W_regL ?_ | refine W_skip ?_ | refine W_exit ?_ | refine CallC.now (fn42) ?_ | refine CallC.now (fn43) ?_ | refine CallC.now (c14) ?_ | refine CallC.now (c15) ?_ | refine CallC.now (c19) ?_); simp (maxSteps := 400000) (disch := omega) only [push_cast, ↓reduceIte, reduceCtorEq, Nat.reduceAdd, Nat.reduceSub, Nat.reduceEqDiff, Nat.reduceLeDiff, Nat.reduceLT, Nat.reduceBEq, Nat.reduceDiv, Nat.reduceMod, Nat.reducePow, Nat.reduceMul, Int.reduceToNat, Int.reduceLT, Int.reduceLE, cE, Int.add_zero, beq_self_eq_true]) | refine And.intro (by omega) ?_ | refine And.intro (by intro hq; (try simp only [Bool.and_eq_true, Bool.or_eq_true, Bool.and_eq_false_iff, Bool.or_eq_false_iff, decide_eq_true_eq, decide_eq_false_iff_not, Bool.not_eq_true', Bool.not_eq_false', beq_iff_eq, beq_eq_false_iff_ne, ne_eq] at hq); omega) ?_ | fail)
  exact W_ret ⟨[_], ⟨rfl, rfl⟩, rfl⟩
end Go.Proofs.Ytbdnnicodailcaa

/- What the arguments of the laws hold. -/
namespace Go.Proofs.Ytbdnnicodailcaa
open Go Sy
set_option maxRecDepth 100000
set_option linter.unusedVariables false
theorem i64_wf {n : Int} (h : (Lit.int .i64 n).wf = true) : -9223372036854775808 ≤ n ∧ n ≤ 9223372036854775807 := by
  simp [Lit.wf, IntKind.min, IntKind.max, IntKind.bits, IntKind.signed] at h
  omega
abbrev I64 (n : Int) : Prop := -9223372036854775808 ≤ n ∧ n ≤ 9223372036854775807
theorem y2 : Try.prog.cellsOf 2 = 1 := by kernel_rfl
theorem y3 : Try.prog.cellsOf 3 = 1 := by kernel_rfl
theorem b2 : Try.prog.bytesOf 2 = 8 := by kernel_rfl
theorem k2 : Codec Try.prog 2 (fun n : Int => [iv n]) I64 := (Codec.int Try.underlying2).map id (fun _ => rfl) (fun _ h => i64_wf h)
theorem k3 : Codec Try.prog 3 (fun n : Int => [iv n]) I64 := (Codec.int Try.underlying3).map id (fun _ => rfl) (fun _ h => i64_wf h)
theorem k22 : Codec Try.prog 22 (fun l : List Int => [aI l]) (fun l => l.length * 8 ≤ 140737488351232) :=
  (Codec.slice Try.underlying22 (by rw [y2]; decide) y2 b2 0 k2).map id (fun _ => rfl) (fun _ h => h.1)
structure OB (b : Brg) : Prop where
  sp : b.sp.length * 8 ≤ 140737488351232
  mo : b.mo.length * 8 ≤ 140737488351232
  sh : b.sh.length * 8 ≤ 140737488351232
  dyn : I64 b.dyn
  lan : I64 b.lan
  tra : I64 b.tra
end Go.Proofs.Ytbdnnicodailcaa

/- Pavements: the law of wears. -/
namespace Go.Proofs.Ytbdnnicodailcaa
open Go Sy
set_option maxRecDepth 100000
set_option maxHeartbeats 4000000
set_option linter.unusedVariables false
set_option linter.unusedSimpArgs false
end Go.Proofs.Ytbdnnicodailcaa

/- Sums of effects; a span seen from its other end: the laws. -/
namespace Go.Proofs.Ytbdnnicodailcaa
open Go Sy
set_option maxRecDepth 100000
set_option maxHeartbeats 4000000
set_option linter.unusedVariables false
set_option linter.unusedSimpArgs false
end Go.Proofs.Ytbdnnicodailcaa

/- What a bridge bears: the laws. -/
namespace Go.Proofs.Ytbdnnicodailcaa
open Go Sy
set_option maxRecDepth 100000
set_option maxHeartbeats 4000000
set_option linter.unusedVariables false
set_option linter.unusedSimpArgs false
/-- greater loads -/
structure Ldd (t u : List Frc) : Prop where
  len : u.length = t.length
  x : ∀ i, (sf u i).x = (sf t i).x
  p : ∀ i, (sf t i).p ≤ (sf u i).p
theorem Ldd.refl (t : List Frc) : Ldd t t := ⟨rfl, fun _ => rfl, fun _ => Int.le_refl _⟩
end Go.Proofs.Ytbdnnicodailcaa

/- What a bridge bears: walked. -/
namespace Go.Proofs.Ytbdnnicodailcaa
open Go Sy
set_option maxRecDepth 100000
set_option maxHeartbeats 4000000
set_option linter.unusedVariables false
set_option linter.unusedSimpArgs false
end Go.Proofs.Ytbdnnicodailcaa

/- What a bridge bears: the definition's functions. -/
namespace Go.Proofs.Ytbdnnicodailcaa
open Go Sy
set_option maxRecDepth 100000
set_option maxHeartbeats 4000000
set_option linter.unusedVariables false
set_option linter.unusedSimpArgs false
end Go.Proofs.Ytbdnnicodailcaa

/- What a bridge bears, and more: the law. -/
namespace Go.Proofs.Ytbdnnicodailcaa
open Go Sy
set_option maxRecDepth 100000
set_option maxHeartbeats 4000000
set_option linter.unusedVariables false
set_option linter.unusedSimpArgs false
end Go.Proofs.Ytbdnnicodailcaa

/- Trains, multiplied; how much of a train is borne. -/
namespace Go.Proofs.Ytbdnnicodailcaa
open Go Sy
set_option maxRecDepth 100000
set_option maxHeartbeats 4000000
set_option linter.unusedVariables false
set_option linter.unusedSimpArgs false
end Go.Proofs.Ytbdnnicodailcaa

/- How much of a train is borne: the law. -/
namespace Go.Proofs.Ytbdnnicodailcaa
open Go Sy
set_option maxRecDepth 100000
set_option maxHeartbeats 4000000
set_option linter.unusedVariables false
set_option linter.unusedSimpArgs false
end Go.Proofs.Ytbdnnicodailcaa

/- The examples of the chapter. -/
namespace Go.Proofs.Ytbdnnicodailcaa
open Go Sy
set_option maxRecDepth 100000
set_option maxHeartbeats 4000000
set_option linter.unusedVariables false
set_option linter.unusedSimpArgs false
end Go.Proofs.Ytbdnnicodailcaa

/- The definition's effects. -/
namespace Go.Proofs.Ytbdnnicodailcaa
open Go Sy
set_option maxRecDepth 100000
set_option maxHeartbeats 4000000
set_option linter.unusedVariables false
set_option linter.unusedSimpArgs false
end Go.Proofs.Ytbdnnicodailcaa

/- What is borne, by the definition. -/
namespace Go.Proofs.Ytbdnnicodailcaa
open Go Sy
set_option maxRecDepth 100000
set_option maxHeartbeats 4000000
set_option linter.unusedVariables false
set_option linter.unusedSimpArgs false
end Go.Proofs.Ytbdnnicodailcaa

/- The worst moments of all spans; what is borne: the law. -/
namespace Go.Proofs.Ytbdnnicodailcaa
open Go Sy
set_option maxRecDepth 100000
set_option maxHeartbeats 4000000
set_option linter.unusedVariables false
set_option linter.unusedSimpArgs false
end Go.Proofs.Ytbdnnicodailcaa

/- What is borne, and how much: the law. -/
namespace Go.Proofs.Ytbdnnicodailcaa
open Go Sy
set_option maxRecDepth 100000
set_option maxHeartbeats 4000000
set_option linter.unusedVariables false
set_option linter.unusedSimpArgs false
end Go.Proofs.Ytbdnnicodailcaa

/- Stable sorting: insertion, merging, in place: plain. -/
namespace Go.Proofs.Ytbdnnicodailcaa
set_option linter.unusedVariables false
section
variable {α : Type} (lt : α → α → Bool)
/-- behind all that are not greater -/
def ins (v : α) : List α → List α
  | [] => [v]
  | u :: l => if lt v u = true then v :: u :: l else u :: ins v l
def isort (l : List α) : List α := l.foldl (fun o v => ins lt v o) []
def mrg : List α → List α → List α
  | [], V => V
  | u :: U, [] => u :: U
  | u :: U, v :: V => if lt v u = true then v :: mrg (u :: U) V else u :: mrg U (v :: V)
termination_by U V => U.length + V.length
structure SW (lt : α → α → Bool) : Prop where
  asym : ∀ {a b}, lt a b = true → lt b a = false
  nt : ∀ {a b c}, lt b a = false → lt c b = false → lt c a = false
def SrtL (l : List α) : Prop := l.Pairwise (fun a b => lt b a = false)
variable {lt}
theorem SW.trans (h : SW lt) {a b c : α} (h1 : lt a b = true) (h2 : lt b c = true) : lt a c = true := by
  cases q : lt a c with
  | true => rfl
  | false =>
    have := h.nt q (h.asym h1)
    rw [this] at h2; cases h2
theorem SW.lt_le (h : SW lt) {a b c : α} (h1 : lt a b = true) (h2 : lt c b = false) : lt a c = true := by
  cases q : lt a c with
  | true => rfl
  | false =>
    have := h.nt h2 q
    rw [this] at h1; cases h1
theorem SW.le_lt (h : SW lt) {a b c : α} (h1 : lt b a = false) (h2 : lt b c = true) : lt a c = true := by
  cases q : lt a c with
  | true => rfl
  | false =>
    have := h.nt q h1
    rw [this] at h2; cases h2
theorem ins_split {v : α} : ∀ {A B : List α}, (∀ a ∈ A, lt v a = false) → (∀ b ∈ B, lt v b = true) → ins lt v (A ++ B) = A ++ v :: B
  | [], [], _, _ => rfl
  | [], b :: B, _, h => by
    simp only [List.nil_append, ins]
    rw [if_pos (h b List.mem_cons_self)]
  | a :: A, B, h1, h2 => by
    simp only [List.cons_append, ins]
    rw [if_neg (by rw [h1 a List.mem_cons_self]; decide), ins_split (fun x hx => h1 x (List.mem_cons_of_mem _ hx)) h2]
theorem ins_len {v : α} : ∀ {l : List α}, (ins lt v l).length = l.length + 1
  | [] => rfl
  | u :: l => by
    simp only [ins]
    split
    · simp
    · simp [ins_len (l := l)]
theorem ins_mem {v x : α} : ∀ {l : List α}, x ∈ ins lt v l ↔ x = v ∨ x ∈ l
  | [] => by simp [ins]
  | u :: l => by
    simp only [ins]
    split
    · simp
    · simp only [List.mem_cons, ins_mem (l := l)]
      constructor
      · rintro (h | h | h)
        · exact .inr (.inl h)
        · exact .inl h
        · exact .inr (.inr h)
      · rintro (h | h | h)
        · exact .inr (.inl h)
        · exact .inl h
        · exact .inr (.inr h)
theorem srt_ins (h : SW lt) {v : α} : ∀ {l : List α}, SrtL lt l → SrtL lt (ins lt v l)
  | [], _ => by simp [ins, SrtL]
  | u :: l, hs => by
    unfold SrtL at hs
    rw [List.pairwise_cons] at hs
    simp only [ins]
    split
    · rename_i q
      unfold SrtL
      rw [List.pairwise_cons, List.pairwise_cons]
      refine ⟨fun x hx => ?_, hs⟩
      rcases List.mem_cons.1 hx with rfl | hx
      · exact h.asym q
      · exact h.nt (h.asym q) (hs.1 x hx)
    · rename_i q
      have q' : lt v u = false := by simpa using q
      unfold SrtL
      rw [List.pairwise_cons]
      refine ⟨fun x hx => ?_, srt_ins h hs.2⟩
      rcases ins_mem.1 hx with rfl | hx
      · exact q'
      · exact hs.1 x hx
theorem isort_snoc (l : List α) (v : α) : isort lt (l ++ [v]) = ins lt v (isort lt l) := by
  unfold isort
  rw [List.foldl_append]; rfl
theorem snoc_ind {P : List α → Prop} (h0 : P []) (h1 : ∀ l v, P l → P (l ++ [v])) : ∀ l, P l := by
  have key : ∀ l : List α, P l.reverse := by
    intro l
    induction l with
    | nil => exact h0
    | cons x l ih => rw [List.reverse_cons]; exact h1 _ _ ih
  intro l
  have := key l.reverse
  rwa [List.reverse_reverse] at this
theorem isort_len (l : List α) : (isort lt l).length = l.length := snoc_ind (P := fun l => (isort lt l).length = l.length) rfl (fun l v ih => by rw [isort_snoc, ins_len, ih, List.length_append]; rfl) l
theorem srt_isort (h : SW lt) (l : List α) : SrtL lt (isort lt l) := snoc_ind (P := fun l => SrtL lt (isort lt l)) (by simp [isort, SrtL]) (fun l v ih => by rw [isort_snoc]; exact srt_ins h ih) l
theorem isort_mem {x : α} (l : List α) : x ∈ isort lt l ↔ x ∈ l := snoc_ind (P := fun l => x ∈ isort lt l ↔ x ∈ l) (by simp [isort]) (fun l v ih => by
  rw [isort_snoc, ins_mem, ih, List.mem_append, List.mem_singleton]
  exact Or.comm) l
theorem mrg_nil (U : List α) : mrg lt U [] = U := by cases U <;> simp [mrg]
theorem nil_mrg (V : List α) : mrg lt [] V = V := by simp [mrg]
theorem mrg_ins (h : SW lt) {v : α} : ∀ (A B : List α), mrg lt A (ins lt v B) = ins lt v (mrg lt A B)
  | [], B => by simp [mrg]
  | a :: A, [] => by
    have ih := mrg_ins h (v := v) A []
    rw [mrg_nil] at ih ⊢
    simp only [ins]
    rw [mrg]
    split
    · simp [mrg_nil]
    · rw [show [v] = ins lt v [] from rfl, ih]
  | a :: A, b :: B => by
    have i1 := mrg_ins h (v := v) A (b :: B)
    have i2 := mrg_ins h (v := v) (a :: A) B
    simp only [ins] at i1 ⊢
    rw [mrg.eq_3 lt a A b B]
    by_cases q : lt v b = true
    · rw [if_pos q] at i1 ⊢
      rw [mrg]
      by_cases r : lt b a = true
      · rw [if_pos r, if_pos (h.trans q r)]
        simp only [ins]
        rw [if_pos q, mrg, if_pos r]
      · rw [if_neg r]
        simp only [ins]
        by_cases s : lt v a = true
        · rw [if_pos s, if_pos s, mrg, if_neg r]
        · rw [if_neg s, if_neg s, i1]
    · rw [if_neg q] at i1 ⊢
      rw [mrg]
      by_cases r : lt b a = true
      · rw [if_pos r, if_pos r, i2]
        simp only [ins]
        rw [if_neg q]
      · rw [if_neg r, if_neg r, i1]
        simp only [ins]
        have : lt v a = false := h.nt (by simpa using r) (by simpa using q)
        rw [if_neg (by rw [this]; decide)]
termination_by A B => A.length + B.length
theorem mrg_isort (h : SW lt) (A B : List α) : mrg lt (isort lt A) (isort lt B) = isort lt (A ++ B) :=
  snoc_ind (P := fun B => mrg lt (isort lt A) (isort lt B) = isort lt (A ++ B)) (by rw [show isort lt ([] : List α) = [] from rfl, mrg_nil, List.append_nil]) (fun l v ih => by
    rw [isort_snoc, mrg_ins h, ih, ← isort_snoc, List.append_assoc]) B
/-- a merge falls into two -/
theorem mrg_split : ∀ (U1 V1 : List α) {U2 V2 : List α}, (∀ u ∈ U1, ∀ v ∈ V2, lt v u = false) → (∀ v ∈ V1, ∀ u ∈ U2, lt v u = true) → mrg lt (U1 ++ U2) (V1 ++ V2) = mrg lt U1 V1 ++ mrg lt U2 V2
  | [], [], U2, V2, _, _ => by simp [mrg]
  | [], v :: V1, U2, V2, h1, h2 => by
    have ih := mrg_split [] V1 (U2 := U2) (V2 := V2) (fun u hu => by cases hu) (fun x hx => h2 x (List.mem_cons_of_mem _ hx))
    rw [nil_mrg, List.nil_append] at ih ⊢
    cases U2 with
    | nil => simp [mrg]
    | cons u U2 =>
      rw [List.cons_append, mrg, if_pos (h2 v List.mem_cons_self u List.mem_cons_self), ih, List.cons_append]
  | u :: U1, [], U2, V2, h1, h2 => by
    have ih := mrg_split U1 [] (U2 := U2) (V2 := V2) (fun x hx => h1 x (List.mem_cons_of_mem _ hx)) (fun x hx => by cases hx)
    rw [mrg_nil, List.nil_append] at ih ⊢
    cases V2 with
    | nil => simp [mrg_nil]
    | cons v V2 =>
      rw [List.cons_append, mrg, if_neg (by rw [h1 u List.mem_cons_self v List.mem_cons_self]; decide), ih, List.cons_append]
  | u :: U1, v :: V1, U2, V2, h1, h2 => by
    have i1 := mrg_split U1 (v :: V1) (U2 := U2) (V2 := V2) (fun x hx => h1 x (List.mem_cons_of_mem _ hx)) h2
    have i2 := mrg_split (u :: U1) V1 (U2 := U2) (V2 := V2) h1 (fun x hx => h2 x (List.mem_cons_of_mem _ hx))
    simp only [List.cons_append] at i1 i2 ⊢
    rw [mrg, mrg]
    split
    · rw [i2, List.cons_append]
    · rw [i1, List.cons_append]
termination_by U1 V1 => U1.length + V1.length
theorem mrg_len : ∀ (U V : List α), (mrg lt U V).length = U.length + V.length
  | [], V => by simp [mrg]
  | u :: U, [] => by simp [mrg]
  | u :: U, v :: V => by
    rw [mrg]
    split
    · simp [mrg_len (u :: U) V]; omega
    · simp [mrg_len U (v :: V)]; omega
termination_by U V => U.length + V.length
theorem mrg_one {v : α} {U1 U2 : List α} (h1 : ∀ u ∈ U1, lt v u = false) (h2 : ∀ u ∈ U2, lt v u = true) : mrg lt (U1 ++ U2) [v] = U1 ++ v :: U2 := by
  have := mrg_split (lt := lt) U1 [] (U2 := U2) (V2 := [v]) (fun u hu x hx => by rw [List.mem_singleton] at hx; subst hx; exact h1 u hu) (fun x hx => by cases hx)
  rw [mrg_nil, List.nil_append] at this
  rw [this]
  congr 1
  cases U2 with
  | nil => simp [mrg]
  | cons u U2 => rw [mrg, if_pos (h2 u List.mem_cons_self), mrg_nil]
theorem one_mrg {u : α} {V1 V2 : List α} (h1 : ∀ v ∈ V1, lt v u = true) (h2 : ∀ v ∈ V2, lt v u = false) : mrg lt [u] (V1 ++ V2) = V1 ++ u :: V2 := by
  have := mrg_split (lt := lt) [] V1 (U2 := [u]) (V2 := V2) (fun x hx => by cases hx) (fun v hv x hx => by rw [List.mem_singleton] at hx; subst hx; exact h1 v hv)
  rw [nil_mrg, List.nil_append] at this
  rw [this]
  congr 1
  cases V2 with
  | nil => simp [mrg]
  | cons v V2 => rw [mrg, if_neg (by rw [h2 v List.mem_cons_self]; decide), nil_mrg]
/-- blocks that are sorted each -/
def chS (lt : α → α → Bool) (n : Nat) (l : List α) : List α := if h : l.length ≤ n ∨ n = 0 then isort lt l else isort lt (l.take n) ++ chS lt n (l.drop n)
termination_by l.length
decreasing_by rw [List.length_drop]; omega
theorem chS_one {n : Nat} {l : List α} (h : l.length ≤ n) : chS lt n l = isort lt l := by rw [chS, dif_pos (.inl h)]
theorem chS_eq {n : Nat} (hn : 0 < n) (l : List α) : chS lt n l = isort lt (l.take n) ++ chS lt n (l.drop n) := by
  by_cases h : l.length ≤ n
  · rw [chS_one h, List.take_of_length_le h, List.drop_of_length_le h, chS_one (by simp)]
    rw [show isort lt ([] : List α) = [] from rfl, List.append_nil]
  · rw [chS, dif_neg (by omega)]
theorem chS_len {n : Nat} (hn : 0 < n) : ∀ (k : Nat) (l : List α), l.length ≤ k → (chS lt n l).length = l.length
  | 0, l, h => by rw [chS_one (by omega), isort_len]
  | k + 1, l, h => by
    by_cases q : l.length ≤ n
    · rw [chS_one q, isort_len]
    · rw [chS_eq hn, List.length_append, isort_len, chS_len hn k _ (by rw [List.length_drop]; omega), List.length_take, List.length_drop]; omega
end
end Go.Proofs.Ytbdnnicodailcaa

/- Pieces of lists that change places: plain. -/
namespace Go.Proofs.Ytbdnnicodailcaa
set_option linter.unusedVariables false
section
variable {α : Type}
theorem at_cons {A B : List α} {x d : α} {i : Nat} (h : A.length = i) : (A ++ x :: B).getD i d = x := by
  simp only [List.getD_eq_getElem?_getD]
  rw [List.getElem?_append_right (by omega), h, Nat.sub_self]; rfl
theorem set_cons {A B : List α} {x y : α} {i : Nat} (h : A.length = i) : (A ++ x :: B).set i y = A ++ y :: B := by
  rw [List.set_append_right _ _ (by omega), h, Nat.sub_self]; rfl
/-- two pieces, of which c elements have changed places -/
def swL (P X M Z Q : List α) (c : Nat) : List α := (P ++ Z.take c) ++ (X.drop c ++ (M ++ (X.take c ++ (Z.drop c ++ Q))))
theorem swL_zero (P X M Z Q : List α) : swL P X M Z Q 0 = P ++ (X ++ (M ++ (Z ++ Q))) := by simp [swL]
theorem swL_all {P X M Z Q : List α} (h : Z.length = X.length) : swL P X M Z Q X.length = P ++ (Z ++ (M ++ (X ++ Q))) := by
  unfold swL
  rw [List.take_length, List.drop_length, ← h, List.take_length, List.drop_length]; simp
theorem swL_len {P X M Z Q : List α} {c : Nat} (h : Z.length = X.length) (hc : c ≤ X.length) : (swL P X M Z Q c).length = P.length + X.length + M.length + X.length + Q.length := by
  unfold swL
  simp only [List.length_append, List.length_take, List.length_drop]; omega
theorem swL_step {P X M Z Q : List α} {c : Nat} (d : α) (h : Z.length = X.length) (hc : c < X.length) :
    (swL P X M Z Q c).getD (P.length + c) d = X.getD c d ∧ (swL P X M Z Q c).getD (P.length + X.length + M.length + c) d = Z.getD c d ∧
    ((swL P X M Z Q c).set (P.length + c) (Z.getD c d)).set (P.length + X.length + M.length + c) (X.getD c d) = swL P X M Z Q (c + 1) := by
  have hz : c < Z.length := by omega
  have e1 : X.drop c = X.getD c d :: X.drop (c + 1) := by rw [List.drop_eq_getElem_cons hc]; simp [List.getD, hc]
  have e2 : Z.drop c = Z.getD c d :: Z.drop (c + 1) := by rw [List.drop_eq_getElem_cons hz]; simp [List.getD, hz]
  have e3 : X.take (c + 1) = X.take c ++ [X.getD c d] := by rw [List.take_succ_eq_append_getElem hc]; simp [List.getD, hc]
  have e4 : Z.take (c + 1) = Z.take c ++ [Z.getD c d] := by rw [List.take_succ_eq_append_getElem hz]; simp [List.getD, hz]
  unfold swL
  rw [e3, e4, e1, e2]
  generalize X.getD c d = x
  generalize Z.getD c d = z
  have l1 : (P ++ Z.take c).length = P.length + c := by rw [List.length_append, List.length_take]; omega
  have r1 : (P ++ Z.take c) ++ ((x :: X.drop (c + 1)) ++ (M ++ (X.take c ++ ((z :: Z.drop (c + 1)) ++ Q)))) = ((P ++ Z.take c) ++ ((x :: X.drop (c + 1)) ++ (M ++ X.take c))) ++ z :: (Z.drop (c + 1) ++ Q) := by simp
  have l2 : ((P ++ Z.take c) ++ ((x :: X.drop (c + 1)) ++ (M ++ X.take c))).length = P.length + X.length + M.length + c := by
    simp only [List.length_append, List.length_take, List.length_cons, List.length_drop]; omega
  refine ⟨?_, ?_, ?_⟩
  · rw [List.cons_append]; exact at_cons l1
  · rw [r1]; exact at_cons l2
  · rw [List.cons_append, set_cons l1]
    have r2 : (P ++ Z.take c) ++ z :: (X.drop (c + 1) ++ (M ++ (X.take c ++ ((z :: Z.drop (c + 1)) ++ Q)))) = ((P ++ Z.take c) ++ ((z :: X.drop (c + 1)) ++ (M ++ X.take c))) ++ z :: (Z.drop (c + 1) ++ Q) := by simp
    have l3 : ((P ++ Z.take c) ++ ((z :: X.drop (c + 1)) ++ (M ++ X.take c))).length = P.length + X.length + M.length + c := by
      simp only [List.length_append, List.length_take, List.length_cons, List.length_drop]; omega
    rw [r2, set_cons l3]
    simp
end
end Go.Proofs.Ytbdnnicodailcaa

/- Stable sorting, walked: pieces that change places. -/
namespace Go.Proofs.Ytbdnnicodailcaa
open Go Sy
set_option maxRecDepth 100000
set_option maxHeartbeats 4000000
set_option linter.unusedVariables false
set_option linter.unusedSimpArgs false
abbrev rF (st : Nat) (l : List Frc) : Blk := .row st 35 2 dF cF l
theorem w127 {M : List (Nat × Blk)} {k st nx : Nat} {gc : Nat} {ca : List AV} (P X Md Z Q : List Frc) (hz : Z.length = X.length) (hlen : P.length + X.length + Md.length + X.length + Q.length ≤ 1000000) (hk : k < nx) (hfr : ∀ j, nx ≤ j → lm M j = none) :
    W Try.prog 38 Xn127_0 ⟨initT 0 [.row k st, iv P.length, iv (P.length + X.length + Md.length), iv X.length, .clo gc [] ca], setm M k (rF st (P ++ (X ++ (Md ++ (Z ++ Q))))), nx⟩
      (fun e s' => (e = .n ∨ e = .r) ∧ s'.mem = setm M k (rF st (P ++ (Z ++ (Md ++ (X ++ Q)))))) := by
  have hfr' : ∀ b : Blk, ∀ j, nx ≤ j → lm (setm M k b) j = none := fun b j hj => by rw [lm_set_other _ _ (by omega)]; exact hfr j hj
  simp (maxSteps := 400000) (disch := omega) only [push_cast, ↓reduceIte, reduceCtorEq, Nat.reduceAdd, Nat.reduceSub, Nat.reduceEqDiff, Nat.reduceLeDiff, Nat.reduceLT, Nat.reduceBEq, Nat.reduceDiv, Nat.reduceMod, Nat.reducePow, Nat.reduceMul, Int.reduceToNat, Int.reduceLT, Int.reduceLE, initT]
  repeat' (first | refine WK_go ?_ | refine W_seqL ?_ | refine W_seq ?_ | refine W_block ?_ | ((first | refine W_regL ?_ | refine W_skip ?_ | refine W_exit ?_); simp (maxSteps := 400000) (disch := omega) only [push_cast, ↓reduceIte, reduceCtorEq, Nat.reduceAdd, Nat.reduceSub, Nat.reduceEqDiff, Nat.reduceLeDiff, Nat.reduceLT, Nat.reduceBEq, Nat.reduceDiv, Nat.reduceMod, Nat.reducePow, Nat.reduceMul, Int.reduceToNat, Int.reduceLT, Int.reduceLE]) | refine And.intro (by omega) ?_ | refine And.intro (by intro hq; (try simp only [Bool.and_eq_true, Bool.or_eq_true, Bool.and_eq_false_iff, Bool.or_eq_false_iff, decide_eq_true_eq, decide_eq_false_iff_not, Bool.not_eq_true', Bool.not_eq_false', beq_iff_eq, beq_eq_false_iff_ne, ne_eq] at hq); omega) ?_ | fail)
  refine W_loopM (fun c : Nat => [(10, iv c)]) (fun c => setm M k (rF st (swL P X Md Z Q c))) (fun c => c ≤ X.length) (fun c => X.length - c) nx (fun c _ => hfr' _) 0 (by omega) (by rfl) (by rw [swL_zero]) (fun c hc => ?_)
  have hll := swL_len (P := P) (M := Md) (Q := Q) hz hc
  simp (maxSteps := 400000) (disch := omega) only [push_cast, ↓reduceIte, reduceCtorEq, Nat.reduceAdd, Nat.reduceSub, Nat.reduceEqDiff, Nat.reduceLeDiff, Nat.reduceLT, Nat.reduceBEq, Nat.reduceDiv, Nat.reduceMod, Nat.reducePow, Nat.reduceMul, Int.reduceToNat, Int.reduceLT, Int.reduceLE, keepL]
  repeat' (first | refine WK_go ?_ | refine W_seqL ?_ | refine W_seq ?_ | refine W_block ?_ | ((first | refine W_regL ?_ | refine W_skip ?_ | refine W_exit ?_); simp (maxSteps := 400000) (disch := omega) only [push_cast, ↓reduceIte, reduceCtorEq, Nat.reduceAdd, Nat.reduceSub, Nat.reduceEqDiff, Nat.reduceLeDiff, Nat.reduceLT, Nat.reduceBEq, Nat.reduceDiv, Nat.reduceMod, Nat.reducePow, Nat.reduceMul, Int.reduceToNat, Int.reduceLT, Int.reduceLE, keepL]) | refine And.intro (by omega) ?_ | refine And.intro (by intro hq; (try simp only [Bool.and_eq_true, Bool.or_eq_true, Bool.and_eq_false_iff, Bool.or_eq_false_iff, decide_eq_true_eq, decide_eq_false_iff_not, Bool.not_eq_true', Bool.not_eq_false', beq_iff_eq, beq_eq_false_iff_ne, ne_eq] at hq); omega) ?_ | fail)
  refine W_condD (by rfl) (fun h5 => ?_) (fun h5 => ?_)
  · have hlt : c < X.length := by omega
    obtain ⟨q1, q2, q3⟩ := swL_step (P := P) (M := Md) (Q := Q) dF hz hlt
    have ea : ((P.length : Int) + c).toNat = P.length + c := by omega
    have eb : ((P.length : Int) + X.length + Md.length + c).toNat = P.length + X.length + Md.length + c := by omega
    repeat' (first | refine WK_go ?_ | refine W_seqL ?_ | refine W_seq ?_ | refine W_block ?_ | ((first | refine W_regL ?_ | refine W_skip ?_ | refine W_exit ?_); simp (maxSteps := 400000) (disch := omega) only [push_cast, ↓reduceIte, reduceCtorEq, Nat.reduceAdd, Nat.reduceSub, Nat.reduceEqDiff, Nat.reduceLeDiff, Nat.reduceLT, Nat.reduceBEq, Nat.reduceDiv, Nat.reduceMod, Nat.reducePow, Nat.reduceMul, Int.reduceToNat, Int.reduceLT, Int.reduceLE, keepL, hll, ea, eb, q1, q2, tF, beq_self_eq_true]) | refine And.intro (by omega) ?_ | refine And.intro (by intro hq; (try simp only [Bool.and_eq_true, Bool.or_eq_true, Bool.and_eq_false_iff, Bool.or_eq_false_iff, decide_eq_true_eq, decide_eq_false_iff_not, Bool.not_eq_true', Bool.not_eq_false', beq_iff_eq, beq_eq_false_iff_ne, ne_eq] at hq); omega) ?_ | fail)
    refine ⟨rfl, ⟨by dsimp only; omega, hasM_set _ _ _⟩, by omega, Z.getD c dF, rfl, rfl, ?_⟩
    simp (maxSteps := 400000) (disch := omega) only [push_cast, ↓reduceIte, reduceCtorEq, Nat.reduceAdd, Nat.reduceSub, Nat.reduceEqDiff, Nat.reduceLeDiff, Nat.reduceLT, Nat.reduceBEq, Nat.reduceDiv, Nat.reduceMod, Nat.reducePow, Nat.reduceMul, Int.reduceToNat, Int.reduceLT, Int.reduceLE, hll, ea, eb, List.length_set]
    repeat' (first | refine WK_go ?_ | refine W_seqL ?_ | refine W_seq ?_ | refine W_block ?_ | ((first | refine W_regL ?_ | refine W_skip ?_ | refine W_exit ?_); simp (maxSteps := 400000) (disch := omega) only [push_cast, ↓reduceIte, reduceCtorEq, Nat.reduceAdd, Nat.reduceSub, Nat.reduceEqDiff, Nat.reduceLeDiff, Nat.reduceLT, Nat.reduceBEq, Nat.reduceDiv, Nat.reduceMod, Nat.reducePow, Nat.reduceMul, Int.reduceToNat, Int.reduceLT, Int.reduceLE, keepL, hll, ea, eb, List.length_set, beq_self_eq_true]) | refine And.intro (by omega) ?_ | refine And.intro (by intro hq; (try simp only [Bool.and_eq_true, Bool.or_eq_true, Bool.and_eq_false_iff, Bool.or_eq_false_iff, decide_eq_true_eq, decide_eq_false_iff_not, Bool.not_eq_true', Bool.not_eq_false', beq_iff_eq, beq_eq_false_iff_ne, ne_eq] at hq); omega) ?_ | fail)
    refine ⟨rfl, ⟨by dsimp only; omega, hasM_set _ _ _⟩, by omega, X.getD c dF, rfl, rfl, ?_⟩
    rw [q3]
    simp (maxSteps := 400000) (disch := omega) only [push_cast, ↓reduceIte, reduceCtorEq, Nat.reduceAdd, Nat.reduceSub, Nat.reduceEqDiff, Nat.reduceLeDiff, Nat.reduceLT, Nat.reduceBEq, Nat.reduceDiv, Nat.reduceMod, Nat.reducePow, Nat.reduceMul, Int.reduceToNat, Int.reduceLT, Int.reduceLE]
    repeat' (first | refine WK_go ?_ | refine W_seqL ?_ | refine W_seq ?_ | refine W_block ?_ | ((first | refine W_regL ?_ | refine W_skip ?_ | refine W_exit ?_); simp (maxSteps := 400000) (disch := omega) only [push_cast, ↓reduceIte, reduceCtorEq, Nat.reduceAdd, Nat.reduceSub, Nat.reduceEqDiff, Nat.reduceLeDiff, Nat.reduceLT, Nat.reduceBEq, Nat.reduceDiv, Nat.reduceMod, Nat.reducePow, Nat.reduceMul, Int.reduceToNat, Int.reduceLT, Int.reduceLE, keepL]) | refine And.intro (by omega) ?_ | refine And.intro (by intro hq; (try simp only [Bool.and_eq_true, Bool.or_eq_true, Bool.and_eq_false_iff, Bool.or_eq_false_iff, decide_eq_true_eq, decide_eq_false_iff_not, Bool.not_eq_true', Bool.not_eq_false', beq_iff_eq, beq_eq_false_iff_ne, ne_eq] at hq); omega) ?_ | fail)
    exact ⟨c + 1, by omega, by omega, rfl, rfl⟩
  · obtain rfl : c = X.length := by omega
    rw [swL_all hz]
    repeat' (first | refine WK_go ?_ | refine W_seqL ?_ | refine W_seq ?_ | refine W_block ?_ | ((first | refine W_regL ?_ | refine W_skip ?_ | refine W_exit ?_); simp (maxSteps := 400000) (disch := omega) only [push_cast, ↓reduceIte, reduceCtorEq, Nat.reduceAdd, Nat.reduceSub, Nat.reduceEqDiff, Nat.reduceLeDiff, Nat.reduceLT, Nat.reduceBEq, Nat.reduceDiv, Nat.reduceMod, Nat.reducePow, Nat.reduceMul, Int.reduceToNat, Int.reduceLT, Int.reduceLE, keepL]) | refine And.intro (by omega) ?_ | refine And.intro (by intro hq; (try simp only [Bool.and_eq_true, Bool.or_eq_true, Bool.and_eq_false_iff, Bool.or_eq_false_iff, decide_eq_true_eq, decide_eq_false_iff_not, Bool.not_eq_true', Bool.not_eq_false', beq_iff_eq, beq_eq_false_iff_ne, ne_eq] at hq); omega) ?_ | fail)
theorem i127 {s : S} {k st : Nat} {gc : Nat} {ca : List AV} {L L' : List Frc} (P X Md Z Q : List Frc) {a b n : Int} {K : AV → S → Prop} (hk : lm s.mem k = some (rF st L)) (hfr : ∀ j, s.nx ≤ j → lm s.mem j = none) (hlen : L.length ≤ 1000000)
    (hL : L = P ++ (X ++ (Md ++ (Z ++ Q)))) (hL' : P ++ (Z ++ (Md ++ (X ++ Q))) = L') (hz : Z.length = X.length) (ha : a = P.length) (hb : b = P.length + X.length + Md.length) (hn : n = X.length) (hK : K (.tup []) ⟨s.tm, setm s.mem k (rF st L'), s.nx⟩) :
    Inl Try.prog 127 [.row k st, iv a, iv b, iv n, .clo gc [] ca] s K := by
  subst ha hb hn hL'
  subst hL
  simp only [List.length_append] at hlen
  exact Inl_row mixed Xt127 rfl hk hfr (fun M nx h1 h2 => w127 P X Md Z Q hz (by omega) h1 h2) hK
theorem w125 {M : List (Nat × Blk)} {k st nx : Nat} {gc : Nat} {ca : List AV} (P X Y Q : List Frc) (hX : 0 < X.length) (hY : 0 < Y.length) (hlen : (P ++ (Y ++ (X ++ Q))).length ≤ 1000000) (hk : k < nx) (hfr : ∀ j, nx ≤ j → lm M j = none) :
    W Try.prog 58 Xn125_0 ⟨initT 0 [.row k st, iv P.length, iv (P.length + X.length), iv (P.length + X.length + Y.length), .clo gc [] ca], setm M k (rF st (P ++ (X ++ (Y ++ Q)))), nx⟩
      (fun e s' => (e = .n ∨ e = .r) ∧ s'.mem = setm M k (rF st (P ++ (Y ++ (X ++ Q))))) := by
  have hfr' : ∀ b : Blk, ∀ j, nx ≤ j → lm (setm M k b) j = none := fun b j hj => by rw [lm_set_other _ _ (by omega)]; exact hfr j hj
  obtain ⟨T, hT⟩ : ∃ T, T = P ++ (Y ++ (X ++ Q)) := ⟨_, rfl⟩
  obtain ⟨m, hm⟩ : ∃ m : Int, m = P.length + X.length := ⟨_, rfl⟩
  have hlenT : T.length ≤ 1000000 := by rw [hT]; exact hlen
  simp only [List.length_append] at hlen
  have e1 : m - P.length = X.length := by omega
  have e2 : m + Y.length - m = Y.length := by omega
  rw [← hT, ← hm]
  simp (maxSteps := 400000) (disch := omega) only [push_cast, ↓reduceIte, reduceCtorEq, Nat.reduceAdd, Nat.reduceSub, Nat.reduceEqDiff, Nat.reduceLeDiff, Nat.reduceLT, Nat.reduceBEq, Nat.reduceDiv, Nat.reduceMod, Nat.reducePow, Nat.reduceMul, Int.reduceToNat, Int.reduceLT, Int.reduceLE, initT]
  repeat' (first | refine WK_go ?_ | refine W_seqL ?_ | refine W_seq ?_ | refine W_block ?_ | ((first | refine W_regL ?_ | refine W_skip ?_ | refine W_exit ?_); simp (maxSteps := 400000) (disch := omega) only [push_cast, ↓reduceIte, reduceCtorEq, Nat.reduceAdd, Nat.reduceSub, Nat.reduceEqDiff, Nat.reduceLeDiff, Nat.reduceLT, Nat.reduceBEq, Nat.reduceDiv, Nat.reduceMod, Nat.reducePow, Nat.reduceMul, Int.reduceToNat, Int.reduceLT, Int.reduceLE, e1, e2]) | refine And.intro (by omega) ?_ | refine And.intro (by intro hq; (try simp only [Bool.and_eq_true, Bool.or_eq_true, Bool.and_eq_false_iff, Bool.or_eq_false_iff, decide_eq_true_eq, decide_eq_false_iff_not, Bool.not_eq_true', Bool.not_eq_false', beq_iff_eq, beq_eq_false_iff_ne, ne_eq] at hq); omega) ?_ | fail)
  refine W_loopM (fun q : (List Frc × List Frc) × (List Frc × List Frc) => [(10, iv q.1.2.length), (11, iv q.2.1.length)]) (fun q => setm M k (rF st (q.1.1 ++ (q.1.2 ++ (q.2.1 ++ q.2.2))))) (fun q => (0 < q.1.2.length ∧ 0 < q.2.1.length) ∧ m = q.1.1.length + q.1.2.length ∧ q.1.1 ++ (q.2.1 ++ (q.1.2 ++ q.2.2)) = T) (fun q => q.1.2.length + q.2.1.length) nx (fun c _ => hfr' _) ((P, X), (Y, Q)) ⟨⟨hX, hY⟩, hm, hT.symm⟩ (by rfl) (by rfl) (fun q hq => ?_)
  clear e1 e2 hm hT hlen hX hY
  obtain ⟨⟨P, X⟩, ⟨Y, Q⟩⟩ := q
  obtain ⟨⟨hX, hY⟩, hm, hT⟩ := hq
  simp only at hX hY hm hT
  have hlT : P.length + X.length + Y.length + Q.length ≤ 1000000 := by
    have := congrArg List.length hT
    simp only [List.length_append] at this
    omega
  simp (maxSteps := 400000) (disch := omega) only [push_cast, ↓reduceIte, reduceCtorEq, Nat.reduceAdd, Nat.reduceSub, Nat.reduceEqDiff, Nat.reduceLeDiff, Nat.reduceLT, Nat.reduceBEq, Nat.reduceDiv, Nat.reduceMod, Nat.reducePow, Nat.reduceMul, Int.reduceToNat, Int.reduceLT, Int.reduceLE, keepL]
  repeat' (first | refine WK_go ?_ | refine W_seqL ?_ | refine W_seq ?_ | refine W_block ?_ | ((first | refine W_regL ?_ | refine W_skip ?_ | refine W_exit ?_); simp (maxSteps := 400000) (disch := omega) only [push_cast, ↓reduceIte, reduceCtorEq, Nat.reduceAdd, Nat.reduceSub, Nat.reduceEqDiff, Nat.reduceLeDiff, Nat.reduceLT, Nat.reduceBEq, Nat.reduceDiv, Nat.reduceMod, Nat.reducePow, Nat.reduceMul, Int.reduceToNat, Int.reduceLT, Int.reduceLE, keepL]) | refine And.intro (by omega) ?_ | refine And.intro (by intro hq; (try simp only [Bool.and_eq_true, Bool.or_eq_true, Bool.and_eq_false_iff, Bool.or_eq_false_iff, decide_eq_true_eq, decide_eq_false_iff_not, Bool.not_eq_true', Bool.not_eq_false', beq_iff_eq, beq_eq_false_iff_ne, ne_eq] at hq); omega) ?_ | fail)
  refine W_cond (by rfl) (fun h5 => ?_) (fun h5 => ?_)
  · have hne : X.length ≠ Y.length := by
      simp only [bne_iff_ne, ne_eq] at h5; omega
    repeat' (first | refine WK_go ?_ | refine W_seqL ?_ | refine W_seq ?_ | refine W_block ?_ | ((first | refine W_regL ?_ | refine W_skip ?_ | refine W_exit ?_); simp (maxSteps := 400000) (disch := omega) only [push_cast, ↓reduceIte, reduceCtorEq, Nat.reduceAdd, Nat.reduceSub, Nat.reduceEqDiff, Nat.reduceLeDiff, Nat.reduceLT, Nat.reduceBEq, Nat.reduceDiv, Nat.reduceMod, Nat.reducePow, Nat.reduceMul, Int.reduceToNat, Int.reduceLT, Int.reduceLE, keepL]) | refine And.intro (by omega) ?_ | refine And.intro (by intro hq; (try simp only [Bool.and_eq_true, Bool.or_eq_true, Bool.and_eq_false_iff, Bool.or_eq_false_iff, decide_eq_true_eq, decide_eq_false_iff_not, Bool.not_eq_true', Bool.not_eq_false', beq_iff_eq, beq_eq_false_iff_ne, ne_eq] at hq); omega) ?_ | fail)
    refine W_condD (by rfl) (fun h6 => ?_) (fun h6 => ?_)
    · obtain ⟨X1, X2, rfl, hl⟩ : ∃ X1 X2, X = X1 ++ X2 ∧ X1.length = Y.length := ⟨X.take Y.length, X.drop Y.length, (List.take_append_drop _ _).symm, by rw [List.length_take]; omega⟩
      have hxl : (X1 ++ X2).length = X1.length + X2.length := List.length_append
      repeat' (first | refine WK_go ?_ | refine W_seqL ?_ | refine W_seq ?_ | refine W_block ?_ | ((first | refine W_regL ?_ | refine W_skip ?_ | refine W_exit ?_); simp (maxSteps := 400000) (disch := omega) only [push_cast, ↓reduceIte, reduceCtorEq, Nat.reduceAdd, Nat.reduceSub, Nat.reduceEqDiff, Nat.reduceLeDiff, Nat.reduceLT, Nat.reduceBEq, Nat.reduceDiv, Nat.reduceMod, Nat.reducePow, Nat.reduceMul, Int.reduceToNat, Int.reduceLT, Int.reduceLE, keepL]) | refine And.intro (by omega) ?_ | refine And.intro (by intro hq; (try simp only [Bool.and_eq_true, Bool.or_eq_true, Bool.and_eq_false_iff, Bool.or_eq_false_iff, decide_eq_true_eq, decide_eq_false_iff_not, Bool.not_eq_true', Bool.not_eq_false', beq_iff_eq, beq_eq_false_iff_ne, ne_eq] at hq); omega) ?_ | fail)
      refine CallC.inl (i127 P X1 X2 Y Q (lm_set_same _ _ _) (fun j hj => hfr' _ j (by dsimp only at hj; omega)) (by simp only [List.length_append]; omega) (by simp) rfl (by omega) (by omega) (by omega) (by omega) ?_)
      simp (maxSteps := 400000) (disch := omega) only [push_cast, ↓reduceIte, reduceCtorEq, Nat.reduceAdd, Nat.reduceSub, Nat.reduceEqDiff, Nat.reduceLeDiff, Nat.reduceLT, Nat.reduceBEq, Nat.reduceDiv, Nat.reduceMod, Nat.reducePow, Nat.reduceMul, Int.reduceToNat, Int.reduceLT, Int.reduceLE]
      repeat' (first | refine WK_go ?_ | refine W_seqL ?_ | refine W_seq ?_ | refine W_block ?_ | ((first | refine W_regL ?_ | refine W_skip ?_ | refine W_exit ?_); simp (maxSteps := 400000) (disch := omega) only [push_cast, ↓reduceIte, reduceCtorEq, Nat.reduceAdd, Nat.reduceSub, Nat.reduceEqDiff, Nat.reduceLeDiff, Nat.reduceLT, Nat.reduceBEq, Nat.reduceDiv, Nat.reduceMod, Nat.reducePow, Nat.reduceMul, Int.reduceToNat, Int.reduceLT, Int.reduceLE, keepL]) | refine And.intro (by omega) ?_ | refine And.intro (by intro hq; (try simp only [Bool.and_eq_true, Bool.or_eq_true, Bool.and_eq_false_iff, Bool.or_eq_false_iff, decide_eq_true_eq, decide_eq_false_iff_not, Bool.not_eq_true', Bool.not_eq_false', beq_iff_eq, beq_eq_false_iff_ne, ne_eq] at hq); omega) ?_ | fail)
      have e3 : (((X1 ++ X2).length : Nat) : Int) - Y.length = X2.length := by omega
      have e4 : ((Y.length : Nat) : Int) = X1.length := by omega
      exact ⟨((P ++ Y, X2), (X1, Q)), ⟨⟨by dsimp only; omega, by dsimp only; omega⟩, by simp only [List.length_append]; omega, by rw [← hT]; simp⟩, by dsimp only; omega, by rw [e3, e4], by simp⟩
    · obtain ⟨Y1, Y2, rfl, hl⟩ : ∃ Y1 Y2, Y = Y1 ++ Y2 ∧ Y2.length = X.length := ⟨Y.take (Y.length - X.length), Y.drop (Y.length - X.length), (List.take_append_drop _ _).symm, by rw [List.length_drop]; omega⟩
      have hyl : (Y1 ++ Y2).length = Y1.length + Y2.length := List.length_append
      repeat' (first | refine WK_go ?_ | refine W_seqL ?_ | refine W_seq ?_ | refine W_block ?_ | ((first | refine W_regL ?_ | refine W_skip ?_ | refine W_exit ?_); simp (maxSteps := 400000) (disch := omega) only [push_cast, ↓reduceIte, reduceCtorEq, Nat.reduceAdd, Nat.reduceSub, Nat.reduceEqDiff, Nat.reduceLeDiff, Nat.reduceLT, Nat.reduceBEq, Nat.reduceDiv, Nat.reduceMod, Nat.reducePow, Nat.reduceMul, Int.reduceToNat, Int.reduceLT, Int.reduceLE, keepL]) | refine And.intro (by omega) ?_ | refine And.intro (by intro hq; (try simp only [Bool.and_eq_true, Bool.or_eq_true, Bool.and_eq_false_iff, Bool.or_eq_false_iff, decide_eq_true_eq, decide_eq_false_iff_not, Bool.not_eq_true', Bool.not_eq_false', beq_iff_eq, beq_eq_false_iff_ne, ne_eq] at hq); omega) ?_ | fail)
      refine CallC.inl (i127 P X Y1 Y2 Q (lm_set_same _ _ _) (fun j hj => hfr' _ j (by dsimp only at hj; omega)) (by simp only [List.length_append]; omega) (by simp) rfl (by omega) (by omega) (by omega) (by omega) ?_)
      simp (maxSteps := 400000) (disch := omega) only [push_cast, ↓reduceIte, reduceCtorEq, Nat.reduceAdd, Nat.reduceSub, Nat.reduceEqDiff, Nat.reduceLeDiff, Nat.reduceLT, Nat.reduceBEq, Nat.reduceDiv, Nat.reduceMod, Nat.reducePow, Nat.reduceMul, Int.reduceToNat, Int.reduceLT, Int.reduceLE]
      repeat' (first | refine WK_go ?_ | refine W_seqL ?_ | refine W_seq ?_ | refine W_block ?_ | ((first | refine W_regL ?_ | refine W_skip ?_ | refine W_exit ?_); simp (maxSteps := 400000) (disch := omega) only [push_cast, ↓reduceIte, reduceCtorEq, Nat.reduceAdd, Nat.reduceSub, Nat.reduceEqDiff, Nat.reduceLeDiff, Nat.reduceLT, Nat.reduceBEq, Nat.reduceDiv, Nat.reduceMod, Nat.reducePow, Nat.reduceMul, Int.reduceToNat, Int.reduceLT, Int.reduceLE, keepL]) | refine And.intro (by omega) ?_ | refine And.intro (by intro hq; (try simp only [Bool.and_eq_true, Bool.or_eq_true, Bool.and_eq_false_iff, Bool.or_eq_false_iff, decide_eq_true_eq, decide_eq_false_iff_not, Bool.not_eq_true', Bool.not_eq_false', beq_iff_eq, beq_eq_false_iff_ne, ne_eq] at hq); omega) ?_ | fail)
      have e3 : (((Y1 ++ Y2).length : Nat) : Int) - X.length = Y1.length := by omega
      have e4 : ((X.length : Nat) : Int) = Y2.length := by omega
      exact ⟨((P, Y2), (Y1, X ++ Q)), ⟨⟨by dsimp only; omega, by dsimp only; omega⟩, by dsimp only; omega, by rw [← hT]; simp⟩, by dsimp only; omega, by rw [e3, e4], by simp⟩
  · have hne : X.length = Y.length := by
      simp only [bne_eq_false_iff_eq] at h5; omega
    repeat' (first | refine WK_go ?_ | refine W_seqL ?_ | refine W_seq ?_ | refine W_block ?_ | ((first | refine W_regL ?_ | refine W_skip ?_ | refine W_exit ?_); simp (maxSteps := 400000) (disch := omega) only [push_cast, ↓reduceIte, reduceCtorEq, Nat.reduceAdd, Nat.reduceSub, Nat.reduceEqDiff, Nat.reduceLeDiff, Nat.reduceLT, Nat.reduceBEq, Nat.reduceDiv, Nat.reduceMod, Nat.reducePow, Nat.reduceMul, Int.reduceToNat, Int.reduceLT, Int.reduceLE, keepL]) | refine And.intro (by omega) ?_ | refine And.intro (by intro hq; (try simp only [Bool.and_eq_true, Bool.or_eq_true, Bool.and_eq_false_iff, Bool.or_eq_false_iff, decide_eq_true_eq, decide_eq_false_iff_not, Bool.not_eq_true', Bool.not_eq_false', beq_iff_eq, beq_eq_false_iff_ne, ne_eq] at hq); omega) ?_ | fail)
    refine CallC.inl (i127 P X [] Y Q (lm_set_same _ _ _) (fun j hj => hfr' _ j (by dsimp only at hj; omega)) (by simp only [List.length_append]; omega) (by simp) rfl (by omega) (by omega) (by simp; omega) (by omega) ?_)
    simp (maxSteps := 400000) (disch := omega) only [push_cast, ↓reduceIte, reduceCtorEq, Nat.reduceAdd, Nat.reduceSub, Nat.reduceEqDiff, Nat.reduceLeDiff, Nat.reduceLT, Nat.reduceBEq, Nat.reduceDiv, Nat.reduceMod, Nat.reducePow, Nat.reduceMul, Int.reduceToNat, Int.reduceLT, Int.reduceLE]
    repeat' (first | refine WK_go ?_ | refine W_seqL ?_ | refine W_seq ?_ | refine W_block ?_ | ((first | refine W_regL ?_ | refine W_skip ?_ | refine W_exit ?_); simp (maxSteps := 400000) (disch := omega) only [push_cast, ↓reduceIte, reduceCtorEq, Nat.reduceAdd, Nat.reduceSub, Nat.reduceEqDiff, Nat.reduceLeDiff, Nat.reduceLT, Nat.reduceBEq, Nat.reduceDiv, Nat.reduceMod, Nat.reducePow, Nat.reduceMul, Int.reduceToNat, Int.reduceLT, Int.reduceLE, keepL]) | refine And.intro (by omega) ?_ | refine And.intro (by intro hq; (try simp only [Bool.and_eq_true, Bool.or_eq_true, Bool.and_eq_false_iff, Bool.or_eq_false_iff, decide_eq_true_eq, decide_eq_false_iff_not, Bool.not_eq_true', Bool.not_eq_false', beq_iff_eq, beq_eq_false_iff_ne, ne_eq] at hq); omega) ?_ | fail)
    rw [← hT]
theorem i125 {s : S} {k st : Nat} {gc : Nat} {ca : List AV} {L L' : List Frc} (P X Y Q : List Frc) {a b n : Int} {K : AV → S → Prop} (hk : lm s.mem k = some (rF st L)) (hfr : ∀ j, s.nx ≤ j → lm s.mem j = none) (hlen : L.length ≤ 1000000)
    (hX : 0 < X.length) (hY : 0 < Y.length) (hL : L = P ++ (X ++ (Y ++ Q))) (hL' : P ++ (Y ++ (X ++ Q)) = L') (ha : a = P.length) (hb : b = P.length + X.length) (hn : n = P.length + X.length + Y.length) (hK : K (.tup []) ⟨s.tm, setm s.mem k (rF st L'), s.nx⟩) :
    Inl Try.prog 125 [.row k st, iv a, iv b, iv n, .clo gc [] ca] s K := by
  subst ha hb hn hL'
  subst hL
  simp only [List.length_append] at hlen
  exact Inl_row mixed Xt125 rfl hk hfr (fun M nx h1 h2 => w125 P X Y Q hX hY (by simp only [List.length_append]; omega) h1 h2) hK
end Go.Proofs.Ytbdnnicodailcaa

/- Sorted lists: where one falls into two; an element on its way: plain. -/
namespace Go.Proofs.Ytbdnnicodailcaa
set_option linter.unusedVariables false
section
variable {α : Type} {lt : α → α → Bool}
theorem srt_get {l : List α} (h : SrtL lt l) (d : α) {i j : Nat} (hij : i < j) (hj : j < l.length) : lt (l.getD j d) (l.getD i d) = false := by
  have := List.pairwise_iff_getElem.1 h i j (by omega) hj hij
  simpa [List.getD, hj, show i < l.length by omega] using this
theorem srt_take {l : List α} (h : SrtL lt l) (n : Nat) : SrtL lt (l.take n) := List.Pairwise.sublist (List.take_sublist n l) h
theorem srt_drop {l : List α} (h : SrtL lt l) (n : Nat) : SrtL lt (l.drop n) := List.Pairwise.sublist (List.drop_sublist n l) h
theorem mem_take2 {l : List α} {x d : α} {n : Nat} (hx : x ∈ l.take n) : ∃ i, i < n ∧ i < l.length ∧ x = l.getD i d := by
  obtain ⟨i, hi, rfl⟩ := List.getElem_of_mem hx
  rw [List.length_take] at hi
  refine ⟨i, by omega, by omega, ?_⟩
  rw [List.getElem_take]
  simp [List.getD, show i < l.length by omega]
theorem mem_drop2 {l : List α} {x d : α} {n : Nat} (hx : x ∈ l.drop n) : ∃ i, n ≤ i ∧ i < l.length ∧ x = l.getD i d := by
  obtain ⟨i, hi, rfl⟩ := List.getElem_of_mem hx
  rw [List.length_drop] at hi
  refine ⟨n + i, by omega, by omega, ?_⟩
  rw [List.getElem_drop]
  simp [List.getD, show n + i < l.length by omega]
/-- below a place -/
theorem le_of_at (hw : SW lt) {l : List α} (h : SrtL lt l) (d : α) {n : Nat} {v : α} (hn : n = 0 ∨ lt v (l.getD (n - 1) d) = false) (hn2 : n ≤ l.length) : ∀ u ∈ l.take n, lt v u = false := fun u hu => by
  obtain ⟨i, h1, h2, rfl⟩ := mem_take2 (d := d) hu
  rcases hn with hn | hn
  · omega
  · by_cases q : i = n - 1
    · rw [q]; exact hn
    · exact hw.nt (srt_get h d (show i < n - 1 by omega) (by omega)) hn
theorem gt_of_at (hw : SW lt) {l : List α} (h : SrtL lt l) (d : α) {n : Nat} {v : α} (hn : n = l.length ∨ lt v (l.getD n d) = true) : ∀ u ∈ l.drop n, lt v u = true := fun u hu => by
  obtain ⟨i, h1, h2, rfl⟩ := mem_drop2 (d := d) hu
  rcases hn with hn | hn
  · omega
  · by_cases q : i = n
    · rw [q]; exact hn
    · exact hw.lt_le hn (srt_get h d (show n < i by omega) h2)
theorem lt_of_at (hw : SW lt) {l : List α} (h : SrtL lt l) (d : α) {n : Nat} {u : α} (hn : n = 0 ∨ lt (l.getD (n - 1) d) u = true) (hn2 : n ≤ l.length) : ∀ v ∈ l.take n, lt v u = true := fun v hv => by
  obtain ⟨i, h1, h2, rfl⟩ := mem_take2 (d := d) hv
  rcases hn with hn | hn
  · omega
  · by_cases q : i = n - 1
    · rw [q]; exact hn
    · exact hw.le_lt (srt_get h d (show i < n - 1 by omega) (by omega)) hn
theorem ge_of_at (hw : SW lt) {l : List α} (h : SrtL lt l) (d : α) {n : Nat} {u : α} (hn : n = l.length ∨ lt (l.getD n d) u = false) : ∀ v ∈ l.drop n, lt v u = false := fun v hv => by
  obtain ⟨i, h1, h2, rfl⟩ := mem_drop2 (d := d) hv
  rcases hn with hn | hn
  · omega
  · by_cases q : i = n
    · rw [q]; exact hn
    · exact hw.nt hn (srt_get h d (show n < i by omega) h2)
theorem one_at (hw : SW lt) {V : List α} (h : SrtL lt V) (d u : α) {t : Nat} (ht : t ≤ V.length) (h1 : t = 0 ∨ lt (V.getD (t - 1) d) u = true) (h2 : t = V.length ∨ lt (V.getD t d) u = false) : mrg lt [u] V = V.take t ++ u :: V.drop t := by
  have := one_mrg (V1 := V.take t) (V2 := V.drop t) (lt_of_at hw h d h1 ht) (ge_of_at hw h d h2)
  rwa [List.take_append_drop] at this
theorem at_one (hw : SW lt) {U : List α} (h : SrtL lt U) (d v : α) {t : Nat} (ht : t ≤ U.length) (h1 : t = 0 ∨ lt v (U.getD (t - 1) d) = false) (h2 : t = U.length ∨ lt v (U.getD t d) = true) : mrg lt U [v] = U.take t ++ v :: U.drop t := by
  have := mrg_one (U1 := U.take t) (U2 := U.drop t) (le_of_at hw h d h1 ht) (gt_of_at hw h d h2)
  rwa [List.take_append_drop] at this
theorem ins_at (hw : SW lt) {U : List α} (h : SrtL lt U) (d v : α) {t : Nat} (ht : t ≤ U.length) (h1 : t = 0 ∨ lt v (U.getD (t - 1) d) = false) (h2 : ∀ u ∈ U.drop t, lt v u = true) : ins lt v U = U.take t ++ v :: U.drop t := by
  have := ins_split (A := U.take t) (B := U.drop t) (le_of_at hw h d h1 ht) h2
  rwa [List.take_append_drop] at this
theorem sym_split (hw : SW lt) {U V : List α} (hU : SrtL lt U) (hV : SrtL lt V) (d : α) {s e : Nat} (hs : s ≤ U.length) (he : e ≤ V.length)
    (h1 : s = 0 ∨ e = V.length ∨ lt (V.getD e d) (U.getD (s - 1) d) = false) (h2 : e = 0 ∨ s = U.length ∨ lt (V.getD (e - 1) d) (U.getD s d) = true) :
    mrg lt U V = mrg lt (U.take s) (V.take e) ++ mrg lt (U.drop s) (V.drop e) := by
  have := mrg_split (lt := lt) (U.take s) (V.take e) (U2 := U.drop s) (V2 := V.drop e) (fun u hu v hv => by
    rcases h1 with h1 | h1 | h1
    · rw [h1] at hu; simp at hu
    · rw [h1] at hv; simp at hv
    · exact ge_of_at hw hV d (.inr (le_of_at hw hU d (.inr h1) hs u hu)) v hv) (fun v hv u hu => by
    rcases h2 with h2 | h2 | h2
    · rw [h2] at hv; simp at hv
    · rw [h2] at hu; simp at hu
    · exact gt_of_at hw hU d (.inr (lt_of_at hw hV d (.inr h2) he v hv)) u hu)
  rwa [List.take_append_drop, List.take_append_drop] at this
/-- an element on its way through a list -/
def insL (P A : List α) (v : α) (e : Nat) (Q : List α) : List α := (P ++ A.take e) ++ v :: (A.drop e ++ Q)
theorem insL_len {P A Q : List α} {v : α} {e : Nat} (he : e ≤ A.length) : (insL P A v e Q).length = P.length + A.length + 1 + Q.length := by
  unfold insL
  simp only [List.length_append, List.length_cons, List.length_take, List.length_drop]; omega
theorem insL_at {P A Q : List α} {v : α} (d : α) {e : Nat} (he : e ≤ A.length) : (insL P A v e Q).getD (P.length + e) d = v := by
  unfold insL
  exact at_cons (by rw [List.length_append, List.length_take]; omega)
theorem insL_up {P A Q : List α} {v : α} (d : α) {e : Nat} (he : e < A.length) :
    (insL P A v e Q).getD (P.length + e + 1) d = A.getD e d ∧ ((insL P A v e Q).set (P.length + e) (A.getD e d)).set (P.length + e + 1) v = insL P A v (e + 1) Q := by
  have e1 : A.drop e = A.getD e d :: A.drop (e + 1) := by rw [List.drop_eq_getElem_cons he]; simp [List.getD, he]
  have e3 : A.take (e + 1) = A.take e ++ [A.getD e d] := by rw [List.take_succ_eq_append_getElem he]; simp [List.getD, he]
  have l1 : (P ++ A.take e).length = P.length + e := by rw [List.length_append, List.length_take]; omega
  unfold insL
  rw [e3, e1]
  generalize A.getD e d = x
  have l2 : ((P ++ A.take e) ++ [v]).length = P.length + e + 1 := by rw [List.length_append, l1]; rfl
  have l3 : ((P ++ A.take e) ++ [x]).length = P.length + e + 1 := by rw [List.length_append, l1]; rfl
  constructor
  · have r : (P ++ A.take e) ++ v :: ((x :: A.drop (e + 1)) ++ Q) = ((P ++ A.take e) ++ [v]) ++ x :: (A.drop (e + 1) ++ Q) := by simp
    rw [r]; exact at_cons l2
  · rw [set_cons l1]
    have r : (P ++ A.take e) ++ x :: ((x :: A.drop (e + 1)) ++ Q) = ((P ++ A.take e) ++ [x]) ++ x :: (A.drop (e + 1) ++ Q) := by simp
    rw [r, set_cons l3]
    simp
theorem insL_dn {P A Q : List α} {v : α} (d : α) {e : Nat} (he : e < A.length) :
    (insL P A v (e + 1) Q).getD (P.length + e) d = A.getD e d ∧ ((insL P A v (e + 1) Q).set (P.length + (e + 1)) (A.getD e d)).set (P.length + e) v = insL P A v e Q := by
  have e1 : A.drop e = A.getD e d :: A.drop (e + 1) := by rw [List.drop_eq_getElem_cons he]; simp [List.getD, he]
  have e3 : A.take (e + 1) = A.take e ++ [A.getD e d] := by rw [List.take_succ_eq_append_getElem he]; simp [List.getD, he]
  have l1 : (P ++ A.take e).length = P.length + e := by rw [List.length_append, List.length_take]; omega
  unfold insL
  rw [e3, e1]
  generalize A.getD e d = x
  have l3 : (P ++ (A.take e ++ [x])).length = P.length + (e + 1) := by rw [← List.append_assoc, List.length_append, l1]; rfl
  constructor
  · have r : (P ++ (A.take e ++ [x])) ++ v :: (A.drop (e + 1) ++ Q) = (P ++ A.take e) ++ x :: (v :: (A.drop (e + 1) ++ Q)) := by simp
    rw [r]; exact at_cons l1
  · rw [set_cons l3]
    have r : (P ++ (A.take e ++ [x])) ++ x :: (A.drop (e + 1) ++ Q) = (P ++ A.take e) ++ x :: (x :: (A.drop (e + 1) ++ Q)) := by simp
    rw [r, set_cons l1]
    simp
theorem get_U {P U R : List α} (d : α) {c : Nat} (h : c < U.length) : (P ++ (U ++ R)).getD (P.length + c) d = U.getD c d := by
  simp only [List.getD_eq_getElem?_getD]
  rw [List.getElem?_append_right (by omega), List.getElem?_append_left (by omega), Nat.add_sub_cancel_left]
theorem get_V {P U V R : List α} (d : α) {c : Nat} (h : c < V.length) : (P ++ (U ++ (V ++ R))).getD (P.length + U.length + c) d = V.getD c d := by
  have := get_U (P := P ++ U) (U := V) (R := R) d h
  rw [List.length_append, List.append_assoc] at this
  exact this
end
end Go.Proofs.Ytbdnnicodailcaa

/- Stable sorting, walked: insertion. -/
namespace Go.Proofs.Ytbdnnicodailcaa
open Go Sy
set_option maxRecDepth 100000
set_option maxHeartbeats 4000000
set_option linter.unusedVariables false
set_option linter.unusedSimpArgs false
theorem w118 {M : List (Nat × Blk)} {k st nx : Nat} {gc : Nat} {ca : List AV} {lt : Frc → Frc → Bool} {cv : Frc → Frc → Int} (hw : SW lt) (hfz : frzAll ca = true) (hcv : ∀ x y, lt x y = decide (cv x y < 0))
    (hg : ∀ x y, Sy.Fn Try.prog gc (.agg (cF x) :: .agg (cF y) :: ca) (iv (cv x y))) (P U Q : List Frc) (hlen : P.length + U.length + Q.length ≤ 1000000) (hk : k < nx) (hfr : ∀ j, nx ≤ j → lm M j = none) :
    W Try.prog 53 Xn118_0 ⟨initT 0 [.row k st, iv P.length, iv (P.length + U.length), .clo gc [] ca], setm M k (rF st (P ++ (U ++ Q))), nx⟩
      (fun e s' => (e = .n ∨ e = .r) ∧ s'.mem = setm M k (rF st (P ++ (isort lt U ++ Q)))) := by
  have hfr' : ∀ b : Blk, ∀ j, nx ≤ j → lm (setm M k b) j = none := fun b j hj => by rw [lm_set_other _ _ (by omega)]; exact hfr j hj
  simp (maxSteps := 400000) (disch := omega) only [push_cast, ↓reduceIte, reduceCtorEq, Nat.reduceAdd, Nat.reduceSub, Nat.reduceEqDiff, Nat.reduceLeDiff, Nat.reduceLT, Nat.reduceBEq, Nat.reduceDiv, Nat.reduceMod, Nat.reducePow, Nat.reduceMul, Int.reduceToNat, Int.reduceLT, Int.reduceLE, initT]
  repeat' (first | refine WK_go ?_ | refine W_seqL ?_ | refine W_seq ?_ | refine W_block ?_ | ((first | refine W_regL ?_ | refine W_skip ?_ | refine W_exit ?_); simp (maxSteps := 400000) (disch := omega) only [push_cast, ↓reduceIte, reduceCtorEq, Nat.reduceAdd, Nat.reduceSub, Nat.reduceEqDiff, Nat.reduceLeDiff, Nat.reduceLT, Nat.reduceBEq, Nat.reduceDiv, Nat.reduceMod, Nat.reducePow, Nat.reduceMul, Int.reduceToNat, Int.reduceLT, Int.reduceLE]) | refine And.intro (by omega) ?_ | refine And.intro (by intro hq; (try simp only [Bool.and_eq_true, Bool.or_eq_true, Bool.and_eq_false_iff, Bool.or_eq_false_iff, decide_eq_true_eq, decide_eq_false_iff_not, Bool.not_eq_true', Bool.not_eq_false', beq_iff_eq, beq_eq_false_iff_ne, ne_eq] at hq); omega) ?_ | fail)
  refine W_loopM (fun c : Nat => [(8, iv ((P.length : Int) + 1 + c))]) (fun c => setm M k (rF st (P ++ (isort lt (U.take (c + 1)) ++ (U.drop (c + 1) ++ Q))))) (fun c => c = 0 ∨ c + 1 ≤ U.length) (fun c => U.length - c) nx (fun c _ => hfr' _) 0 (.inl rfl) (by rfl) (by
    have : isort lt (U.take 1) ++ U.drop 1 = U := by
      cases U with
      | nil => rfl
      | cons u U => rfl
    rw [← List.append_assoc (isort lt _), this]) (fun c hc => ?_)
  simp (maxSteps := 400000) (disch := omega) only [push_cast, ↓reduceIte, reduceCtorEq, Nat.reduceAdd, Nat.reduceSub, Nat.reduceEqDiff, Nat.reduceLeDiff, Nat.reduceLT, Nat.reduceBEq, Nat.reduceDiv, Nat.reduceMod, Nat.reducePow, Nat.reduceMul, Int.reduceToNat, Int.reduceLT, Int.reduceLE, keepL]
  repeat' (first | refine WK_go ?_ | refine W_seqL ?_ | refine W_seq ?_ | refine W_block ?_ | ((first | refine W_regL ?_ | refine W_skip ?_ | refine W_exit ?_); simp (maxSteps := 400000) (disch := omega) only [push_cast, ↓reduceIte, reduceCtorEq, Nat.reduceAdd, Nat.reduceSub, Nat.reduceEqDiff, Nat.reduceLeDiff, Nat.reduceLT, Nat.reduceBEq, Nat.reduceDiv, Nat.reduceMod, Nat.reducePow, Nat.reduceMul, Int.reduceToNat, Int.reduceLT, Int.reduceLE, keepL]) | refine And.intro (by omega) ?_ | refine And.intro (by intro hq; (try simp only [Bool.and_eq_true, Bool.or_eq_true, Bool.and_eq_false_iff, Bool.or_eq_false_iff, decide_eq_true_eq, decide_eq_false_iff_not, Bool.not_eq_true', Bool.not_eq_false', beq_iff_eq, beq_eq_false_iff_ne, ne_eq] at hq); omega) ?_ | fail)
  refine W_condD (by rfl) (fun h5 => ?_) (fun h5 => ?_)
  · have hlt : c + 1 < U.length := by omega
    have hA : SrtL lt (isort lt (U.take (c + 1))) := srt_isort hw _
    have hAl : (isort lt (U.take (c + 1))).length = c + 1 := by rw [isort_len, List.length_take]; omega
    have hA2 : isort lt (U.take (c + 1 + 1)) = ins lt (U.getD (c + 1) dF) (isort lt (U.take (c + 1))) := by
      rw [List.take_succ_eq_append_getElem hlt, isort_snoc]
      simp [List.getD, hlt]
    have hdr : U.drop (c + 1) = U.getD (c + 1) dF :: U.drop (c + 1 + 1) := by rw [List.drop_eq_getElem_cons hlt]; simp [List.getD, hlt]
    have hdl : (U.drop (c + 1 + 1)).length = U.length - (c + 1 + 1) := List.length_drop
    rw [hdr]
    generalize isort lt (U.take (c + 1)) = A at *
    generalize U.getD (c + 1) dF = v at *
    generalize hR : U.drop (c + 1 + 1) ++ Q = R at *
    have hRl : R.length = U.length - (c + 1 + 1) + Q.length := by rw [← hR, List.length_append, hdl]
    have hini : P ++ (A ++ (v :: (U.drop (c + 1 + 1)) ++ Q)) = insL P A v A.length R := by
      unfold insL
      rw [List.take_length, List.drop_length, ← hR]; simp
    rw [hini]
    repeat' (first | refine WK_go ?_ | refine W_seqL ?_ | refine W_seq ?_ | refine W_block ?_ | ((first | refine W_regL ?_ | refine W_skip ?_ | refine W_exit ?_); simp (maxSteps := 400000) (disch := omega) only [push_cast, ↓reduceIte, reduceCtorEq, Nat.reduceAdd, Nat.reduceSub, Nat.reduceEqDiff, Nat.reduceLeDiff, Nat.reduceLT, Nat.reduceBEq, Nat.reduceDiv, Nat.reduceMod, Nat.reducePow, Nat.reduceMul, Int.reduceToNat, Int.reduceLT, Int.reduceLE, keepL]) | refine And.intro (by omega) ?_ | refine And.intro (by intro hq; (try simp only [Bool.and_eq_true, Bool.or_eq_true, Bool.and_eq_false_iff, Bool.or_eq_false_iff, decide_eq_true_eq, decide_eq_false_iff_not, Bool.not_eq_true', Bool.not_eq_false', beq_iff_eq, beq_eq_false_iff_ne, ne_eq] at hq); omega) ?_ | fail)
    refine W_loopM (fun e : Nat => [(9, iv ((P.length : Int) + e))]) (fun e => setm M k (rF st (insL P A v e R))) (fun e => e ≤ A.length ∧ ∀ u ∈ A.drop e, lt v u = true) (fun e => e) nx (fun c _ => hfr' _) A.length ⟨Nat.le_refl _, by rw [List.drop_length]; intro u hu; cases hu⟩ (by
      have e1 : (P.length : Int) + 1 + c = P.length + A.length := by omega
      rw [e1]; rfl) (by rfl) (fun e he => ?_)
    obtain ⟨he1, he2⟩ := he
    have hll := insL_len (P := P) (Q := R) (v := v) he1
    have hat := insL_at (P := P) (Q := R) (v := v) dF he1
    have ea : ((P.length : Int) + e).toNat = P.length + e := by omega
    obtain ⟨y, hy⟩ : ∃ y, (insL P A v e R).getD ((P.length : Int) + e - 1).toNat dF = y := ⟨_, rfl⟩
    have cg := hg v y
    simp (maxSteps := 400000) (disch := omega) only [push_cast, ↓reduceIte, reduceCtorEq, Nat.reduceAdd, Nat.reduceSub, Nat.reduceEqDiff, Nat.reduceLeDiff, Nat.reduceLT, Nat.reduceBEq, Nat.reduceDiv, Nat.reduceMod, Nat.reducePow, Nat.reduceMul, Int.reduceToNat, Int.reduceLT, Int.reduceLE, keepL]
    repeat' (first | refine WK_go ?_ | refine W_seqL ?_ | refine W_seq ?_ | refine W_block ?_ | ((first | refine W_regL ?_ | refine W_skip ?_ | refine W_exit ?_ | refine CallC.go _ (fun _ => ⟨trivial, cg⟩) rfl ?_); simp (maxSteps := 400000) (disch := omega) only [push_cast, ↓reduceIte, reduceCtorEq, Nat.reduceAdd, Nat.reduceSub, Nat.reduceEqDiff, Nat.reduceLeDiff, Nat.reduceLT, Nat.reduceBEq, Nat.reduceDiv, Nat.reduceMod, Nat.reducePow, Nat.reduceMul, Int.reduceToNat, Int.reduceLT, Int.reduceLE, keepL, hll, ea, hat, hy, tF, hfz, beq_self_eq_true]) | refine And.intro (by omega) ?_ | refine And.intro (by intro hq; (try simp only [Bool.and_eq_true, Bool.or_eq_true, Bool.and_eq_false_iff, Bool.or_eq_false_iff, decide_eq_true_eq, decide_eq_false_iff_not, Bool.not_eq_true', Bool.not_eq_false', beq_iff_eq, beq_eq_false_iff_ne, ne_eq] at hq); omega) ?_ | fail)
    refine W_cond (by rfl) (fun hb => ?_) (fun hb => ?_)
    · simp only [Bool.and_eq_true, decide_eq_true_eq] at hb
      obtain ⟨e', rfl⟩ : ∃ e', e = e' + 1 := ⟨e - 1, by omega⟩
      have hdn := insL_dn (P := P) (Q := R) (v := v) dF (show e' < A.length by omega)
      obtain ⟨q1, q2⟩ := hdn
      have eb : ((P.length : Int) + ((e' + 1 : Nat) : Int) - 1).toNat = P.length + e' := by omega
      rw [eb, q1] at hy
      have hlty : lt v y = true := by rw [hcv]; exact decide_eq_true hb.2
      have hall : ∀ u ∈ A.drop e', lt v u = true := by
        have he' : e' < A.length := by omega
        have e1 : A.drop e' = A.getD e' dF :: A.drop (e' + 1) := by rw [List.drop_eq_getElem_cons he']; simp [List.getD, he']
        rw [e1, hy]
        intro u hu
        rcases List.mem_cons.1 hu with rfl | hu
        · exact hlty
        · exact he2 u hu
      have eb' : ((P.length : Int) + ((e' : Int) + 1) - 1).toNat = P.length + e' := by omega
      have ea' : ((P.length : Int) + ((e' : Int) + 1)).toNat = P.length + (e' + 1) := by omega
      rw [hy] at q1 q2
      repeat' (first | refine WK_go ?_ | refine W_seqL ?_ | refine W_seq ?_ | refine W_block ?_ | ((first | refine W_regL ?_ | refine W_skip ?_ | refine W_exit ?_); simp (maxSteps := 400000) (disch := omega) only [push_cast, ↓reduceIte, reduceCtorEq, Nat.reduceAdd, Nat.reduceSub, Nat.reduceEqDiff, Nat.reduceLeDiff, Nat.reduceLT, Nat.reduceBEq, Nat.reduceDiv, Nat.reduceMod, Nat.reducePow, Nat.reduceMul, Int.reduceToNat, Int.reduceLT, Int.reduceLE, keepL, hll, ea', eb', hat, q1, tF, beq_self_eq_true]) | refine And.intro (by omega) ?_ | refine And.intro (by intro hq; (try simp only [Bool.and_eq_true, Bool.or_eq_true, Bool.and_eq_false_iff, Bool.or_eq_false_iff, decide_eq_true_eq, decide_eq_false_iff_not, Bool.not_eq_true', Bool.not_eq_false', beq_iff_eq, beq_eq_false_iff_ne, ne_eq] at hq); omega) ?_ | fail)
      refine ⟨rfl, ⟨by dsimp only; omega, hasM_set _ _ _⟩, by omega, y, rfl, rfl, ?_⟩
      simp (maxSteps := 400000) (disch := omega) only [push_cast, ↓reduceIte, reduceCtorEq, Nat.reduceAdd, Nat.reduceSub, Nat.reduceEqDiff, Nat.reduceLeDiff, Nat.reduceLT, Nat.reduceBEq, Nat.reduceDiv, Nat.reduceMod, Nat.reducePow, Nat.reduceMul, Int.reduceToNat, Int.reduceLT, Int.reduceLE, hll, ea', eb', List.length_set]
      repeat' (first | refine WK_go ?_ | refine W_seqL ?_ | refine W_seq ?_ | refine W_block ?_ | ((first | refine W_regL ?_ | refine W_skip ?_ | refine W_exit ?_); simp (maxSteps := 400000) (disch := omega) only [push_cast, ↓reduceIte, reduceCtorEq, Nat.reduceAdd, Nat.reduceSub, Nat.reduceEqDiff, Nat.reduceLeDiff, Nat.reduceLT, Nat.reduceBEq, Nat.reduceDiv, Nat.reduceMod, Nat.reducePow, Nat.reduceMul, Int.reduceToNat, Int.reduceLT, Int.reduceLE, keepL, hll, ea', eb', List.length_set, beq_self_eq_true]) | refine And.intro (by omega) ?_ | refine And.intro (by intro hq; (try simp only [Bool.and_eq_true, Bool.or_eq_true, Bool.and_eq_false_iff, Bool.or_eq_false_iff, decide_eq_true_eq, decide_eq_false_iff_not, Bool.not_eq_true', Bool.not_eq_false', beq_iff_eq, beq_eq_false_iff_ne, ne_eq] at hq); omega) ?_ | fail)
      refine ⟨rfl, ⟨by dsimp only; omega, hasM_set _ _ _⟩, by omega, v, rfl, rfl, ?_⟩
      rw [q2]
      simp (maxSteps := 400000) (disch := omega) only [push_cast, ↓reduceIte, reduceCtorEq, Nat.reduceAdd, Nat.reduceSub, Nat.reduceEqDiff, Nat.reduceLeDiff, Nat.reduceLT, Nat.reduceBEq, Nat.reduceDiv, Nat.reduceMod, Nat.reducePow, Nat.reduceMul, Int.reduceToNat, Int.reduceLT, Int.reduceLE]
      repeat' (first | refine WK_go ?_ | refine W_seqL ?_ | refine W_seq ?_ | refine W_block ?_ | ((first | refine W_regL ?_ | refine W_skip ?_ | refine W_exit ?_); simp (maxSteps := 400000) (disch := omega) only [push_cast, ↓reduceIte, reduceCtorEq, Nat.reduceAdd, Nat.reduceSub, Nat.reduceEqDiff, Nat.reduceLeDiff, Nat.reduceLT, Nat.reduceBEq, Nat.reduceDiv, Nat.reduceMod, Nat.reducePow, Nat.reduceMul, Int.reduceToNat, Int.reduceLT, Int.reduceLE, keepL]) | refine And.intro (by omega) ?_ | refine And.intro (by intro hq; (try simp only [Bool.and_eq_true, Bool.or_eq_true, Bool.and_eq_false_iff, Bool.or_eq_false_iff, decide_eq_true_eq, decide_eq_false_iff_not, Bool.not_eq_true', Bool.not_eq_false', beq_iff_eq, beq_eq_false_iff_ne, ne_eq] at hq); omega) ?_ | fail)
      refine ⟨e', ⟨by omega, hall⟩, by omega, ?_, rfl⟩
      rw [show (P.length : Int) + ((e' : Int) + 1) - 1 = P.length + e' by omega]
    · have hstop : e = 0 ∨ lt v (A.getD (e - 1) dF) = false := by
        by_cases e0 : e = 0
        · exact .inl e0
        · right
          obtain ⟨e', rfl⟩ : ∃ e', e = e' + 1 := ⟨e - 1, by omega⟩
          have q1 := (insL_dn (P := P) (Q := R) (v := v) dF (show e' < A.length by omega)).1
          have eb : ((P.length : Int) + ((e' + 1 : Nat) : Int) - 1).toNat = P.length + e' := by omega
          rw [eb, q1] at hy
          rw [Nat.add_sub_cancel, hy, hcv]
          simp only [Bool.and_eq_false_iff, decide_eq_false_iff_not] at hb
          exact decide_eq_false (by omega)
      have hins := ins_at hw hA dF v he1 hstop he2
      have hfin : insL P A v e R = P ++ (ins lt v A ++ (U.drop (c + 1 + 1) ++ Q)) := by
        unfold insL
        rw [hins, hR]; simp
      rw [hfin, ← hA2]
      repeat' (first | refine WK_go ?_ | refine W_seqL ?_ | refine W_seq ?_ | refine W_block ?_ | ((first | refine W_regL ?_ | refine W_skip ?_ | refine W_exit ?_); simp (maxSteps := 400000) (disch := omega) only [push_cast, ↓reduceIte, reduceCtorEq, Nat.reduceAdd, Nat.reduceSub, Nat.reduceEqDiff, Nat.reduceLeDiff, Nat.reduceLT, Nat.reduceBEq, Nat.reduceDiv, Nat.reduceMod, Nat.reducePow, Nat.reduceMul, Int.reduceToNat, Int.reduceLT, Int.reduceLE, keepL]) | refine And.intro (by omega) ?_ | refine And.intro (by intro hq; (try simp only [Bool.and_eq_true, Bool.or_eq_true, Bool.and_eq_false_iff, Bool.or_eq_false_iff, decide_eq_true_eq, decide_eq_false_iff_not, Bool.not_eq_true', Bool.not_eq_false', beq_iff_eq, beq_eq_false_iff_ne, ne_eq] at hq); omega) ?_ | fail)
      refine ⟨c + 1, .inr (by omega), by omega, ?_, rfl⟩
      rw [show (P.length : Int) + 1 + ((c + 1 : Nat) : Int) = P.length + 1 + c + 1 by omega]
  · have hcl : U.length ≤ c + 1 := by omega
    rw [List.take_of_length_le hcl, List.drop_of_length_le hcl, List.nil_append]
    repeat' (first | refine WK_go ?_ | refine W_seqL ?_ | refine W_seq ?_ | refine W_block ?_ | ((first | refine W_regL ?_ | refine W_skip ?_ | refine W_exit ?_); simp (maxSteps := 400000) (disch := omega) only [push_cast, ↓reduceIte, reduceCtorEq, Nat.reduceAdd, Nat.reduceSub, Nat.reduceEqDiff, Nat.reduceLeDiff, Nat.reduceLT, Nat.reduceBEq, Nat.reduceDiv, Nat.reduceMod, Nat.reducePow, Nat.reduceMul, Int.reduceToNat, Int.reduceLT, Int.reduceLE, keepL]) | refine And.intro (by omega) ?_ | refine And.intro (by intro hq; (try simp only [Bool.and_eq_true, Bool.or_eq_true, Bool.and_eq_false_iff, Bool.or_eq_false_iff, decide_eq_true_eq, decide_eq_false_iff_not, Bool.not_eq_true', Bool.not_eq_false', beq_iff_eq, beq_eq_false_iff_ne, ne_eq] at hq); omega) ?_ | fail)
end Go.Proofs.Ytbdnnicodailcaa

